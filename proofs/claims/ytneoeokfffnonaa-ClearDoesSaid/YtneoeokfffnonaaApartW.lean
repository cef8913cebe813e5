/- The walk of apart: does no byte stand twice? -/
import Derived.Test.YtneoeokfffnonaaSlideP
import Derived.Test.YtneoeokfffnonaaRefW2
namespace Go.Proofs.Ytneoeokfffnonaa
open Go.RowKit

set_option maxHeartbeats 1000000 in
theorem apart_c (a : Option Addr) (cap : Nat) (l : List Ch) (w : World) (hs : SlCh w a cap l) :
    Calls Try.prog 15 #[.slice a l.length cap] w fun e w' => ∃ r, e = .returned (.bool r) ∧ Below w.heap.size w w' ∧ (r = true → apartB l) := by
  have hm : l.length ≤ maxLen := Nat.le_trans hs.1 hs.2.1
  unfold maxLen at hm
  go_enter Try.func15, Try.ntmps15
  go_wp2
  go_loopw [3] (fun i wr => ∃ k : Nat, k ≤ l.length ∧ i = .int .i64 k ∧ Below w.heap.size w wr ∧ Hid (∀ j (hj : j < l.length), j < k → find l l[j] = j)) (fun i _ => l.length - (intOf i).toNat)
  case atStart => exact ⟨0, Nat.zero_le _, rfl, Below.refl _ _, Lib.hid (fun j hj h => by omega)⟩
  case round =>
    obtain ⟨k, hk, rfl, hb, HE⟩ := hrel
    by_cases hlt : k < l.length
    · obtain ⟨b, off, rfl, hc⟩ := hs.nth hlt
      obtain ⟨q0, q1, q2, q3, q4, q5, q6⟩ := hc.below hb hc.lt
      have hsb := hs.below hb
      have hlt' : (k : Int) < l.length := by omega
      have HX := Lib.hid (fun (j : Nat) (hj : j < l.length) (hjk : j < k + 1) => show find l l[k] = k → find l l[j] = j from fun e => by
        by_cases h : j < k
        · exact HE.out j hj h
        · obtain rfl : j = k := by omega
          exact e)
      generalize hx : l[k] = x at *
      go_wp2_with fail
      refine (FindIn_c _ cap l x _ hsb).mono ?_
      rintro e w2 ⟨rfl, hb2⟩
      have hbx : Below w.heap.size w w2 := hb.trans (hb2.mono hb.size)
      clear q0 q1 q2 q3 q4 q5 q6
      by_cases hf : find l x = k
      · rw [hf]
        have HX2 := Lib.hid (fun (j : Nat) (hj : j < l.length) (hjk : j < k + 1) => HX.out j hj hjk hf)
        clear HX hf
        go_wp2
        exact ⟨⟨k + 1, by omega, by go_num, hbx, HX2⟩, by simp [intOf]; omega⟩
      · have hne : (find l x != (k : Int)) = true := by simpa using hf
        clear HX hf
        go_wp2
        go_ret
        exact ⟨_, rfl, hbx, fun h => by cases h⟩
    · obtain rfl : k = l.length := by omega
      have HX := Lib.hid (show apartB l from fun i h => HE.out i h h)
      clear HE
      go_wp2
      go_ret
      exact ⟨_, rfl, hb, fun _ => HX.out⟩
end Go.Proofs.Ytneoeokfffnonaa
