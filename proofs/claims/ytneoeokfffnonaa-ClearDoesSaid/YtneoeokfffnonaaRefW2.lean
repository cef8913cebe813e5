/- The walks of the reference's Same and FindIn. -/
import Derived.Test.YtneoeokfffnonaaRefW
namespace Go.Proofs.Ytneoeokfffnonaa
open Go.RowKit

theorem RSame_c (x y : Ch) (w : World) :
    Calls Try.prog 41 #[.agg #[.int .u8 x.C, .int .i64 x.By, .int .i64 x.No, .int .i64 x.K, .int .i64 x.In, .int .i64 x.Out, .int .i64 x.Gone], .agg #[.int .u8 y.C, .int .i64 y.By, .int .i64 y.No, .int .i64 y.K, .int .i64 y.In, .int .i64 y.Out, .int .i64 y.Gone]] w fun e w' => e = .returned (.bool (x.same y)) ∧ Below w.heap.size w w' := by
  have Hf := Lib.hid (show x.same y = (x.By == y.By && x.No == y.No && x.K == y.K) from rfl)
  have Hend := Lib.hid (fun (o o' : Obj) => ((Below.refl w.heap.size w).alloc (Nat.le_refl _) o).alloc (by simp) o')
  go_enter Try.func41, Try.ntmps41
  cases h1 : x.By == y.By <;> cases h2 : x.No == y.No
  all_goals
    go_wp2
    go_ret
    exact ⟨by rw [Hf.out]; simp [h1, h2], Hend.out _ _⟩

theorem FindIn_c (a : Option Addr) (cap : Nat) (l : List Ch) (c : Ch) (w : World) (hs : SlCh w a cap l) :
    Calls Try.prog 19 #[.slice a l.length cap, .agg #[.int .u8 c.C, .int .i64 c.By, .int .i64 c.No, .int .i64 c.K, .int .i64 c.In, .int .i64 c.Out, .int .i64 c.Gone]] w fun e w' => e = .returned (.int .i64 (find l c)) ∧ Below w.heap.size w w' := by
  have hm : l.length ≤ maxLen := Nat.le_trans hs.1 hs.2.1
  unfold maxLen at hm
  have Hf := Lib.hid (show find l c = findFrom c l 0 from rfl)
  go_enter Try.func19, Try.ntmps19
  go_wp2
  obtain ⟨w0, hw0⟩ : ∃ w0, w0 = w.alloc (.cells #[.int .u8 c.C, .int .i64 c.By, .int .i64 c.No, .int .i64 c.K, .int .i64 c.In, .int .i64 c.Out, .int .i64 c.Gone] 24) := ⟨_, rfl⟩
  have hs0 : w0.heap.size = w.heap.size + 1 := by rw [hw0]; simp
  have hb0 : Below w.heap.size w w0 := by rw [hw0]; exact (Below.refl _ _).alloc (Nat.le_refl _) _
  have hc0 : ChAt w0 w.heap.size 0 c := by rw [hw0]; simp [ChAt]
  rw [← hw0]
  clear hw0
  have HS := Lib.hid hs0; clear hs0
  go_loopw [5] (fun i wr => ∃ k : Nat, k ≤ l.length ∧ i = .int .i64 k ∧ Below w.heap.size w wr ∧ ChAt wr w.heap.size 0 c ∧ Hid (findFrom c (l.drop k) k = findFrom c l 0)) (fun i _ => l.length - (intOf i).toNat)
  case atStart => exact ⟨0, Nat.zero_le _, rfl, hb0, hc0, Lib.hid (by simp)⟩
  case round =>
    obtain ⟨k, hk, rfl, hb, hcc, HE⟩ := hrel
    by_cases hlt : k < l.length
    · obtain ⟨b, off, rfl, hc⟩ := hs.nth hlt
      obtain ⟨q0, q1, q2, q3, q4, q5, q6⟩ := hc.below hb hc.lt
      obtain ⟨r0, r1, r2, r3, r4, r5, r6⟩ := hcc
      have HD := Lib.hid (show findFrom c (l.drop k) k = if l[k].same c then (k : Int) else findFrom c (l.drop (k + 1)) (k + 1) by rw [List.drop_eq_getElem_cons hlt]; rfl)
      have hlt' : (k : Int) < l.length := by omega
      go_wp2
      go_still_tail 5, (by kernel_rfl)
      go_wp2_with fail
      refine (RSame_c l[k] c _).mono ?_
      rintro e w2 ⟨rfl, hb2⟩
      have hbx : Below w.heap.size w w2 := hb.drew.trans (hb2.mono hb.size)
      have hcx : ChAt w2 w.heap.size 0 c := ChAt.below (w := wr.drew) ⟨r0, r1, r2, r3, r4, r5, r6⟩ hb2 (World.block_lt_of_cell? wr _ r0)
      clear q0 q1 q2 q3 q4 q5 q6 r0 r1 r2 r3 r4 r5 r6
      cases hsm : l[k].same c
      · have HD2 := Lib.hid (show findFrom c (l.drop (k + 1)) ((k + 1 : Nat) : Int) = findFrom c l 0 by rw [← HE.out, HD.out, hsm]; simp)
        clear HD HE
        go_wp2
        exact ⟨⟨k + 1, by omega, by go_num, hbx, hcx, HD2⟩, by simp [intOf]; omega⟩
      · have HD2 := Lib.hid (show findFrom c l 0 = k by rw [← HE.out, HD.out, hsm]; simp)
        clear HD HE
        go_wp2
        go_ret
        exact ⟨by rw [Hf.out, HD2.out]; rfl, hbx⟩
    · obtain rfl : k = l.length := by omega
      have HD2 := Lib.hid (show findFrom c l 0 = -1 by rw [← HE.out]; simp [findFrom])
      clear HE
      go_wp2
      go_ret
      exact ⟨by rw [Hf.out, HD2.out]; rfl, hb⟩
end Go.Proofs.Ytneoeokfffnonaa
