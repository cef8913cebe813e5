/- The walk of chars.Check. -/
import Derived.Test.YtneoeokfffnonacCharsW
import Derived.Deep.DeepCutAuto
import Derived.Deep.LoopGhost
set_option linter.unusedVariables false
set_option linter.unusedSimpArgs false
namespace Go.Proofs.Ytneoeokfffnonac
open Go.RowKit

set_option maxRecDepth 100000 in
set_option maxHeartbeats 1000000 in
theorem Check_c (a : Option Addr) (cap : Nat) (l : List Ch) (log : Int) (w : World) (hs : SlCh w a cap l) :
    Calls Try.prog 101 #[.slice a l.length cap, .int .i64 log] w fun e w' => e = .returned (.int .i64 (listFault l log)) ∧ Below w.heap.size w w' := by
  have hm : l.length ≤ maxLen := Nat.le_trans hs.1 hs.2.1
  unfold maxLen at hm
  by_cases hbig : 200 < l.length
  · have Hf := Lib.hid (show listFault l log = 10 by unfold listFault; rw [if_pos hbig])
    go_enter Try.func101, Try.ntmps101
    go_wp2
    go_ret
    exact ⟨by rw [Hf.out]; rfl, Below.refl _ _⟩
  have hsm : l.length ≤ 200 := by omega
  have Hf := Lib.hid (show listFault l log = chk log [] l by unfold listFault; rw [if_neg hbig])
  clear hbig
  go_enter Try.func101, Try.ntmps101
  go_wp2
  go_loopw [12] (fun i wr => ∃ k : Nat, k ≤ l.length ∧ i = .int .i64 k ∧ Below w.heap.size w wr ∧ Hid (chk log (l.take k) (l.drop k) = chk log [] l)) (fun i _ => l.length - (intOf i).toNat)
  case atStart => exact ⟨0, Nat.zero_le _, rfl, Below.refl _ _, Lib.hid (by simp)⟩
  case round =>
    obtain ⟨k, hk, rfl, hb, HE⟩ := hrel
    by_cases hlt : k < l.length
    · obtain ⟨b, off, rfl, hc⟩ := hs.nth hlt
      obtain ⟨q0, q1, q2, q3, q4, q5, q6⟩ := hc.below hb hc.lt
      have HD := Lib.hid (show chk log (l.take k) (l.drop k) = if bad1 l[k] then 1 else if bad2 log l[k] then 1 else if bad3 l[k] then 3 else if 0 ≤ find (l.take k) l[k] then 6 else chk log (l.take (k + 1)) (l.drop (k + 1)) by
        rw [List.drop_eq_getElem_cons hlt, List.take_succ_eq_append_getElem hlt]; rfl)
      generalize hx : l[k] = x at *
      have HX := Lib.hid hx; clear hx
      go_upto_region 6 with fail
      go_cut [17] (fun s17 wx => s17 = .bool (bad1 x) ∧ wx = wr.alloc (.cells #[.int .u8 x.C, .int .i64 x.By, .int .i64 x.No, .int .i64 x.K, .int .i64 x.In, .int .i64 x.Out, .int .i64 x.Gone] 86))
      case first =>
        rcases bad1_cases x with ⟨hx, h⟩ | ⟨hx, h, h1⟩ | ⟨hx, h, h1, h2⟩ | ⟨hx, h, h1, h2, h3⟩ | ⟨hx, h, h1, h2, h3, h4⟩ | ⟨hx, h, h1, h2, h3, h4, h5⟩ | ⟨hx, h, h1, h2, h3, h4, h5⟩
        all_goals
          have HB := Lib.hid hx; clear hx
          go_wp2_with (go_at_call 96; refine (Writer_c _ _).mono ?_; rintro e w' ⟨rfl, rfl⟩)
          go_meet
          exact ⟨by (try rw [HB.out]); first | done | rfl | (congr 1; simp; omega), rfl⟩
      case rest =>
        obtain ⟨rfl, rfl⟩ := hcut
        cases hB1 : bad1 x
        case true =>
          have HD2 := Lib.hid (show chk log [] l = 1 by rw [← HE.out, HD.out, hB1]; rfl)
          clear HD HE
          go_wp2
          go_ret
          exact ⟨by rw [Hf.out, HD2.out]; rfl, hb.alloc hb.size _⟩
        case false =>
        go_upto_region 8 with fail
        go_cut [47] (fun s17 wx => s17 = .bool (bad2 log x) ∧ wx = wr.alloc (.cells #[.int .u8 x.C, .int .i64 x.By, .int .i64 x.No, .int .i64 x.K, .int .i64 x.In, .int .i64 x.Out, .int .i64 x.Gone] 86))
        case first =>
          rcases bad2_cases log x with ⟨hx, h, h1⟩ | ⟨hx, h, h1, h2⟩ | ⟨hx, h, h1⟩ | ⟨hx, h, h1, h2, h3⟩ | ⟨hx, h, h1, h2⟩ | ⟨hx, h, h1, h2, h3, h4⟩ | ⟨hx, h, h1, h2⟩ | ⟨hx, h, h1, h2, h3, h4⟩
          all_goals
            have HB := Lib.hid hx; clear hx
            go_wp2
            go_meet
            exact ⟨by (try rw [HB.out]); first | done | rfl | (congr 1; simp; omega), rfl⟩
        case rest =>
          obtain ⟨rfl, rfl⟩ := hcut
          cases hB2 : bad2 log x
          case true =>
            have HD2 := Lib.hid (show chk log [] l = 1 by rw [← HE.out, HD.out, hB1, hB2]; rfl)
            clear HD HE
            go_wp2
            go_ret
            exact ⟨by rw [Hf.out, HD2.out]; rfl, hb.alloc hb.size _⟩
          case false =>
          go_upto_region 10 with fail
          go_cut [73] (fun s17 wx => s17 = .bool (bad3 x) ∧ wx = wr.alloc (.cells #[.int .u8 x.C, .int .i64 x.By, .int .i64 x.No, .int .i64 x.K, .int .i64 x.In, .int .i64 x.Out, .int .i64 x.Gone] 86))
          case first =>
            rcases bad3_cases x with ⟨hx, h⟩ | ⟨hx, h, h1⟩ | ⟨hx, h, h1, h2⟩ | ⟨hx, h, h1, h2⟩
            all_goals
              have HB := Lib.hid hx; clear hx
              go_wp2
              go_meet
              exact ⟨by (try rw [HB.out]); first | done | rfl | (congr 1; simp; omega), rfl⟩
          case rest =>
            obtain ⟨rfl, rfl⟩ := hcut
            cases hB3 : bad3 x
            case true =>
              have HD2 := Lib.hid (show chk log [] l = 3 by rw [← HE.out, HD.out, hB1, hB2, hB3]; rfl)
              clear HD HE
              go_wp2
              go_ret
              exact ⟨by rw [Hf.out, HD2.out]; rfl, hb.alloc hb.size _⟩
            case false =>
              have hcap : k ≤ cap := Nat.le_trans hk hs.1
              have hcap' : (k : Int) ≤ cap := by omega
              go_wp2
              obtain ⟨wz, hwz⟩ : ∃ wz, wz = wr.alloc (.cells #[.int .u8 x.C, .int .i64 x.By, .int .i64 x.No, .int .i64 x.K, .int .i64 x.In, .int .i64 x.Out, .int .i64 x.Gone] 86) := ⟨_, rfl⟩
              have hbz : Below w.heap.size w wz := by rw [hwz]; exact hb.alloc hb.size _
              have hcz : ChAt wz wr.heap.size 0 x := by rw [hwz]; simp [ChAt]
              rw [← hwz]
              clear hwz q0 q1 q2 q3 q4 q5 q6
              obtain ⟨r0, r1, r2, r3, r4, r5, r6⟩ := hcz
              go_still_tail 4, (by kernel_rfl)
              go_wp2_with fail
              refine (Find_n (some ⟨b, off, none⟩) cap (l.take k) x k (by simp; omega) _ (SlCh.of_block (w' := wz.drew) ((hs.below hbz).take k) fun _ _ _ => rfl)).mono ?_
              rintro e w3 ⟨rfl, hb3⟩
              have hbx : Below w.heap.size w w3 := hbz.drew.trans (hb3.mono hbz.size)
              by_cases hf : 0 ≤ find (l.take k) x
              · have HD2 := Lib.hid (show chk log [] l = 6 by rw [← HE.out, HD.out, hB1, hB2, hB3, if_pos hf]; rfl)
                clear HD HE
                go_wp2
                go_ret
                exact ⟨by rw [Hf.out, HD2.out]; rfl, hbx⟩
              · have HD2 := Lib.hid (show chk log (l.take (k + 1)) (l.drop (k + 1)) = chk log [] l by rw [← HE.out, HD.out, hB1, hB2, hB3, if_neg hf]; rfl)
                clear HD HE
                go_wp2
                go_roundw
                case rel => exact ⟨k + 1, by omega, by go_num, hbx, HD2⟩
                case measure => simp [intOf]; omega
    · obtain rfl : k = l.length := by omega
      have HD2 := Lib.hid (show chk log [] l = 0 by rw [← HE.out]; simp [chk])
      clear HE
      go_wp2
      go_ret
      exact ⟨by rw [Hf.out, HD2.out]; rfl, hb⟩
end Go.Proofs.Ytneoeokfffnonac
