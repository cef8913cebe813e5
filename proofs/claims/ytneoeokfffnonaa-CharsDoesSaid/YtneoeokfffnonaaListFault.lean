/- The walk of the reference's ListFault. -/
import Derived.Test.YtneoeokfffnonaaRefW
import Derived.Test.YtneoeokfffnonaaCharsP
import Derived.Deep.DeepCutAuto
import Derived.Deep.LoopGhost
namespace Go.Proofs.Ytneoeokfffnonaa
open Go.RowKit

theorem bad2r_cases (log : Int) (c : Ch) : (bad2 log c = true ∧ c.In < 1) ∨ (bad2 log c = true ∧ 1 ≤ c.In ∧ log < c.In ∧ (c.In != 1073741824) = true) ∨
    (bad2 log c = true ∧ 1 ≤ c.In ∧ c.In ≤ log ∧ c.Out < 0) ∨ (bad2 log c = true ∧ 1 ≤ c.In ∧ log < c.In ∧ (c.In != 1073741824) = false ∧ c.Out < 0) ∨
    (bad2 log c = true ∧ 1 ≤ c.In ∧ c.In ≤ log ∧ 0 ≤ c.Out ∧ log < c.Out) ∨ (bad2 log c = true ∧ 1 ≤ c.In ∧ log < c.In ∧ (c.In != 1073741824) = false ∧ 0 ≤ c.Out ∧ log < c.Out) ∨
    (bad2 log c = false ∧ 1 ≤ c.In ∧ c.In ≤ log ∧ 0 ≤ c.Out ∧ c.Out ≤ log) ∨ (bad2 log c = false ∧ 1 ≤ c.In ∧ log < c.In ∧ (c.In != 1073741824) = false ∧ 0 ≤ c.Out ∧ c.Out ≤ log) := by
  unfold bad2
  by_cases h : c.In = 1073741824 <;> simp [h] <;> omega

theorem bad3r_cases (c : Ch) (h : 0 ≤ c.Out) : (bad3 c = false ∧ (c.Out != 0) = false) ∨ (bad3 c = true ∧ (c.Out != 0) = true ∧ c.Out ≤ c.In) ∨ (bad3 c = true ∧ (c.Out != 0) = true ∧ c.In < c.Out ∧ (c.Gone == 0) = true) ∨ (bad3 c = false ∧ (c.Out != 0) = true ∧ c.In < c.Out ∧ (c.Gone == 0) = false) := by
  unfold bad3
  by_cases h1 : c.Gone = 0 <;> by_cases h2 : c.Out = 0 <;> simp [h1, h2] <;> omega

theorem FindIn_n (a : Option Addr) (cap : Nat) (l : List Ch) (c : Ch) (n : Nat) (hn : l.length = n) (w : World) (hs : SlCh w a cap l) :
    Calls Try.prog 19 #[.slice a n cap, .agg #[.int .u8 c.C, .int .i64 c.By, .int .i64 c.No, .int .i64 c.K, .int .i64 c.In, .int .i64 c.Out, .int .i64 c.Gone]] w fun e w' => e = .returned (.int .i64 (find l c)) ∧ Below w.heap.size w w' := by
  subst hn; exact FindIn_c a cap l c w hs

theorem bad2_out (log : Int) (c : Ch) (h : bad2 log c = false) : 0 ≤ c.Out := by
  rcases bad2_cases log c with ⟨hx, _⟩ | ⟨hx, _⟩ | ⟨hx, _⟩ | ⟨hx, _⟩ | ⟨hx, _⟩ | ⟨hx, _⟩ | ⟨_, _, h1, _⟩ | ⟨_, _, _, _, h1, _⟩ <;> first | exact h1 | (rw [h] at hx; cases hx)

set_option maxRecDepth 100000 in
set_option maxHeartbeats 1000000 in
theorem ListFault_c (a : Option Addr) (cap : Nat) (l : List Ch) (log : Int) (w : World) (hs : SlCh w a cap l) :
    Calls Try.prog 39 #[.slice a l.length cap, .int .i64 log] w fun e w' => e = .returned (.int .i64 (listFault l log)) ∧ Below w.heap.size w w' := by
  have hm : l.length ≤ maxLen := Nat.le_trans hs.1 hs.2.1
  unfold maxLen at hm
  by_cases hbig : 200 < l.length
  · have Hf := Lib.hid (show listFault l log = 10 by unfold listFault; rw [if_pos hbig])
    go_enter Try.func39, Try.ntmps39
    go_wp2
    go_ret
    exact ⟨by rw [Hf.out]; rfl, Below.refl _ _⟩
  have hsm : l.length ≤ 200 := by omega
  have Hf := Lib.hid (show listFault l log = chk log [] l by unfold listFault; rw [if_neg hbig])
  clear hbig
  go_enter Try.func39, Try.ntmps39
  go_wp2
  go_loopw [5] (fun i wr => ∃ k : Nat, k ≤ l.length ∧ i = .int .i64 k ∧ Below w.heap.size w wr ∧ Hid (chk log (l.take k) (l.drop k) = chk log [] l)) (fun i _ => l.length - (intOf i).toNat)
  case atStart => exact ⟨0, Nat.zero_le _, rfl, Below.refl _ _, Lib.hid (by simp)⟩
  case round =>
    obtain ⟨k, hk, rfl, hb, HE⟩ := hrel
    by_cases hlt : k < l.length
    · obtain ⟨b, off, rfl, hc⟩ := hs.nth hlt
      obtain ⟨q0, q1, q2, q3, q4, q5, q6⟩ := hc.below hb hc.lt
      have HD := Lib.hid (show chk log (l.take k) (l.drop k) = if bad1 l[k] then 1 else if bad2 log l[k] then 1 else if bad3 l[k] then 3 else if 0 ≤ find (l.take k) l[k] then 6 else chk log (l.take (k + 1)) (l.drop (k + 1)) by
        rw [List.drop_eq_getElem_cons hlt, List.take_succ_eq_append_getElem hlt]; rfl)
      generalize hx : l[k] = x at *
      have HX := Lib.hid hx; clear hx
      go_upto_region 7 with fail
      go_cut [48] (fun s17 wx => s17 = .bool (bad1 x) ∧ wx = wr.alloc (.cells #[.int .u8 x.C, .int .i64 x.By, .int .i64 x.No, .int .i64 x.K, .int .i64 x.In, .int .i64 x.Out, .int .i64 x.Gone] 24))
      case first =>
        rcases bad1_cases x with ⟨hx, h⟩ | ⟨hx, h, h1⟩ | ⟨hx, h, h1, h2⟩ | ⟨hx, h, h1, h2, h3⟩ | ⟨hx, h, h1, h2, h3, h4⟩ | ⟨hx, h, h1, h2, h3, h4, h5⟩ | ⟨hx, h, h1, h2, h3, h4, h5⟩
        all_goals
          have HB := Lib.hid hx; clear hx
          go_wp2_with (go_at_call 32; refine (IsWriter_c _ _).mono ?_; rintro e w' ⟨rfl, rfl⟩)
          go_meet
          exact ⟨by (try rw [HB.out]); first | done | rfl | (congr 1; simp; omega), rfl⟩
      case rest =>
        obtain ⟨rfl, rfl⟩ := hcut
        cases hB1 : bad1 x
        case true =>
          have HD2 := Lib.hid (show chk log [] l = 1 by rw [← HE.out, HD.out, hB1]; rfl)
          clear HD HE
          go_wp2
          go_ret
          exact ⟨by rw [Hf.out, HD2.out]; rfl, hb.alloc hb.size _⟩
        case false =>
        go_upto_region 9 with fail
        go_cut [73] (fun s17 wx => s17 = .bool (bad2 log x) ∧ wx = wr.alloc (.cells #[.int .u8 x.C, .int .i64 x.By, .int .i64 x.No, .int .i64 x.K, .int .i64 x.In, .int .i64 x.Out, .int .i64 x.Gone] 24))
        case first =>
          rcases bad2r_cases log x with ⟨hx, h⟩ | ⟨hx, h, h1, h2⟩ | ⟨hx, h, h1, h2⟩ | ⟨hx, h, h1, h2, h3⟩ | ⟨hx, h, h1, h2, h3⟩ | ⟨hx, h, h1, h2, h3, h4⟩ | ⟨hx, h, h1, h2, h3⟩ | ⟨hx, h, h1, h2, h3, h4⟩
          all_goals
            have HB := Lib.hid hx; clear hx
            go_wp2
            go_meet
            exact ⟨by (try rw [HB.out]); first | done | rfl | (congr 1; simp; omega), rfl⟩
        case rest =>
          obtain ⟨rfl, rfl⟩ := hcut
          cases hB2 : bad2 log x
          case true =>
            have HD2 := Lib.hid (show chk log [] l = 1 by rw [← HE.out, HD.out, hB1, hB2]; rfl)
            clear HD HE
            go_wp2
            go_ret
            exact ⟨by rw [Hf.out, HD2.out]; rfl, hb.alloc hb.size _⟩
          case false =>
          go_upto_region 11 with fail
          go_cut [88] (fun s17 wx => s17 = .bool (bad3 x) ∧ wx = wr.alloc (.cells #[.int .u8 x.C, .int .i64 x.By, .int .i64 x.No, .int .i64 x.K, .int .i64 x.In, .int .i64 x.Out, .int .i64 x.Gone] 24))
          case first =>
            rcases bad3r_cases x (bad2_out log x hB2) with ⟨hx, h⟩ | ⟨hx, h, h1⟩ | ⟨hx, h, h1, h2⟩ | ⟨hx, h, h1, h2⟩
            all_goals
              have HB := Lib.hid hx; clear hx
              go_wp2
              go_meet
              exact ⟨by (try rw [HB.out]); first | done | rfl | (congr 1; simp; omega), rfl⟩
          case rest =>
            obtain ⟨rfl, rfl⟩ := hcut
            cases hB3 : bad3 x
            case true =>
              have HD2 := Lib.hid (show chk log [] l = 3 by rw [← HE.out, HD.out, hB1, hB2, hB3]; rfl)
              clear HD HE
              go_wp2
              go_ret
              exact ⟨by rw [Hf.out, HD2.out]; rfl, hb.alloc hb.size _⟩
            case false =>
              have hcap : k ≤ cap := Nat.le_trans hk hs.1
              have hcap' : (k : Int) ≤ cap := by omega
              go_wp2
              obtain ⟨wz, hwz⟩ : ∃ wz, wz = wr.alloc (.cells #[.int .u8 x.C, .int .i64 x.By, .int .i64 x.No, .int .i64 x.K, .int .i64 x.In, .int .i64 x.Out, .int .i64 x.Gone] 24) := ⟨_, rfl⟩
              have hbz : Below w.heap.size w wz := by rw [hwz]; exact hb.alloc hb.size _
              have hcz : ChAt wz wr.heap.size 0 x := by rw [hwz]; simp [ChAt]
              rw [← hwz]
              clear hwz q0 q1 q2 q3 q4 q5 q6
              obtain ⟨r0, r1, r2, r3, r4, r5, r6⟩ := hcz
              go_still_tail 4, (by kernel_rfl)
              go_wp2_with fail
              refine (FindIn_n (some ⟨b, off, none⟩) cap (l.take k) x k (by simp; omega) _ (SlCh.of_block (w' := wz.drew) ((hs.below hbz).take k) fun _ _ _ => rfl)).mono ?_
              rintro e w3 ⟨rfl, hb3⟩
              have hbx : Below w.heap.size w w3 := hbz.drew.trans (hb3.mono hbz.size)
              by_cases hf : 0 ≤ find (l.take k) x
              · have HD2 := Lib.hid (show chk log [] l = 6 by rw [← HE.out, HD.out, hB1, hB2, hB3, if_pos hf]; rfl)
                clear HD HE
                go_wp2
                go_ret
                exact ⟨by rw [Hf.out, HD2.out]; rfl, hbx⟩
              · have HD2 := Lib.hid (show chk log (l.take (k + 1)) (l.drop (k + 1)) = chk log [] l by rw [← HE.out, HD.out, hB1, hB2, hB3, if_neg hf]; rfl)
                clear HD HE
                go_wp2
                go_roundw
                case rel => exact ⟨k + 1, by omega, by go_num, hbx, HD2⟩
                case measure => simp [intOf]; omega
    · obtain rfl : k = l.length := by omega
      have HD2 := Lib.hid (show chk log [] l = 0 by rw [← HE.out]; simp [chk])
      clear HE
      go_wp2
      go_ret
      exact ⟨by rw [Hf.out, HD2.out]; rfl, hb⟩
end Go.Proofs.Ytneoeokfffnonaa
