/- The walk of the law LogRefuses. -/
import Derived.Test.YtneoeokfffnonabLLShared
import Derived.Test.YtneoeokfffnonabPlain
import Derived.Deep.DeepCutAuto
import Derived.Deep.CutBlock
set_option linter.unusedVariables false
set_option linter.unusedSimpArgs false
namespace Go.Proofs.Ytneoeokfffnonab
open Go.RowKit

structure ArrB (w : World) (A : Nat) (f : Nat → Bool) : Prop where
  lt : A < w.heap.size
  c : ∀ j, j < 4 → w.cell? ⟨A, j, none⟩ = some (.bool (f j))
  fz : ∀ j, j < 4 → w.frozen? ⟨A, j, none⟩ = false
theorem ArrB.of {w w' : World} {A : Nat} {f : Nat → Bool} (h : ArrB w A f) (hz : w.heap.size ≤ w'.heap.size) (hc : ∀ o, w'.cell? ⟨A, o, none⟩ = w.cell? ⟨A, o, none⟩) (hf : ∀ o, w'.frozen? ⟨A, o, none⟩ = w.frozen? ⟨A, o, none⟩) : ArrB w' A f :=
  ⟨Nat.lt_of_lt_of_le h.lt hz, fun j hj => (hc j).trans (h.c j hj), fun j hj => (hf j).trans (h.fz j hj)⟩
theorem ArrB.later {w w' : World} {A : Nat} {f : Nat → Bool} (h : ArrB w A f) (hl : Below w.heap.size w w') : ArrB w' A f :=
  h.of hl.size (fun o => hl.cell (p := ⟨A, o, none⟩) h.lt) (fun o => hl.frozen (p := ⟨A, o, none⟩) h.lt)
theorem ArrB.moves {w w' : World} {A : Nat} {f : Nat → Bool} {G : Nat → Prop} (h : ArrB w A f) (hm : Moves G w w') (hd : ¬ G A) : ArrB w' A f :=
  h.of hm.size (fun o => hm.cell h.lt hd o) (fun o => hm.frozen h.lt hd o)
theorem ArrB.set {w : World} {A : Nat} {f : Nat → Bool} (h : ArrB w A f) (i : Nat) (v : Bool) (g : Nat → Bool) (hg : ∀ j, j < 4 → g j = if j = i then v else f j) : ArrB (w.setCell ⟨A, i, none⟩ (.bool v)) A g := by
  refine ⟨by simpa using h.lt, fun j hj => ?_, fun j hj => by rw [World.frozen?_setCell]; exact h.fz j hj⟩
  rw [hg j hj]
  by_cases e : j = i
  · subst e; rw [if_pos rfl]; exact World.cell?_setCell_same _ _ _ (h.c j hj)
  · rw [if_neg e, World.cell?_setCell_other _ _ _ _ (fun h => e (by cases h; rfl))]; exact h.c j hj
/-- Who is there, as far as the law has asked. -/
def askedF (m : LogM) (k : Nat) (j : Nat) : Bool := if j < k then m.hereF (j : Int) else false
theorem askedF_step (m : LogM) (k j : Nat) : askedF m (k + 1) j = if j = k then m.hereF (k : Int) else askedF m k j := by
  unfold askedF
  by_cases e : j = k
  · subst e; rw [if_pos (by omega), if_pos rfl]
  · rw [if_neg e]; by_cases h : j < k
    · rw [if_pos (by omega), if_pos h]
    · rw [if_neg (by omega), if_neg h]
theorem join_refused {m : LogM} {w : Int} (h : (m.joinF w).2.2 ≠ 0) : (m.joinF w).1 = m := by
  unfold LogM.joinF at *; split <;> (try split) <;> simp_all
theorem leave_refused {m : LogM} {w : Int} (h : (m.leaveF w).2 ≠ 0) : (m.leaveF w).1 = m := by
  unfold LogM.leaveF at *; split <;> simp_all
theorem says_refused {m : LogM} {w n : Int} (h : (m.saysF w n).2 ≠ 0) : (m.saysF w n).1 = m := by
  unfold LogM.saysF at *; split <;> (try split) <;> simp_all
theorem LsAt.later {w w' : World} {b : Nat} {x : LStep} (h : LsAt w b x) (hl : Below w.heap.size w w') : LsAt w' b x := h.of_cells hl.size (fun o => hl.cell (p := ⟨b, o, none⟩) h.lt)
theorem LsAt.belowB {w w' : World} {b B : Nat} {x : LStep} (h : LsAt w b x) (hl : Below B w w') (hb : b < B) : LsAt w' b x := h.of_cells hl.size (fun o => hl.cell (p := ⟨b, o, none⟩) hb)

set_option maxRecDepth 100000 in
set_option maxHeartbeats 1000000 in
theorem LogRefuses_c (a : Option Addr) (cap : Nat) (l : List LStep) (y : LStep) (w : World) (hs : SlLs w a cap l) (hok : ∀ x ∈ l, x.ok) (hy : y.ok) :
    Calls Try.prog 9 #[.slice a l.length cap, .agg #[.int .i64 y.Do, .int .i64 y.W, .int .i64 y.N, .int .i64 y.D.Kind, .int .i64 y.D.By, .int .i64 y.D.No, .int .i64 y.D.Seen, .int .i64 y.D.At, .int .i64 y.D.Many, .string y.D.Text, .bool y.Right]] w fun e w' => e = .returned (.bool true) ∧ Below w.heap.size w w' := by
  have HXK := Lib.hid hok; clear hok
  have HYK := Lib.hid hy; clear hy
  have hb0 := (Below.refl w.heap.size w).alloc (Nat.le_refl _) (.cells #[.int .i64 y.Do, .int .i64 y.W, .int .i64 y.N, .int .i64 y.D.Kind, .int .i64 y.D.By, .int .i64 y.D.No, .int .i64 y.D.Seen, .int .i64 y.D.At, .int .i64 y.D.Many, .string y.D.Text, .bool y.Right] 54)
  have HY0 := Lib.hid (LsAt.new w y)
  have hs0 := hs.below hb0
  clear hs
  go_enter Try.func9, Try.ntmps9
  go_upto_region 1 with fail
  generalize w.alloc (.cells #[.int .i64 y.Do, .int .i64 y.W, .int .i64 y.N, .int .i64 y.D.Kind, .int .i64 y.D.By, .int .i64 y.D.No, .int .i64 y.D.Seen, .int .i64 y.D.At, .int .i64 y.D.Many, .string y.D.Text, .bool y.Right] 54) = w0 at *
  go_wp2_with fail
  refine (logBegun_c _).mono ?_
  rintro e w1 ⟨rfl, hb01⟩
  have hs1 := hs0.below hb01
  have HY1 := Lib.hid (HY0.out.later hb01)
  have hb1 := hb0.trans (hb01.mono hb0.size)
  clear hs0 HY0 hb01 hb0
  go_wp2_with fail
  refine (greatLog_c a cap l _ hs1).mono ?_
  rintro e w2 ⟨r, rfl, rfl, hr⟩
  cases r
  case true =>
    clear hr
    go_wp2
    go_ret
    exact ⟨rfl, hb1⟩
  obtain ⟨hl150, _⟩ := hr rfl
  clear hr
  have c9 := HY1.out.c9
  by_cases htx : 100 < y.D.Text.size
  · have htB : decide (100 < (y.D.Text.size : Int)) = true := decide_eq_true (by omega)
    have htN : decide (100 < y.D.Text.size) = true := decide_eq_true htx
    go_wp2
    go_ret
    exact ⟨rfl, hb1⟩
  have htB : decide (100 < (y.D.Text.size : Int)) = false := decide_eq_false (by omega)
  have htN : decide (100 < y.D.Text.size) = false := decide_eq_false htx
  go_upto_region 5 with fail
  clear c9 htB htN htx
  go_wp2_with fail
  refine (New_log _).mono ?_
  rintro e w3 ⟨F, g, rfl, hL3, hb3⟩
  have HL3 := Lib.hid hL3
  clear hL3
  go_upto_region 6 with fail
  generalize hw4 : w3.alloc _ = w4
  obtain ⟨hB4, hb4⟩ := both_new HL3.out hw4.symm
  have HB4 := Lib.hid hB4
  have hx4 : Below w2.heap.size w2 w4 := hb3.trans (hb4.mono hb3.size)
  clear hw4 hB4 hb4 hb3 HL3
  generalize w3.heap.size = b at *
  obtain ⟨base, hbase⟩ : ∃ base, base = w2.heap.size := ⟨_, rfl⟩
  rw [← hbase] at HB4 hx4
  have HBS := Lib.hid hbase
  have HBZ := Lib.hid (show base ≤ w2.heap.size from Nat.le_of_eq hbase); clear hbase
  have HB1 := Lib.hid hb1; clear hb1
  have HS1 := Lib.hid hs1; clear hs1
  have hywl : w.heap.size < base := by rw [HBS.out]; exact HY1.out.lt
  go_wp2
  go_loopw [7] (fun s5 wr => ∃ k : Nat, k ≤ l.length ∧ s5 = (.int .i64 k) ∧ Hid (Both wr base g b (LogM.new.steps (l.take k))) ∧ Below base w2 wr) (fun s5 _ => l.length - (intOf s5).toNat)
  case atStart => exact ⟨0, Nat.zero_le _, rfl, HB4, hx4⟩
  case round =>
    obtain ⟨k, hk, rfl, HB, hbr⟩ := hrel
    by_cases hlt : k < l.length
    · have hsr := HS1.out.below (by rw [← HBS.out]; exact hbr)
      obtain ⟨bb, off, rfl, q0, q1, q2, q3, q4, q5, q6, q7, q8, q9, q10⟩ := hsr.nth hlt
      have HST := Lib.hid (steps_snoc l k hlt)
      have HMK := Lib.hid (steps_ok l k)
      have HXO := Lib.hid (HXK.out l[k] (List.getElem_mem hlt))
      have hlt' : (k : Int) < l.length := by omega
      have hk0 : (0 : Int) ≤ (k : Int) := by omega
      generalize LogM.new.steps (l.take k) = m at *
      generalize hx : l[k] = x at *
      clear hx hsr
      go_wp2_with fail
      refine (logStep_c HB.out HMK.out x HXO.out).mono ?_
      rintro e w5 ⟨rfl, hB5, hb5⟩
      have HB5 := Lib.hid hB5
      have hx5 := hbr.trans hb5
      clear hB5 hb5 hbr q0 q1 q2 q3 q4 q5 q6 q7 q8 q9 q10 HB
      go_wp2
      exact ⟨⟨k + 1, by omega, by go_num, Lib.hid (by rw [HST.out]; exact HB5.out), hx5⟩, by simp [intOf]; omega⟩
    · obtain rfl : k = l.length := by omega
      have HMK := Lib.hid (steps_ok l l.length)
      have hml := HMK.out.len
      generalize LogM.new.steps (l.take l.length) = m at *
      obtain ⟨F5, B5, hL5, _, _⟩ := HB.out
      have HL5 := Lib.hid hL5
      have HR5 := Lib.hid hbr
      clear hL5 HB HB4 hx4 hlt hbr
      have HY5 := Lib.hid (HY1.out.belowB HR5.out hywl)
      go_wp2_with fail
      refine (Len_c HL5.out).mono ?_
      rintro e w6 ⟨rfl, rfl⟩
      go_wp2_with fail
      refine (Least_c HL5.out).mono ?_
      rintro e w6 ⟨rfl, hb6⟩
      have HL6 := Lib.hid (HL5.out.later hb6)
      have HY6 := Lib.hid (HY5.out.later hb6)
      have HR6 := Lib.hid (HR5.out.trans (hb6.mono (Nat.le_trans HBZ.out HR5.out.size)))
      clear hb6 HL5 HY5 HR5
      go_wp2_with fail
      refine (Chars_c HL6.out HMK.out).mono ?_
      rintro e w7 ⟨aW, capW, rfl, hoW, hb7⟩
      have HL7 := Lib.hid (HL6.out.later hb7)
      have HY7 := Lib.hid (HY6.out.later hb7)
      have HOW := Lib.hid hoW
      have HNF := Lib.hid (show ∀ k, ownB aW capW = some k → ¬ F5 k from fun k h1 h2 => by have := (hoW.base_le k h1).1; have := (HL6.out.foot k h2).2; omega)
      have HR7 := Lib.hid (HR6.out.trans (hb7.mono (Nat.le_trans HBZ.out HR6.out.size)))
      obtain ⟨CL, hCL⟩ : ∃ CL, CL = m.chars.length := ⟨_, rfl⟩
      have HCL := Lib.hid hCL.symm
      rw [← hCL]
      clear hoW hb7 HL6 HY6 HR6 hCL
      have hbA := (Below.refl w7.heap.size w7).alloc (Nat.le_refl _) (.cells #[.bool false, .bool false, .bool false, .bool false] 49)
      have HA8 := Lib.hid (show ArrB (w7.alloc (.cells #[.bool false, .bool false, .bool false, .bool false] 49)) w7.heap.size (askedF m 0) from by
        refine ⟨by simp, fun j hj => ?_, fun j hj => by simp⟩
        rcases (show j = 0 ∨ j = 1 ∨ j = 2 ∨ j = 3 by omega) with rfl | rfl | rfl | rfl <;> simp [askedF])
      have HNA := Lib.hid (show ¬ F5 w7.heap.size from fun h => Nat.lt_irrefl _ (HL7.out.foot _ h).2)
      have HFA := Lib.hid (show ∀ k, F5 k → k < w7.heap.size from fun k h => (HL7.out.foot k h).2)
      have HWA := Lib.hid (show ∀ k, ownB aW capW = some k → k < w7.heap.size from fun k h => (HOW.out.base_le k h).2)
      go_upto_region 12 with fail
      generalize w7.alloc _ = w8 at *
      have HL8 := Lib.hid (HL7.out.later hbA)
      have HY8 := Lib.hid (HY7.out.later hbA)
      have HO8 := Lib.hid (HOW.out.below hbA)
      have HR8 := Lib.hid (HR7.out.trans (hbA.mono (Nat.le_trans HBZ.out HR7.out.size)))
      have hyA : w.heap.size < w7.heap.size := HY7.out.lt
      have hBA : base ≤ w7.heap.size := Nat.le_trans HBZ.out HR7.out.size
      generalize w7.heap.size = A at *
      clear hbA HL7 HY7 HOW HR7
      go_wp2
      go_loopw [12] (fun s12 wx => ∃ k : Nat, k ≤ 4 ∧ s12 = (.int .i64 k) ∧ Hid (ArrB wx A (askedF m k)) ∧ Below A w8 wx) (fun s12 _ => 4 - (intOf s12).toNat)
      case atStart => exact ⟨0, by omega, rfl, HA8, Below.refl _ _⟩
      case round =>
        obtain ⟨k, hk, rfl, HA, hbx⟩ := hrel
        have HLx := Lib.hid (HL8.out.above hbx HFA.out)
        have HSTP := Lib.hid (fun j => askedF_step m k j)
        rcases (show k = 0 ∨ k = 1 ∨ k = 2 ∨ k = 3 ∨ k = 4 by omega) with rfl | rfl | rfl | rfl | rfl
        · have ca := HA.out.c 0 (by omega)
          have fa := HA.out.fz 0 (by omega)
          have HA2 := Lib.hid (HA.out.set 0 (m.hereF 0) (askedF m 1) (fun j _ => HSTP.out j))
          have hx9 := hbx.setCell (p := ⟨A, 0, none⟩) (Nat.le_refl _) (.bool (m.hereF 0))
          have HX9 := Lib.hid hx9
          clear hbx hx9 HA
          go_wp2_with fail
          refine (Here_c HLx.out 0).mono ?_
          rintro e w9 ⟨rfl, rfl⟩
          clear HLx
          go_wp2
          exact ⟨⟨1, by omega, by go_num, HA2, HX9.out⟩, by simp [intOf]⟩
        · have ca := HA.out.c 1 (by omega)
          have fa := HA.out.fz 1 (by omega)
          have HA2 := Lib.hid (HA.out.set 1 (m.hereF 1) (askedF m 2) (fun j _ => HSTP.out j))
          have hx9 := hbx.setCell (p := ⟨A, 1, none⟩) (Nat.le_refl _) (.bool (m.hereF 1))
          have HX9 := Lib.hid hx9
          clear hbx hx9 HA
          go_wp2_with fail
          refine (Here_c HLx.out 1).mono ?_
          rintro e w9 ⟨rfl, rfl⟩
          clear HLx
          go_wp2
          exact ⟨⟨2, by omega, by go_num, HA2, HX9.out⟩, by simp [intOf]⟩
        · have ca := HA.out.c 2 (by omega)
          have fa := HA.out.fz 2 (by omega)
          have HA2 := Lib.hid (HA.out.set 2 (m.hereF 2) (askedF m 3) (fun j _ => HSTP.out j))
          have hx9 := hbx.setCell (p := ⟨A, 2, none⟩) (Nat.le_refl _) (.bool (m.hereF 2))
          have HX9 := Lib.hid hx9
          clear hbx hx9 HA
          go_wp2_with fail
          refine (Here_c HLx.out 2).mono ?_
          rintro e w9 ⟨rfl, rfl⟩
          clear HLx
          go_wp2
          exact ⟨⟨3, by omega, by go_num, HA2, HX9.out⟩, by simp [intOf]⟩
        · have ca := HA.out.c 3 (by omega)
          have fa := HA.out.fz 3 (by omega)
          have HA2 := Lib.hid (HA.out.set 3 (m.hereF 3) (askedF m 4) (fun j _ => HSTP.out j))
          have hx9 := hbx.setCell (p := ⟨A, 3, none⟩) (Nat.le_refl _) (.bool (m.hereF 3))
          have HX9 := Lib.hid hx9
          clear hbx hx9 HA
          go_wp2_with fail
          refine (Here_c HLx.out 3).mono ?_
          rintro e w9 ⟨rfl, rfl⟩
          clear HLx
          go_wp2
          exact ⟨⟨4, by omega, by go_num, HA2, HX9.out⟩, by simp [intOf]⟩
        · have HY9 := Lib.hid (HY8.out.belowB hbx hyA)
          have HO9 := Lib.hid (HO8.out.of_block (fun g _ _ h => hbx.block g (by
            exact HWA.out g (by assumption))))
          have HR9 := Lib.hid (HR8.out.trans (hbx.mono hBA))
          clear hbx hk HSTP HL8 HY8 HO8 HR8 HA8
          obtain ⟨yl, c0, c1, c2, c3, c4, c5, c6, c7, c8, c9, c10⟩ := HY9.out
          go_upto_block 4 with (fail)
          go_cut [13] (fun s13 wx => ∃ c : Int, s13 = (.int .i64 c) ∧ Below base wr wx ∧ (c ≠ 0 → Moves F5 wr wx ∧ ∃ F', LogAt wx base F' g m))
          case first =>
            by_cases e0 : y.Do = 0
            · have b0 : (y.Do == 0) = true := by simpa using e0
              clear e0 c2 c3 c4 c5 c6 c7 c8 c9 c10
              go_wp2_with (go_at_call 38; refine (Join_c HLx.out y.W HMK.out).mono ?_; rintro e w9 ⟨rfl, hL9, hM9⟩)
              go_meet
              exact ⟨_, rfl, HLx.out.below hM9, fun h => ⟨hM9, _, by rw [join_refused h] at hL9; exact hL9⟩⟩
            · have b0 : (y.Do == 0) = false := by simpa using e0
              by_cases e1 : y.Do = 1
              · have b1 : (y.Do == 1) = true := by simpa using e1
                clear e0 e1 c2 c3 c4 c5 c6 c7 c8 c9 c10
                go_wp2_with (go_at_call 39; refine (Leave_c HLx.out y.W).mono ?_; rintro e w9 ⟨rfl, hL9, hM9⟩)
                go_meet
                exact ⟨_, rfl, HLx.out.below hM9, fun h => ⟨hM9, _, by rw [leave_refused h] at hL9; exact hL9⟩⟩
              · have b1 : (y.Do == 1) = false := by simpa using e1
                by_cases e2 : y.Do = 2
                · have b2 : (y.Do == 2) = true := by simpa using e2
                  clear e0 e1 e2 c1 c2 c10
                  go_wp2_with (go_at_call 40; refine (Take_c HLx.out HMK.out y.D HYK.out.2.2.2.2.2.2.2.2.2 HYK.out.2.2.2.2.2.2.2.2.1).mono ?_; rintro e w9 ⟨rfl, F', hL9, hM9, hG9⟩)
                  go_meet
                  exact ⟨_, rfl, HLx.out.below hM9, fun h => ⟨hM9, F', by rw [(LogM.take_refused y.D h).1] at hL9; exact hL9⟩⟩
                · have b2 : (y.Do == 2) = false := by simpa using e2
                  by_cases e3 : y.Do = 3
                  · have b3 : (y.Do == 3) = true := by simpa using e3
                    clear e0 e1 e2 e3 c3 c4 c5 c6 c7 c8 c9 c10
                    go_wp2_with (go_at_call 41; refine (Says_c HLx.out y.W y.N).mono ?_; rintro e w9 ⟨rfl, hL9, hM9⟩)
                    go_meet
                    exact ⟨_, rfl, HLx.out.below hM9, fun h => ⟨hM9, _, by rw [says_refused h] at hL9; exact hL9⟩⟩
                  · have b3 : (y.Do == 3) = false := by simpa using e3
                    clear e0 e1 e2 e3 c1 c2 c3 c4 c5 c6 c7 c8 c9 c10
                    go_wp2
                    go_meet
                    exact ⟨0, rfl, Below.refl _ _, fun h => absurd rfl h⟩
          case rest =>
            obtain ⟨c, rfl, hbw, hcut⟩ := hcut
            obtain ⟨w9, hw9⟩ : ∃ w9, w9 = wc := ⟨_, rfl⟩
            rw [← hw9] at hbw hcut ⊢
            clear hw9 wc c0 c1 c2 c3 c4 c5 c6 c7 c8 c9 c10
            have HRA := Lib.hid (HR9.out.trans hbw)
            by_cases hc0 : c = 0
            · have hcB : (c == 0) = true := by simpa using hc0
              go_wp2
              go_ret
              exact ⟨rfl, HB1.out.trans (HRA.out.mono (by rw [HBS.out]; exact HB1.out.size))⟩
            · have hcB : (c == 0) = false := by simpa using hc0
              obtain ⟨hM9, F', hL9⟩ := hcut hc0
              have HL9 := Lib.hid hL9
              have HA9 := Lib.hid (HA.out.moves hM9 HNA.out)
              have HOZ := Lib.hid (HO9.out.moves hM9 HNF.out)
              clear hcut hc0 hM9 hL9 hbw HLx HA HO9 HR9 HY9 yl
              go_wp2
              go_loopw [14] (fun s14 wx => ∃ k : Nat, k ≤ 4 ∧ s14 = (.int .i64 k) ∧ Below w9.heap.size w9 wx) (fun s14 _ => 4 - (intOf s14).toNat)
              case atStart => exact ⟨0, by omega, rfl, Below.refl _ _⟩
              case round =>
                obtain ⟨k, hk, rfl, hbx⟩ := hrel
                have HLx := Lib.hid (HL9.out.later hbx)
                have HAx := Lib.hid (HA9.out.later hbx)
                rcases (show k = 0 ∨ k = 1 ∨ k = 2 ∨ k = 3 ∨ k = 4 by omega) with rfl | rfl | rfl | rfl | rfl
                · have ca := HAx.out.c 0 (by omega)
                  rw [show askedF m 4 0 = m.hereF 0 from rfl] at ca
                  have ra := later_cell ca
                  have hL := fun q : Lt _ => (q.h : Later wr q.v)
                  clear ca
                  go_upto_region 31 with fail
                  refine wp_region_mix [] [0, 1, 2, 3, 4, 5, 6] (by kernel_rfl) (by kernel_rfl) ?_
                  repeat (refine wpMix_step rfl (fun K hK => ?_); go_simp; first | (refine hK _ _ ?_; clear hK K) | (apply Exists.intro; refine ⟨?_, hK _ _ ?_⟩; (focus (intro p; (have hLp := hL p; go_at_call 31; exact quietM_same p (Here_c (HLx.out.later hLp) _)))); clear hK K))
                  refine wpMix_nil ?_
                  intro w10 hL10
                  have hbz := hbx.trans (Below.mono hL10 hbx.size)
                  clear hL ra hbx hL10 HLx HAx
                  go_wp2
                  refine ⟨?_, by simp [intOf]⟩
                  (repeat apply Exists.intro)
                  exact ⟨⟨1, by omega, by go_num, hbz⟩, rfl⟩
                · have ca := HAx.out.c 1 (by omega)
                  rw [show askedF m 4 1 = m.hereF 1 from rfl] at ca
                  have ra := later_cell ca
                  have hL := fun q : Lt _ => (q.h : Later wr q.v)
                  clear ca
                  go_upto_region 31 with fail
                  refine wp_region_mix [] [0, 1, 2, 3, 4, 5, 6] (by kernel_rfl) (by kernel_rfl) ?_
                  repeat (refine wpMix_step rfl (fun K hK => ?_); go_simp; first | (refine hK _ _ ?_; clear hK K) | (apply Exists.intro; refine ⟨?_, hK _ _ ?_⟩; (focus (intro p; (have hLp := hL p; go_at_call 31; exact quietM_same p (Here_c (HLx.out.later hLp) _)))); clear hK K))
                  refine wpMix_nil ?_
                  intro w10 hL10
                  have hbz := hbx.trans (Below.mono hL10 hbx.size)
                  clear hL ra hbx hL10 HLx HAx
                  go_wp2
                  refine ⟨?_, by simp [intOf]⟩
                  (repeat apply Exists.intro)
                  exact ⟨⟨2, by omega, by go_num, hbz⟩, rfl⟩
                · have ca := HAx.out.c 2 (by omega)
                  rw [show askedF m 4 2 = m.hereF 2 from rfl] at ca
                  have ra := later_cell ca
                  have hL := fun q : Lt _ => (q.h : Later wr q.v)
                  clear ca
                  go_upto_region 31 with fail
                  refine wp_region_mix [] [0, 1, 2, 3, 4, 5, 6] (by kernel_rfl) (by kernel_rfl) ?_
                  repeat (refine wpMix_step rfl (fun K hK => ?_); go_simp; first | (refine hK _ _ ?_; clear hK K) | (apply Exists.intro; refine ⟨?_, hK _ _ ?_⟩; (focus (intro p; (have hLp := hL p; go_at_call 31; exact quietM_same p (Here_c (HLx.out.later hLp) _)))); clear hK K))
                  refine wpMix_nil ?_
                  intro w10 hL10
                  have hbz := hbx.trans (Below.mono hL10 hbx.size)
                  clear hL ra hbx hL10 HLx HAx
                  go_wp2
                  refine ⟨?_, by simp [intOf]⟩
                  (repeat apply Exists.intro)
                  exact ⟨⟨3, by omega, by go_num, hbz⟩, rfl⟩
                · have ca := HAx.out.c 3 (by omega)
                  rw [show askedF m 4 3 = m.hereF 3 from rfl] at ca
                  have ra := later_cell ca
                  have hL := fun q : Lt _ => (q.h : Later wr q.v)
                  clear ca
                  go_upto_region 31 with fail
                  refine wp_region_mix [] [0, 1, 2, 3, 4, 5, 6] (by kernel_rfl) (by kernel_rfl) ?_
                  repeat (refine wpMix_step rfl (fun K hK => ?_); go_simp; first | (refine hK _ _ ?_; clear hK K) | (apply Exists.intro; refine ⟨?_, hK _ _ ?_⟩; (focus (intro p; (have hLp := hL p; go_at_call 31; exact quietM_same p (Here_c (HLx.out.later hLp) _)))); clear hK K))
                  refine wpMix_nil ?_
                  intro w10 hL10
                  have hbz := hbx.trans (Below.mono hL10 hbx.size)
                  clear hL ra hbx hL10 HLx HAx
                  go_wp2
                  refine ⟨?_, by simp [intOf]⟩
                  (repeat apply Exists.intro)
                  exact ⟨⟨4, by omega, by go_num, hbz⟩, rfl⟩
                · have HOx := Lib.hid (HOZ.out.below hbx)
                  have HRx := Lib.hid (HRA.out.trans (hbx.mono (Nat.le_trans HBZ.out HRA.out.size)))
                  clear hbx HRA HOZ HAx
                  go_wp2_with fail
                  refine (Len_c HLx.out).mono ?_
                  rintro e w10 ⟨rfl, rfl⟩
                  go_wp2_with fail
                  refine (Least_c HLx.out).mono ?_
                  rintro e w11 ⟨rfl, hb11⟩
                  have HL11 := Lib.hid (HLx.out.later hb11)
                  have HO11 := Lib.hid (HOx.out.below hb11)
                  have HR11 := Lib.hid (HRx.out.trans (hb11.mono (Nat.le_trans HBZ.out HRx.out.size)))
                  clear hb11 HLx HOx HRx
                  go_wp2_with fail
                  refine (Chars_c HL11.out HMK.out).mono ?_
                  rintro e w12 ⟨aZ, capZ, rfl, hoZ, hb12⟩
                  rw [HCL.out]
                  have HZ12 := Lib.hid hoZ.slCh
                  have HO12 := Lib.hid (HO11.out.below hb12).slCh
                  have HR12 := Lib.hid (HR11.out.trans (hb12.mono (Nat.le_trans HBZ.out HR11.out.size)))
                  clear hoZ hb12 HL11 HR11 HO11
                  go_wp2_with fail
                  refine (Same_t aW aZ capW capZ m.chars CL HCL.out _ HO12.out HZ12.out).mono ?_
                  rintro e w13 ⟨rfl, hb13⟩
                  have HR13 := Lib.hid (HR12.out.trans (hb13.mono (Nat.le_trans HBZ.out HR12.out.size)))
                  clear hb13 HR12 HO12 HZ12
                  go_wp2
                  go_ret
                  exact ⟨rfl, HB1.out.trans (HR13.out.mono (by rw [HBS.out]; exact HB1.out.size))⟩
end Go.Proofs.Ytneoeokfffnonab
