/- The walk of the law's own logStep: a step in both, the log and the book. -/
import Derived.Test.YtneoeokfffnonabLogW4
import Derived.Test.YtneoeokfffnonabBookW3
import Derived.Test.YtneoeokfffnonabLsW
import Derived.Deep.RegionHeld3
set_option linter.unusedVariables false
set_option linter.unusedSimpArgs false
namespace Go.Proofs.Ytneoeokfffnonab
open Go.RowKit

/-- The log at g and the book at b, apart, in one state. -/
def Both (w : World) (base g b : Nat) (m : LogM) : Prop := ∃ F B, LogAt w base F g m ∧ BookAt w base B b m ∧ ∀ k, F k → ¬ B k

structure LsAt (w : World) (b : Nat) (x : LStep) : Prop where
  lt : b < w.heap.size
  c0 : w.cell? ⟨b, 0, none⟩ = some (.int .i64 x.Do)
  c1 : w.cell? ⟨b, 1, none⟩ = some (.int .i64 x.W)
  c2 : w.cell? ⟨b, 2, none⟩ = some (.int .i64 x.N)
  c3 : w.cell? ⟨b, 3, none⟩ = some (.int .i64 x.D.Kind)
  c4 : w.cell? ⟨b, 4, none⟩ = some (.int .i64 x.D.By)
  c5 : w.cell? ⟨b, 5, none⟩ = some (.int .i64 x.D.No)
  c6 : w.cell? ⟨b, 6, none⟩ = some (.int .i64 x.D.Seen)
  c7 : w.cell? ⟨b, 7, none⟩ = some (.int .i64 x.D.At)
  c8 : w.cell? ⟨b, 8, none⟩ = some (.int .i64 x.D.Many)
  c9 : w.cell? ⟨b, 9, none⟩ = some (.string x.D.Text)
  c10 : w.cell? ⟨b, 10, none⟩ = some (.bool x.Right)
theorem LsAt.new (w : World) (x : LStep) : LsAt (w.alloc (.cells #[.int .i64 x.Do, .int .i64 x.W, .int .i64 x.N, .int .i64 x.D.Kind, .int .i64 x.D.By, .int .i64 x.D.No, .int .i64 x.D.Seen, .int .i64 x.D.At, .int .i64 x.D.Many, .string x.D.Text, .bool x.Right] 54)) w.heap.size x := by
  refine ⟨by simp, ?_, ?_, ?_, ?_, ?_, ?_, ?_, ?_, ?_, ?_, ?_⟩ <;> simp
theorem LsAt.of_cells {w w' : World} {b : Nat} {x : LStep} (h : LsAt w b x) (hz : w.heap.size ≤ w'.heap.size) (hc : ∀ o, w'.cell? ⟨b, o, none⟩ = w.cell? ⟨b, o, none⟩) : LsAt w' b x :=
  ⟨Nat.lt_of_lt_of_le h.lt hz, (hc _).trans h.c0, (hc _).trans h.c1, (hc _).trans h.c2, (hc _).trans h.c3, (hc _).trans h.c4, (hc _).trans h.c5, (hc _).trans h.c6, (hc _).trans h.c7, (hc _).trans h.c8, (hc _).trans h.c9, (hc _).trans h.c10⟩
theorem LsAt.moves {w w' : World} {b : Nat} {x : LStep} (h : LsAt w b x) {G : Nat → Prop} (hm : Moves G w w') (hd : ¬ G b) : LsAt w' b x := h.of_cells hm.size (fun o => hm.cell h.lt hd o)

theorem LogAt.base_le {w : World} {base : Nat} {F : Nat → Prop} {g : Nat} {m : LogM} (h : LogAt w base F g m) : base ≤ w.heap.size := by have := h.foot g h.fg; omega
theorem LogAt.below {w w' : World} {base : Nat} {F : Nat → Prop} {g : Nat} {m : LogM} (h : LogAt w base F g m) (hm : Moves F w w') : Below base w w' := hm.below (fun k hk => (h.foot k hk).1) h.base_le
theorem BookAt.below {w w' : World} {base : Nat} {F : Nat → Prop} {g : Nat} {m : LogM} (h : BookAt w base F g m) (hm : Moves F w w') : Below base w w' := hm.below (fun k hk => (h.foot k hk).1) (by have := h.foot g h.fg; omega)

def StepPost (w : World) (base g b : Nat) (m : LogM) (x : LStep) (e : Ending) (w' : World) : Prop := e = .returned (.bool true) ∧ Both w' base g b (m.step x) ∧ Below base w w'

section
variable {w : World} {base g b : Nat} {m : LogM}

theorem logStep_join (hB : Both w base g b m) (ho : m.Ok) (x : LStep) (hd : x.Do = 0) :
    Calls Try.prog 26 #[.pointer (some ⟨g, 0, none⟩), .pointer (some ⟨b, 0, none⟩), .agg #[.int .i64 x.Do, .int .i64 x.W, .int .i64 x.N, .int .i64 x.D.Kind, .int .i64 x.D.By, .int .i64 x.D.No, .int .i64 x.D.Seen, .int .i64 x.D.At, .int .i64 x.D.Many, .string x.D.Text, .bool x.Right]] w (StepPost w base g b m x) := by
  obtain ⟨F, B, hL, hK, hFB⟩ := hB
  have hst := Lib.hid (show m.step x = (m.joinF x.W).1 by unfold LogM.step; rw [if_pos hd])
  have HO := Lib.hid ho; clear ho
  have HFB := Lib.hid hFB; clear hFB
  have hb0 := (Below.refl w.heap.size w).alloc (Nat.le_refl _) (.cells #[.int .i64 x.Do, .int .i64 x.W, .int .i64 x.N, .int .i64 x.D.Kind, .int .i64 x.D.By, .int .i64 x.D.No, .int .i64 x.D.Seen, .int .i64 x.D.At, .int .i64 x.D.Many, .string x.D.Text, .bool x.Right] 54)
  have HL0 := Lib.hid (hL.later hb0)
  have HK0 := Lib.hid (hK.later hb0)
  have HX0 := Lib.hid (LsAt.new w x)
  have HNF := Lib.hid (fun h => Nat.lt_irrefl _ (hL.foot w.heap.size h).2)
  have HNB := Lib.hid (fun h => Nat.lt_irrefl _ (hK.foot w.heap.size h).2)
  have HW0 := Lib.hid (hb0.mono hL.base_le)
  have h0B : (x.Do == 0) = true := by simpa using hd
  clear hL hK hd
  go_enter Try.func26, Try.ntmps26
  go_upto_region 1 with fail
  generalize w.alloc (.cells #[.int .i64 x.Do, .int .i64 x.W, .int .i64 x.N, .int .i64 x.D.Kind, .int .i64 x.D.By, .int .i64 x.D.No, .int .i64 x.D.Seen, .int .i64 x.D.At, .int .i64 x.D.Many, .string x.D.Text, .bool x.Right] 54) = w0 at *
  obtain ⟨xl, c0, c1, c2, c3, c4, c5, c6, c7, c8, c9, c10⟩ := HX0.out
  clear c2 c3 c4 c5 c6 c7 c8 c9 c10
  go_wp2_with fail
  refine (Join_c HL0.out x.W HO.out).mono ?_
  rintro e w1 ⟨rfl, hL1, hM1⟩
  have HL1 := Lib.hid hL1
  have HK1 := Lib.hid (HK0.out.moves hM1 (fun k h1 h2 => HFB.out k h2 h1))
  have HX1 := Lib.hid (HX0.out.moves hM1 HNF.out)
  have HW1 := Lib.hid (HW0.out.trans (HL0.out.below hM1))
  clear hL1 hM1 xl c0 c1 HL0 HK0 HX0 HW0 h0B
  obtain ⟨xl, c0, c1, c2, c3, c4, c5, c6, c7, c8, c9, c10⟩ := HX1.out
  clear c0 c2 c3 c4 c5 c6 c7 c8 c9 c10
  go_wp2_with fail
  refine (BJoin_c HK1.out x.W HO.out).mono ?_
  rintro e w2 ⟨rfl, hK2, hM2⟩
  have HL2 := Lib.hid (HL1.out.moves hM2 (fun k h1 h2 => HFB.out k h1 h2))
  have HK2 := Lib.hid hK2
  have HW2 := Lib.hid (HW1.out.trans (HK1.out.below hM2))
  clear hK2 hM2 xl c1 HL1 HK1 HX1 HW1
  go_wp2
  go_ret
  exact ⟨rfl, by rw [hst.out]; exact ⟨F, B, HL2.out, HK2.out, HFB.out⟩, HW2.out⟩

theorem logStep_leave (hB : Both w base g b m) (x : LStep) (hd : x.Do = 1) :
    Calls Try.prog 26 #[.pointer (some ⟨g, 0, none⟩), .pointer (some ⟨b, 0, none⟩), .agg #[.int .i64 x.Do, .int .i64 x.W, .int .i64 x.N, .int .i64 x.D.Kind, .int .i64 x.D.By, .int .i64 x.D.No, .int .i64 x.D.Seen, .int .i64 x.D.At, .int .i64 x.D.Many, .string x.D.Text, .bool x.Right]] w (StepPost w base g b m x) := by
  obtain ⟨F, B, hL, hK, hFB⟩ := hB
  have hst := Lib.hid (show m.step x = (m.leaveF x.W).1 by unfold LogM.step; rw [if_neg (by omega), if_pos hd])
  have HFB := Lib.hid hFB; clear hFB
  have hb0 := (Below.refl w.heap.size w).alloc (Nat.le_refl _) (.cells #[.int .i64 x.Do, .int .i64 x.W, .int .i64 x.N, .int .i64 x.D.Kind, .int .i64 x.D.By, .int .i64 x.D.No, .int .i64 x.D.Seen, .int .i64 x.D.At, .int .i64 x.D.Many, .string x.D.Text, .bool x.Right] 54)
  have HL0 := Lib.hid (hL.later hb0)
  have HK0 := Lib.hid (hK.later hb0)
  have HX0 := Lib.hid (LsAt.new w x)
  have HNF := Lib.hid (fun h => Nat.lt_irrefl _ (hL.foot w.heap.size h).2)
  have HNB := Lib.hid (fun h => Nat.lt_irrefl _ (hK.foot w.heap.size h).2)
  have HW0 := Lib.hid (hb0.mono hL.base_le)
  have h0B : (x.Do == 0) = false := by simp; omega
  have h1B : (x.Do == 1) = true := by simpa using hd
  clear hL hK hd
  go_enter Try.func26, Try.ntmps26
  go_upto_region 1 with fail
  generalize w.alloc (.cells #[.int .i64 x.Do, .int .i64 x.W, .int .i64 x.N, .int .i64 x.D.Kind, .int .i64 x.D.By, .int .i64 x.D.No, .int .i64 x.D.Seen, .int .i64 x.D.At, .int .i64 x.D.Many, .string x.D.Text, .bool x.Right] 54) = w0 at *
  obtain ⟨xl, c0, c1, c2, c3, c4, c5, c6, c7, c8, c9, c10⟩ := HX0.out
  clear c2 c3 c4 c5 c6 c7 c8 c9 c10
  go_upto_region 7 with fail
  have HLd := Lib.hid (show LogAt w0.drew base F g m from HL0.out.moves (G := fun _ => False) (Moves.drew w0) (fun _ _ h => h))
  have HKd := Lib.hid HK0.out.drew
  have HXd := Lib.hid (show LsAt w0.drew w.heap.size x from HX0.out.moves (G := fun _ => False) (Moves.drew w0) (fun h => h))
  have HWd := Lib.hid (show Below base w w0.drew from HW0.out.trans ⟨rfl, rfl, rfl, Nat.le_refl _, fun _ _ => rfl⟩)
  go_region_held3 (fun w' => w'.cell? ⟨w.heap.size, 1, none⟩ = some (.int .i64 x.W))
    (first | assumption | go_keep | exact c1)
    ((first
      | (go_at_call 39; refine (Leave_c HLd.out x.W).mono ?_; rintro e w1 ⟨rfl, hL1, hM1⟩
         have HL1 := Lib.hid hL1
         have HK1 := Lib.hid (HKd.out.moves hM1 (fun k h1 h2 => HFB.out k h2 h1))
         have HX1 := Lib.hid (HXd.out.moves hM1 HNF.out)
         have hk1 : w1.cell? ⟨w.heap.size, 1, none⟩ = some (.int .i64 x.W) := HX1.out.c1
         have HW1 := Lib.hid (HWd.out.trans (HLd.out.below hM1)))
      | (go_at_call 61; refine (BLeave_c HK1.out x.W).mono ?_; rintro e w2 ⟨rfl, hK2, hM2⟩
         have HK2 := Lib.hid hK2
         have hk2 : w2.cell? ⟨w.heap.size, 1, none⟩ = some (.int .i64 x.W) := (HX1.out.moves hM2 HNB.out).c1
         have HL2 := Lib.hid (HL1.out.moves hM2 (fun k h1 h2 => HFB.out k h1 h2))
         have HW2 := Lib.hid (HW1.out.trans (HK1.out.below hM2)))))
  go_wp2
  go_ret
  exact ⟨rfl, by rw [hst.out]; exact ⟨F, B, HL2.out, HK2.out, HFB.out⟩, HW2.out⟩
theorem logStep_says (hB : Both w base g b m) (x : LStep) (hd : x.Do = 3) :
    Calls Try.prog 26 #[.pointer (some ⟨g, 0, none⟩), .pointer (some ⟨b, 0, none⟩), .agg #[.int .i64 x.Do, .int .i64 x.W, .int .i64 x.N, .int .i64 x.D.Kind, .int .i64 x.D.By, .int .i64 x.D.No, .int .i64 x.D.Seen, .int .i64 x.D.At, .int .i64 x.D.Many, .string x.D.Text, .bool x.Right]] w (StepPost w base g b m x) := by
  obtain ⟨F, B, hL, hK, hFB⟩ := hB
  have hst := Lib.hid (show m.step x = (m.saysF x.W x.N).1 by unfold LogM.step; rw [if_neg (by omega), if_neg (by omega), if_neg (by omega), if_pos hd])
  have HFB := Lib.hid hFB; clear hFB
  have hb0 := (Below.refl w.heap.size w).alloc (Nat.le_refl _) (.cells #[.int .i64 x.Do, .int .i64 x.W, .int .i64 x.N, .int .i64 x.D.Kind, .int .i64 x.D.By, .int .i64 x.D.No, .int .i64 x.D.Seen, .int .i64 x.D.At, .int .i64 x.D.Many, .string x.D.Text, .bool x.Right] 54)
  have HL0 := Lib.hid (hL.later hb0)
  have HK0 := Lib.hid (hK.later hb0)
  have HX0 := Lib.hid (LsAt.new w x)
  have HNF := Lib.hid (fun h => Nat.lt_irrefl _ (hL.foot w.heap.size h).2)
  have HNB := Lib.hid (fun h => Nat.lt_irrefl _ (hK.foot w.heap.size h).2)
  have HW0 := Lib.hid (hb0.mono hL.base_le)
  have h0B : (x.Do == 0) = false := by simp; omega
  have h1B : (x.Do == 1) = false := by simp; omega
  have h2B : (x.Do == 2) = false := by simp; omega
  have h3B : (x.Do == 3) = true := by simpa using hd
  clear hL hK hd
  go_enter Try.func26, Try.ntmps26
  go_upto_region 1 with fail
  generalize w.alloc (.cells #[.int .i64 x.Do, .int .i64 x.W, .int .i64 x.N, .int .i64 x.D.Kind, .int .i64 x.D.By, .int .i64 x.D.No, .int .i64 x.D.Seen, .int .i64 x.D.At, .int .i64 x.D.Many, .string x.D.Text, .bool x.Right] 54) = w0 at *
  obtain ⟨xl, c0, c1, c2, c3, c4, c5, c6, c7, c8, c9, c10⟩ := HX0.out
  clear c3 c4 c5 c6 c7 c8 c9 c10
  go_upto_region 17 with fail
  have HLd := Lib.hid (show LogAt w0.drew base F g m from HL0.out.moves (G := fun _ => False) (Moves.drew w0) (fun _ _ h => h))
  have HKd := Lib.hid HK0.out.drew
  have HXd := Lib.hid (show LsAt w0.drew w.heap.size x from HX0.out.moves (G := fun _ => False) (Moves.drew w0) (fun h => h))
  have HWd := Lib.hid (show Below base w w0.drew from HW0.out.trans ⟨rfl, rfl, rfl, Nat.le_refl _, fun _ _ => rfl⟩)
  go_region_held3 (fun w' => w'.cell? ⟨w.heap.size, 1, none⟩ = some (.int .i64 x.W) ∧ w'.cell? ⟨w.heap.size, 2, none⟩ = some (.int .i64 x.N))
    (first | assumption | go_keep | exact ⟨c1, c2⟩)
    ((first
      | (go_at_call 41; refine (Says_c HLd.out x.W x.N).mono ?_; rintro e w1 ⟨rfl, hL1, hM1⟩
         have HL1 := Lib.hid hL1
         have HK1 := Lib.hid (HKd.out.moves hM1 (fun k h1 h2 => HFB.out k h2 h1))
         have HX1 := Lib.hid (HXd.out.moves hM1 HNF.out)
         have hk1 : w1.cell? ⟨w.heap.size, 1, none⟩ = some (.int .i64 x.W) ∧ w1.cell? ⟨w.heap.size, 2, none⟩ = some (.int .i64 x.N) := ⟨HX1.out.c1, HX1.out.c2⟩
         have HW1 := Lib.hid (HWd.out.trans (HLd.out.below hM1)))
      | (go_at_call 63; refine (BSays_c HK1.out x.W x.N).mono ?_; rintro e w2 ⟨rfl, hK2, hM2⟩
         have HK2 := Lib.hid hK2
         have hk2 : w2.cell? ⟨w.heap.size, 1, none⟩ = some (.int .i64 x.W) ∧ w2.cell? ⟨w.heap.size, 2, none⟩ = some (.int .i64 x.N) := ⟨(HX1.out.moves hM2 HNB.out).c1, (HX1.out.moves hM2 HNB.out).c2⟩
         have HL2 := Lib.hid (HL1.out.moves hM2 (fun k h1 h2 => HFB.out k h1 h2))
         have HW2 := Lib.hid (HW1.out.trans (HK1.out.below hM2)))))
  go_wp2
  go_ret
  exact ⟨rfl, by rw [hst.out]; exact ⟨F, B, HL2.out, HK2.out, HFB.out⟩, HW2.out⟩
theorem logStep_none (hB : Both w base g b m) (x : LStep) (hd0 : x.Do ≠ 0) (hd1 : x.Do ≠ 1) (hd2 : x.Do ≠ 2) (hd3 : x.Do ≠ 3) :
    Calls Try.prog 26 #[.pointer (some ⟨g, 0, none⟩), .pointer (some ⟨b, 0, none⟩), .agg #[.int .i64 x.Do, .int .i64 x.W, .int .i64 x.N, .int .i64 x.D.Kind, .int .i64 x.D.By, .int .i64 x.D.No, .int .i64 x.D.Seen, .int .i64 x.D.At, .int .i64 x.D.Many, .string x.D.Text, .bool x.Right]] w (StepPost w base g b m x) := by
  obtain ⟨F, B, hL, hK, hFB⟩ := hB
  have hst := Lib.hid (show m.step x = m by unfold LogM.step; rw [if_neg hd0, if_neg hd1, if_neg hd2, if_neg hd3])
  have HFB := Lib.hid hFB; clear hFB
  have hb0 := (Below.refl w.heap.size w).alloc (Nat.le_refl _) (.cells #[.int .i64 x.Do, .int .i64 x.W, .int .i64 x.N, .int .i64 x.D.Kind, .int .i64 x.D.By, .int .i64 x.D.No, .int .i64 x.D.Seen, .int .i64 x.D.At, .int .i64 x.D.Many, .string x.D.Text, .bool x.Right] 54)
  have HL0 := Lib.hid (hL.later hb0)
  have HK0 := Lib.hid (hK.later hb0)
  have HX0 := Lib.hid (LsAt.new w x)
  have HW0 := Lib.hid (hb0.mono hL.base_le)
  have h0B : (x.Do == 0) = false := by simpa using hd0
  have h1B : (x.Do == 1) = false := by simpa using hd1
  have h2B : (x.Do == 2) = false := by simpa using hd2
  have h3B : (x.Do == 3) = false := by simpa using hd3
  clear hL hK hd0 hd1 hd2 hd3
  go_enter Try.func26, Try.ntmps26
  go_upto_region 1 with fail
  generalize w.alloc (.cells #[.int .i64 x.Do, .int .i64 x.W, .int .i64 x.N, .int .i64 x.D.Kind, .int .i64 x.D.By, .int .i64 x.D.No, .int .i64 x.D.Seen, .int .i64 x.D.At, .int .i64 x.D.Many, .string x.D.Text, .bool x.Right] 54) = w0 at *
  obtain ⟨xl, c0, c1, c2, c3, c4, c5, c6, c7, c8, c9, c10⟩ := HX0.out
  clear c1 c2 c3 c4 c5 c6 c7 c8 c9 c10
  go_wp2
  go_ret
  exact ⟨rfl, by rw [hst.out]; exact ⟨F, B, HL0.out, HK0.out, HFB.out⟩, HW0.out⟩

end
end Go.Proofs.Ytneoeokfffnonab
