/- Printed by genroom.py: the walk of a step in a room, case by case. -/
import Derived.Test.YtneoeokfffnonacRmOps
set_option linter.unusedVariables false
set_option linter.unusedSimpArgs false
namespace Go.Proofs.Ytneoeokfffnonac
open Go.RowKit

theorem guard_DeedR : Try.prog.eqGuardType Try.prog.depth 24 = false := by kernel_rfl
theorem eql_DeedR (x : Dd) (w : World) : (binOp .eql 24 (.agg #[.int .i64 x.Kind, .int .i64 x.By, .int .i64 x.No, .int .i64 x.Seen, .int .i64 x.At, .int .i64 x.Many, .string x.Text]) (.agg #[.int .i64 x.Kind, .int .i64 x.By, .int .i64 x.No, .int .i64 x.Seen, .int .i64 x.At, .int .i64 x.Many, .string x.Text])).run Try.prog w = .ok (.bool true) w := by
  have u3 := Try.underlying3
  have a3 := Try.isAgg3
  have z3 := Try.sizeOf3
  have u5 := Try.underlying9
  have a5 := Try.isAgg9
  have z5 := Try.sizeOf9
  have hS : Try.prog.underlying 24 = some (.struct (Try.prog.fieldsOf 24)) := by kernel_rfl
  have hp : Try.prog.stoodInHeld 24 = false := by kernel_rfl
  rw [run_eql_struct, show (10000 : Nat) = 9999 + 1 from rfl, run_equalIn_agg w 9999 24 _ _ hS hp]
  simp only [Program.fieldsOf, Try.underlying24]
  go_simp
theorem room_is {d : DkM} (ho : d.Ok) {bare : Bool} {x : RStep} (ha : x.acts bare) {m : WM} (hw : d.writer x.W = some m) :
    d.room bare x = if x.Do = 0 then d else if x.Do = 1 then (d.put m (m.deed 1 x.At 0 x.Text)).1 else if x.Do = 2 then (d.put m (m.deed 2 x.At x.Many ByteArray.empty)).1 else if x.Do = 3 then (d.send m).1 else if x.Do = 4 then (d.hear m).1 else (d.set d.lm m.me (some (m.clearF (leastFor d.lm m.seen)))) := by
  obtain ⟨a0, a5, aw, ab⟩ := id ha
  have hk : x.d.Kind = x.Do + 1 := rfl
  have hW : x.d.W = x.W := rfl
  unfold DkM.room
  rw [if_pos ha]
  unfold DkM.step
  rw [if_neg (by rw [hk]; omega)]
  by_cases h0 : x.Do = 0
  · rw [if_pos (by rw [hk]; omega), if_pos h0, hW]
    rw [if_neg]
    intro h1
    obtain ⟨_, _, hh⟩ := ho.join x.W h1
    rw [ho.here_of hw] at hh; cases hh
  · rw [if_neg (by rw [hk]; omega), if_neg h0, hW, hw]
    simp only
    have e2 : (x.d.Kind = 2) = (x.Do = 1) := by rw [hk]; apply propext; omega
    have e3 : (x.d.Kind = 3) = (x.Do = 2) := by rw [hk]; apply propext; omega
    have e4 : (x.d.Kind = 4) = (x.Do = 3) := by rw [hk]; apply propext; omega
    have e5 : (x.d.Kind = 5) = (x.Do = 4) := by rw [hk]; apply propext; omega
    have e6 : (x.d.Kind = 6) = (x.Do = 5) := by rw [hk]; apply propext; omega
    simp only [e2, e3, e4, e5, e6]
    by_cases h1 : x.Do = 1
    · rw [if_pos h1, if_pos h1]; rfl
    rw [if_neg h1, if_neg h1]
    by_cases h2 : x.Do = 2
    · rw [if_pos h2, if_pos h2]; rfl
    rw [if_neg h2, if_neg h2]
    by_cases h3 : x.Do = 3
    · rw [if_pos h3, if_pos h3]
    rw [if_neg h3, if_neg h3]
    by_cases h4 : x.Do = 4
    · rw [if_pos h4, if_pos h4]
    rw [if_neg h4, if_neg h4]
    rw [if_pos (by omega)]
theorem over_send {d : DkM} {x : RStep} {m : WM} (hw : d.writer x.W = some m) (hd : x.Do = 3) : d.over x = (isWriter x.W && (d.send m).2 == 9) := by
  have hk : x.d.Kind = x.Do + 1 := rfl
  have hW : x.d.W = x.W := rfl
  have e : (d.step x.d) = d.send m := by
    unfold DkM.step
    rw [if_neg (by rw [hk]; omega), if_neg (by rw [hk]; omega), hW, hw]
    simp only
    rw [if_neg (by rw [hk]; omega), if_neg (by rw [hk]; omega), if_pos (by rw [hk]; omega)]
  unfold DkM.over
  rw [e, hd]; simp
theorem over_hear {d : DkM} {x : RStep} {m : WM} (hw : d.writer x.W = some m) (hd : x.Do = 4) : d.over x = (isWriter x.W && (d.hear m).2 == 9) := by
  have hk : x.d.Kind = x.Do + 1 := rfl
  have hW : x.d.W = x.W := rfl
  have e : (d.step x.d) = d.hear m := by
    unfold DkM.step
    rw [if_neg (by rw [hk]; omega), if_neg (by rw [hk]; omega), hW, hw]
    simp only
    rw [if_neg (by rw [hk]; omega), if_neg (by rw [hk]; omega), if_neg (by rw [hk]; omega), if_pos (by rw [hk]; omega)]
  unfold DkM.over
  rw [e, hd]; simp
theorem over_no {d : DkM} {x : RStep} (h3 : x.Do ≠ 3) (h4 : x.Do ≠ 4) : d.over x = false := by
  unfold DkM.over
  have e3 : (x.Do == 3) = false := by simpa using h3
  have e4 : (x.Do == 4) = false := by simpa using h4
  rw [e3, e4]; simp
theorem over_none {d : DkM} {x : RStep} (hw : d.writer x.W = none) : d.over x = false := by
  unfold DkM.over
  have hk : x.d.Kind = x.Do + 1 := rfl
  have hW : x.d.W = x.W := rfl
  by_cases h : x.Do = 3 ∨ x.Do = 4
  · have : (d.step x.d).2 = 5 := by
      unfold DkM.step
      rw [if_neg (by rw [hk]; omega), if_neg (by rw [hk]; omega), hW, hw]
    rw [this]; simp
  · have e3 : (x.Do == 3) = false := by simp; omega
    have e4 : (x.Do == 4) = false := by simp; omega
    rw [e3, e4]; simp
theorem room_none {d : DkM} (bare : Bool) {x : RStep} (hw : d.writer x.W = none) (h0 : x.Do ≠ 0) : d.room bare x = d := by
  unfold DkM.room
  split
  · rename_i ha
    obtain ⟨a0, a5, aw, ab⟩ := ha
    have hk : x.d.Kind = x.Do + 1 := rfl
    have hW : x.d.W = x.W := rfl
    unfold DkM.step
    rw [if_neg (by rw [hk]; omega), if_neg (by rw [hk]; omega), hW, hw]
  · rfl
theorem room_not {d : DkM} {bare : Bool} {x : RStep} (ha : ¬ x.acts bare) : d.room bare x = d := by unfold DkM.room; rw [if_neg ha]

section
variable {w : World} {base : Nat} {F : Nat → Prop} {g : Nat} {gw gs : Nat → Nat} {d : DkM} {bare : Bool}
def RmPost (w : World) (base : Nat) (F : Nat → Prop) (g : Nat) (bare : Bool) (d' : DkM) (w' : World) : Prop := ∃ F' gw' gs', RmAt w' base F' g gw' gs' d' d'.scs bare ∧ Moves F w w' ∧ Grows F w F'
def RStepPost (w : World) (base : Nat) (F : Nat → Prop) (g : Nat) (bare : Bool) (d : DkM) (x : RStep) (e : Ending) (w' : World) : Prop :=
  e = .returned (.tuple #[.bool true, .bool (d.over x)]) ∧ (d.over x = false → RmPost w base F g bare (d.room bare x) w') ∧ Below base w w'
theorem RmPost.after {d' : DkM} {w0 w' : World} (hb : Below w.heap.size w w0) (h : RmPost w0 base F g bare d' w') : RmPost w base F g bare d' w' := by
  obtain ⟨F', gw', gs', h1, h2, h3⟩ := h
  refine ⟨F', gw', gs', h1, (Moves.of_below (F := F) hb).trans h2 (fun _ _ k => k), fun k hk => ?_⟩
  rcases h3 k hk with h | h
  · exact .inl h
  · exact .inr (Nat.le_trans hb.size h)
theorem RmPost.of {d' : DkM} {e' : Nat → Option ScV} {w0 w' : World} (hb : Below w.heap.size w w0) (h : RmS w0 base F g gw gs bare d' e' w') (he : e' = d'.scs) : RmPost w base F g bare d' w' := by
  subst he
  obtain ⟨F', h1, h2, h3⟩ := h
  exact RmPost.after hb ⟨F', gw, gs, h1, h2, h3⟩
theorem RmPost.below {d' : DkM} {w' : World} (hR : RmAt w base F g gw gs d d.scs bare) (h : RmPost w base F g bare d' w') : Below base w w' := by
  obtain ⟨F', gw', gs', h1, h2, h3⟩ := h
  exact hR.below h2
theorem RmPost.same {w' : World} (hR : RmAt w base F g gw gs d d.scs bare) (hb : Below w.heap.size w w') : RmPost w base F g bare d w' := ⟨F, gw, gs, hR.later hb, Moves.of_below hb, fun _ hk => .inl hk⟩
theorem RmPost.later {d' : DkM} {w1 w2 : World} (h : RmPost w base F g bare d' w1) (hl : Below w1.heap.size w1 w2) : RmPost w base F g bare d' w2 := by
  obtain ⟨F', gw', gs', h1, h2, h3⟩ := h
  exact ⟨F', gw', gs', h1.later hl, h2.trans (Moves.of_below (F := F) hl) (fun _ _ k => k), h3⟩
theorem RStepPost.done {x : RStep} {w' : World} (hR : RmAt w base F g gw gs d d.scs bare) (ho : d.over x = false) (h : RmPost w base F g bare (d.room bare x) w') : RStepPost w base F g bare d x (.returned (.tuple #[.bool true, .bool false])) w' :=
  ⟨by rw [ho], fun _ => h, h.below hR⟩
/-- The pointers of a room. -/
theorem RmAt.cells (h : RmAt w base F g gw gs d d.scs bare) (j : Nat) (hj : j < 4) : w.cell? ⟨g, 1 + j, none⟩ = some (d.ptrN gw j) ∧ w.cell? ⟨g, 5 + j, none⟩ = some (d.ptrN gs j) := by
  obtain ⟨FD, FSk, r⟩ := h.rows
  obtain ⟨gl, FL, FW, rr⟩ := r.dk.rows
  refine ⟨rr.cellW j hj, ?_⟩
  unfold DkM.ptrN
  cases e : d.W j with
  | none => exact r.sc.no j hj (by unfold DkM.scs; rw [e]; rfl)
  | some m => exact (r.sc.sc j hj m.sc (by unfold DkM.scs; rw [e]; rfl)).1

set_option maxRecDepth 100000 in
set_option maxHeartbeats 1000000 in
theorem RStep_no (h : RmAt w base F g gw gs d d.scs bare) (ho : d.Ok) (hs : d.Sm 1000) (x : RStep) (hx : x.ok) (hiw : isWriter x.W = false) :
    Calls Try.prog 17 #[.pointer (some ⟨g, 0, none⟩), .agg #[.int .i64 x.Do, .int .i64 x.W, .int .i64 x.At, .int .i64 x.Many, .string x.Text]] w (RStepPost w base F g bare d x) := by
  have HR := Lib.hid h
  have HXK := Lib.hid hx
  have hb0 := (Below.refl w.heap.size w).alloc (Nat.le_refl _) (.cells #[.int .i64 x.Do, .int .i64 x.W, .int .i64 x.At, .int .i64 x.Many, .string x.Text] 32)
  have HB0 := Lib.hid hb0
  have HR0 := Lib.hid (h.later hb0)
  have HX0 := Lib.hid (show RsC (w.alloc (.cells #[.int .i64 x.Do, .int .i64 x.W, .int .i64 x.At, .int .i64 x.Many, .string x.Text] 32)) w.heap.size 0 x by simp [RsC])
  have HO := Lib.hid ho
  have HSM := Lib.hid hs
  have HFX := Lib.hid (show ∀ k, F k → k < w.heap.size from fun k hk => (h.foot k hk).2)
  clear hb0 h ho hx hs
  go_enter Try.func17, Try.ntmps17
  go_upto_region 1 with fail
  generalize hw0 : w.alloc _ = w0
  have hw0' : w.alloc (.cells #[.int .i64 x.Do, .int .i64 x.W, .int .i64 x.At, .int .i64 x.Many, .string x.Text] 32) = w0 := hw0
  rw [hw0'] at HB0 HR0 HX0
  clear hw0 hw0'
  obtain ⟨X, hX⟩ : ∃ X, X = w.heap.size := ⟨_, rfl⟩
  rw [← hX] at HX0 HFX ⊢
  clear hX
  have hXl := HX0.out.lt
  obtain ⟨b0, b1, b2, b3, b4⟩ := HX0.out
  go_wp2_with fail
  refine (IsWriter_c x.W _).mono ?_
  rintro e w1 ⟨rfl, rfl⟩
  have HFIN := Lib.hid (RStepPost.done (x := x) HR.out (by unfold DkM.over; rw [hiw]; rfl) (by rw [room_not (fun a => by have := a.2.2.1; rw [hiw] at this; cases this)]; exact RmPost.same HR.out HB0.out))
  rw [hiw]
  go_wp2
  go_ret2
  exact HFIN.out

set_option maxRecDepth 100000 in
set_option maxHeartbeats 1000000 in
theorem RStep_none (h : RmAt w base F g gw gs d d.scs bare) (ho : d.Ok) (hs : d.Sm 1000) (x : RStep) (hx : x.ok) (hiw : isWriter x.W = true) (hw : d.writer x.W = none) (h0 : x.Do ≠ 0) :
    Calls Try.prog 17 #[.pointer (some ⟨g, 0, none⟩), .agg #[.int .i64 x.Do, .int .i64 x.W, .int .i64 x.At, .int .i64 x.Many, .string x.Text]] w (RStepPost w base F g bare d x) := by
  have HR := Lib.hid h
  have HXK := Lib.hid hx
  have hb0 := (Below.refl w.heap.size w).alloc (Nat.le_refl _) (.cells #[.int .i64 x.Do, .int .i64 x.W, .int .i64 x.At, .int .i64 x.Many, .string x.Text] 32)
  have HB0 := Lib.hid hb0
  have HR0 := Lib.hid (h.later hb0)
  have HX0 := Lib.hid (show RsC (w.alloc (.cells #[.int .i64 x.Do, .int .i64 x.W, .int .i64 x.At, .int .i64 x.Many, .string x.Text] 32)) w.heap.size 0 x by simp [RsC])
  have HO := Lib.hid ho
  have HSM := Lib.hid hs
  have HFX := Lib.hid (show ∀ k, F k → k < w.heap.size from fun k hk => (h.foot k hk).2)
  clear hb0 h ho hx hs
  go_enter Try.func17, Try.ntmps17
  go_upto_region 1 with fail
  generalize hw0 : w.alloc _ = w0
  have hw0' : w.alloc (.cells #[.int .i64 x.Do, .int .i64 x.W, .int .i64 x.At, .int .i64 x.Many, .string x.Text] 32) = w0 := hw0
  rw [hw0'] at HB0 HR0 HX0
  clear hw0 hw0'
  obtain ⟨X, hX⟩ : ∃ X, X = w.heap.size := ⟨_, rfl⟩
  rw [← hX] at HX0 HFX ⊢
  clear hX
  have hXl := HX0.out.lt
  obtain ⟨b0, b1, b2, b3, b4⟩ := HX0.out
  go_wp2_with fail
  refine (IsWriter_c x.W _).mono ?_
  rintro e w1 ⟨rfl, rfl⟩
  obtain ⟨j, hj, hxj⟩ := writer_natR hiw
  rw [hiw]
  have hcl := HR0.out.cells j hj
  obtain ⟨hcw, hcs⟩ := hcl
  have HWn := Lib.hid hw
  have hwj : d.W j = none := by
    have e := HWn.out
    rw [hxj] at e
    unfold DkM.writer at e
    rw [if_pos (isWriter_nat hj)] at e
    simpa using e
  have HPT := Lib.hid (show d.ptrN gw j = .pointer none ∧ d.ptrN gs j = .pointer none from by unfold DkM.ptrN; rw [hwj]; exact ⟨rfl, rfl⟩)
  rw [HPT.out.1] at hcw
  rw [HPT.out.2] at hcs
  have HWJ := Lib.hid hwj
  have HXJ := Lib.hid hxj
  have HWN := Lib.hid (show d.writer (j : Int) = none from by rw [← hxj]; exact HWn.out)
  rw [hxj] at b1
  have hj0 : (0 : Int) ≤ (j : Int) := by omega
  have hj4 : (j : Int) < 4 := by omega
  clear hwj hxj HPT hw
  go_upto_region 3 with fail
  go_quiet (fail)
  have hL1 : Later w1 (w1.drewN nq) := bl_drewN (Below.refl _ _) nq
  generalize w1.drewN nq = w2 at *
  have HR2 := Lib.hid (HR0.out.later hL1)
  have HX2 := Lib.hid (HX0.out.below hL1 HX0.out.lt)
  have HB2 := Lib.hid (HB0.out.trans (hL1.mono HB0.out.size))
  clear hL1 hcw hcs b0 b1 b2 b3 b4 HR0 HX0 HB0 hXl
  obtain ⟨b0, b1, b2, b3, b4⟩ := HX2.out
  rw [HXJ.out] at b1
  have h0B : (x.Do == 0) = false := by simpa using h0
  have h0D : decide (x.Do = 0) = false := decide_eq_false h0
  have HFIN := Lib.hid (RStepPost.done (x := x) HR.out (over_none HWn.out) (by rw [room_none bare HWn.out h0]; exact RmPost.same HR.out HB2.out))
  clear h0
  go_wp2
  go_ret2
  exact HFIN.out

set_option maxRecDepth 100000 in
set_option maxHeartbeats 1000000 in
theorem RStep_idle (h : RmAt w base F g gw gs d d.scs bare) (ho : d.Ok) (hs : d.Sm 1000) (x : RStep) (hx : x.ok) (hiw : isWriter x.W = true) {m : WM} (hw : d.writer x.W = some m) (h0 : x.Do = 0 ∨ x.Do < 0 ∨ 5 < x.Do) :
    Calls Try.prog 17 #[.pointer (some ⟨g, 0, none⟩), .agg #[.int .i64 x.Do, .int .i64 x.W, .int .i64 x.At, .int .i64 x.Many, .string x.Text]] w (RStepPost w base F g bare d x) := by
  have HR := Lib.hid h
  have HXK := Lib.hid hx
  have hb0 := (Below.refl w.heap.size w).alloc (Nat.le_refl _) (.cells #[.int .i64 x.Do, .int .i64 x.W, .int .i64 x.At, .int .i64 x.Many, .string x.Text] 32)
  have HB0 := Lib.hid hb0
  have HR0 := Lib.hid (h.later hb0)
  have HX0 := Lib.hid (show RsC (w.alloc (.cells #[.int .i64 x.Do, .int .i64 x.W, .int .i64 x.At, .int .i64 x.Many, .string x.Text] 32)) w.heap.size 0 x by simp [RsC])
  have HO := Lib.hid ho
  have HSM := Lib.hid hs
  have HFX := Lib.hid (show ∀ k, F k → k < w.heap.size from fun k hk => (h.foot k hk).2)
  clear hb0 h ho hx hs
  go_enter Try.func17, Try.ntmps17
  go_upto_region 1 with fail
  generalize hw0 : w.alloc _ = w0
  have hw0' : w.alloc (.cells #[.int .i64 x.Do, .int .i64 x.W, .int .i64 x.At, .int .i64 x.Many, .string x.Text] 32) = w0 := hw0
  rw [hw0'] at HB0 HR0 HX0
  clear hw0 hw0'
  obtain ⟨X, hX⟩ : ∃ X, X = w.heap.size := ⟨_, rfl⟩
  rw [← hX] at HX0 HFX ⊢
  clear hX
  have hXl := HX0.out.lt
  obtain ⟨b0, b1, b2, b3, b4⟩ := HX0.out
  go_wp2_with fail
  refine (IsWriter_c x.W _).mono ?_
  rintro e w1 ⟨rfl, rfl⟩
  obtain ⟨j, hj, hxj⟩ := writer_natR hiw
  rw [hiw]
  have hcl := HR0.out.cells j hj
  obtain ⟨hcw, hcs⟩ := hcl
  have HWn := Lib.hid hw
  have hwj : d.W j = some m := by
    have e := HWn.out
    rw [hxj] at e
    unfold DkM.writer at e
    rw [if_pos (isWriter_nat hj)] at e
    simpa using e
  have HPT := Lib.hid (show d.ptrN gw j = .pointer (some ⟨(gw j), 0, none⟩) ∧ d.ptrN gs j = .pointer (some ⟨(gs j), 0, none⟩) from by unfold DkM.ptrN; rw [hwj]; exact ⟨rfl, rfl⟩)
  rw [HPT.out.1] at hcw
  rw [HPT.out.2] at hcs
  have HWJ := Lib.hid hwj
  have HXJ := Lib.hid hxj
  have HWN := Lib.hid (show d.writer (j : Int) = some m from by rw [← hxj]; exact HWn.out)
  rw [hxj] at b1
  have hj0 : (0 : Int) ≤ (j : Int) := by omega
  have hj4 : (j : Int) < 4 := by omega
  clear hwj hxj HPT hw
  go_upto_region 3 with fail
  go_quiet (fail)
  have hL1 : Later w1 (w1.drewN nq) := bl_drewN (Below.refl _ _) nq
  generalize w1.drewN nq = w2 at *
  have HR2 := Lib.hid (HR0.out.later hL1)
  have HX2 := Lib.hid (HX0.out.below hL1 HX0.out.lt)
  have HB2 := Lib.hid (HB0.out.trans (hL1.mono HB0.out.size))
  clear hL1 hcw hcs b0 b1 b2 b3 b4 HR0 HX0 HB0 hXl
  obtain ⟨b0, b1, b2, b3, b4⟩ := HX2.out
  rw [HXJ.out] at b1
  have HFIN := Lib.hid (RStepPost.done (x := x) HR.out (over_no (by omega) (by omega)) (by
    have : d.room bare x = d := by
      by_cases h1 : x.Do = 0
      · by_cases ha : x.acts bare
        · rw [room_is HO.out ha HWn.out, if_pos h1]
        · exact room_not ha
      · exact room_not (fun a => by have := a.1; have := a.2.1; omega)
    rw [this]; exact RmPost.same HR.out HB2.out))
  have e1 : (x.Do == 1) = false := by simp; omega
  have e2 : (x.Do == 2) = false := by simp; omega
  have e3 : (x.Do == 3) = false := by simp; omega
  have e4 : (x.Do == 4) = false := by simp; omega
  have e5 : (x.Do == 5) = false := by simp; omega
  have d1 : decide (x.Do = 1) = false := decide_eq_false (by omega)
  have d2 : decide (x.Do = 2) = false := decide_eq_false (by omega)
  have d3 : decide (x.Do = 3) = false := decide_eq_false (by omega)
  have d4 : decide (x.Do = 4) = false := decide_eq_false (by omega)
  have d5 : decide (x.Do = 5) = false := decide_eq_false (by omega)
  by_cases h1 : x.Do = 0
  · have e0 : (x.Do == 0) = true := by simpa using h1
    have d0 : decide (x.Do = 0) = true := decide_eq_true h1
    clear h0 h1
    go_wp2
    go_ret2
    exact HFIN.out
  · have e0 : (x.Do == 0) = false := by simpa using h1
    have d0 : decide (x.Do = 0) = false := decide_eq_false h1
    clear h0 h1
    go_wp2
    go_ret2
    exact HFIN.out

set_option maxRecDepth 100000 in
set_option maxHeartbeats 1000000 in
theorem RStep_put (h : RmAt w base F g gw gs d d.scs bare) (ho : d.Ok) (hs : d.Sm 1000) (x : RStep) (hx : x.ok) (hiw : isWriter x.W = true) {m : WM} (hw : d.writer x.W = some m) (hd : x.Do = 1) :
    Calls Try.prog 17 #[.pointer (some ⟨g, 0, none⟩), .agg #[.int .i64 x.Do, .int .i64 x.W, .int .i64 x.At, .int .i64 x.Many, .string x.Text]] w (RStepPost w base F g bare d x) := by
  have HDo := Lib.hid hd
  clear hd
  have HR := Lib.hid h
  have HXK := Lib.hid hx
  have hb0 := (Below.refl w.heap.size w).alloc (Nat.le_refl _) (.cells #[.int .i64 x.Do, .int .i64 x.W, .int .i64 x.At, .int .i64 x.Many, .string x.Text] 32)
  have HB0 := Lib.hid hb0
  have HR0 := Lib.hid (h.later hb0)
  have HX0 := Lib.hid (show RsC (w.alloc (.cells #[.int .i64 x.Do, .int .i64 x.W, .int .i64 x.At, .int .i64 x.Many, .string x.Text] 32)) w.heap.size 0 x by simp [RsC])
  have HO := Lib.hid ho
  have HSM := Lib.hid hs
  have HFX := Lib.hid (show ∀ k, F k → k < w.heap.size from fun k hk => (h.foot k hk).2)
  clear hb0 h ho hx hs
  go_enter Try.func17, Try.ntmps17
  go_upto_region 1 with fail
  generalize hw0 : w.alloc _ = w0
  have hw0' : w.alloc (.cells #[.int .i64 x.Do, .int .i64 x.W, .int .i64 x.At, .int .i64 x.Many, .string x.Text] 32) = w0 := hw0
  rw [hw0'] at HB0 HR0 HX0
  clear hw0 hw0'
  obtain ⟨X, hX⟩ : ∃ X, X = w.heap.size := ⟨_, rfl⟩
  rw [← hX] at HX0 HFX ⊢
  clear hX
  have hXl := HX0.out.lt
  obtain ⟨b0, b1, b2, b3, b4⟩ := HX0.out
  go_wp2_with fail
  refine (IsWriter_c x.W _).mono ?_
  rintro e w1 ⟨rfl, rfl⟩
  obtain ⟨j, hj, hxj⟩ := writer_natR hiw
  rw [hiw]
  have hcl := HR0.out.cells j hj
  obtain ⟨hcw, hcs⟩ := hcl
  have HWn := Lib.hid hw
  have hwj : d.W j = some m := by
    have e := HWn.out
    rw [hxj] at e
    unfold DkM.writer at e
    rw [if_pos (isWriter_nat hj)] at e
    simpa using e
  have HPT := Lib.hid (show d.ptrN gw j = .pointer (some ⟨(gw j), 0, none⟩) ∧ d.ptrN gs j = .pointer (some ⟨(gs j), 0, none⟩) from by unfold DkM.ptrN; rw [hwj]; exact ⟨rfl, rfl⟩)
  rw [HPT.out.1] at hcw
  rw [HPT.out.2] at hcs
  have HWJ := Lib.hid hwj
  have HXJ := Lib.hid hxj
  have HWN := Lib.hid (show d.writer (j : Int) = some m from by rw [← hxj]; exact HWn.out)
  rw [hxj] at b1
  have hj0 : (0 : Int) ≤ (j : Int) := by omega
  have hj4 : (j : Int) < 4 := by omega
  clear hwj hxj HPT hw
  go_upto_region 3 with fail
  go_quiet (fail)
  have hL1 : Later w1 (w1.drewN nq) := bl_drewN (Below.refl _ _) nq
  generalize w1.drewN nq = w2 at *
  have HR2 := Lib.hid (HR0.out.later hL1)
  have HX2 := Lib.hid (HX0.out.below hL1 HX0.out.lt)
  have HB2 := Lib.hid (HB0.out.trans (hL1.mono HB0.out.size))
  clear hL1 hcw hcs b0 b1 b2 b3 b4 HR0 HX0 HB0 hXl
  obtain ⟨b0, b1, b2, b3, b4⟩ := HX2.out
  rw [HXJ.out] at b1
  rw [HDo.out] at b0
  have HRO := Lib.hid (show d.room bare x = d.setW j (some (putM m (m.deed 1 x.At 0 x.Text))) from by
    have hd := HDo.out
    rw [room_is HO.out ⟨by omega, by omega, hiw, fun a => by have := a.2; omega⟩ HWn.out]
    rw [if_neg (by omega)]; rw [if_pos hd]
    exact put_eq d HWJ.out (by obtain ⟨_, hme, _⟩ := HO.out.of_writer HWN.out; exact hme) _)
  have HOV := Lib.hid (show d.over x = false from by have hd := HDo.out; exact over_no (by omega) (by omega))
  have HPU := Lib.hid (RPut_c HR2.out HO.out HSM.out hj HWN.out x.At x.Text HXK.out.2.2.2.2)
  have HSD := Lib.hid (fun (w' : World) (F' : Nat → Prop) (d' : DkM) (h' : RmAt w' base F' g gw gs d' d.scs bare) => RSDo_c h' HO.out HSM.out hj HWN.out (show d.scs j = some m.sc from by unfold DkM.scs; rw [HWJ.out]; rfl) 1 x.At 0 x.Text HXK.out.2.2.2.2)
  have HSC := Lib.hid (scs_setW d j (putM m (m.deed 1 x.At 0 x.Text)))
  obtain ⟨r, hr⟩ : ∃ r, r = putR m (m.deed 1 x.At 0 x.Text) := ⟨_, rfl⟩
  obtain ⟨c, hc⟩ : ∃ c, c = mayDo m.chars (m.deed 1 x.At 0 x.Text) := ⟨_, rfl⟩
  rw [← hr, ← hc] at HPU
  rw [← hr, ← hc] at HSD
  generalize putM m (m.deed 1 x.At 0 x.Text) = m' at *
  clear hr hc HDo
  go_wp2_with fail
  refine HPU.out.mono ?_
  rintro e w3 ⟨rfl, F3, h3, m3, g3⟩
  have HR3 := Lib.hid h3; have HM3 := Lib.hid m3; have HG3 := Lib.hid g3
  have HX3 := Lib.hid (HX2.out.of_block (m3.block X HX2.out.lt fun e => by have := HFX.out X e; omega))
  clear h3 m3 g3 b0 b1 b2 b3 b4 HPU
  obtain ⟨b0, b1, b2, b3, b4⟩ := HX3.out
  rw [HXJ.out] at b1
  go_upto_region 17 with fail
  generalize hw4 : w3.alloc _ = w4
  have hw4' : w3.alloc (.cells #[.int .i64 r.Kind, .int .i64 r.By, .int .i64 r.No, .int .i64 r.Seen, .int .i64 r.At, .int .i64 r.Many, .string r.Text] 24) = w4 := hw4
  have hb4 : Below w3.heap.size w3 w4 := by rw [← hw4']; exact (Below.refl w3.heap.size w3).alloc (Nat.le_refl _) _
  have HY4 := Lib.hid (show DdAt w4 w3.heap.size r from by rw [← hw4']; exact DdAt.new w3 r)
  clear hw4 hw4' b0 b1 b2 b3 b4
  obtain ⟨Y, hY⟩ : ∃ Y, Y = w3.heap.size := ⟨_, rfl⟩
  rw [← hY] at HY4 ⊢
  have HFY := Lib.hid (show ∀ k, F3 k → k ≠ Y ∧ k ≠ X from fun k hk => ⟨by have := (HR3.out.foot k hk).2; omega, by
    rcases HG3.out k hk with h | h
    · have := HFX.out k h; omega
    · have := HX2.out.lt; omega⟩)
  have HR4 := Lib.hid (HR3.out.later hb4)
  have HM4 := Lib.hid (HM3.out.trans (Moves.of_below (F := F) hb4) (fun _ _ k => k))
  have HX4 := Lib.hid (HX3.out.below hb4 HX3.out.lt)
  clear hb4 hY HR3 HM3 HX3
  obtain ⟨b0, b1, b2, b3, b4⟩ := HX4.out
  rw [HXJ.out] at b1
  go_wp2_with fail
  refine (HSD.out _ _ _ HR4.out).mono ?_
  rintro e w5 ⟨rfl, F5, h5, m5, g5⟩
  have HY5 := Lib.hid (HY4.out.of_block m5.size (m5.block Y HY4.out.lt fun e => (HFY.out Y e).1 rfl))
  have HS5 := Lib.hid (show RmS w2 base F g gw gs bare (d.setW j (some m')) (setN d.scs j (some m'.sc)) w5 from ⟨F5, h5, MovesR.transG HM4.out HG3.out m5, GrowsR.trans HG3.out HM4.out.size g5⟩)
  clear h5 m5 g5 b0 b1 b2 b3 b4 HSD HY4 HR4 HM4 HX4 HG3 HFY
  obtain ⟨_, d0, d1, d2, d3, d4, d5, d6⟩ := HY5.out
  go_upto_region 18 with fail
  generalize hw6 : w5.alloc _ = w6
  have hw6' : w5.alloc (.cells #[.int .i64 r.Kind, .int .i64 r.By, .int .i64 r.No, .int .i64 r.Seen, .int .i64 r.At, .int .i64 r.Many, .string r.Text] 24) = w6 := hw6
  have hb6 : Below w5.heap.size w5 w6 := by rw [← hw6']; exact (Below.refl w5.heap.size w5).alloc (Nat.le_refl _) _
  have HZ6 := Lib.hid (show DdAt w6 w5.heap.size r from by rw [← hw6']; exact DdAt.new w5 r)
  have HY6 := Lib.hid (HY5.out.later hb6)
  have HFIN := Lib.hid (RStepPost.done (x := x) HR.out HOV.out (by
    rw [HRO.out]
    exact RmPost.of HB2.out (HS5.out.later hb6) HSC.out.symm))
  clear hw6 hw6' hb6 HY5 HS5 d0 d1 d2 d3 d4 d5 d6
  obtain ⟨_, d0, d1, d2, d3, d4, d5, d6⟩ := HY6.out
  obtain ⟨_, c0, c1, c2, c3, c4, c5, c6⟩ := HZ6.out
  have hgd := guard_DeedR
  have heq := eql_DeedR r
  go_wp2
  go_ret2
  exact HFIN.out

set_option maxRecDepth 100000 in
set_option maxHeartbeats 1000000 in
theorem RStep_take (h : RmAt w base F g gw gs d d.scs bare) (ho : d.Ok) (hs : d.Sm 1000) (x : RStep) (hx : x.ok) (hiw : isWriter x.W = true) {m : WM} (hw : d.writer x.W = some m) (hd : x.Do = 2) :
    Calls Try.prog 17 #[.pointer (some ⟨g, 0, none⟩), .agg #[.int .i64 x.Do, .int .i64 x.W, .int .i64 x.At, .int .i64 x.Many, .string x.Text]] w (RStepPost w base F g bare d x) := by
  have HDo := Lib.hid hd
  clear hd
  have HR := Lib.hid h
  have HXK := Lib.hid hx
  have hb0 := (Below.refl w.heap.size w).alloc (Nat.le_refl _) (.cells #[.int .i64 x.Do, .int .i64 x.W, .int .i64 x.At, .int .i64 x.Many, .string x.Text] 32)
  have HB0 := Lib.hid hb0
  have HR0 := Lib.hid (h.later hb0)
  have HX0 := Lib.hid (show RsC (w.alloc (.cells #[.int .i64 x.Do, .int .i64 x.W, .int .i64 x.At, .int .i64 x.Many, .string x.Text] 32)) w.heap.size 0 x by simp [RsC])
  have HO := Lib.hid ho
  have HSM := Lib.hid hs
  have HFX := Lib.hid (show ∀ k, F k → k < w.heap.size from fun k hk => (h.foot k hk).2)
  clear hb0 h ho hx hs
  go_enter Try.func17, Try.ntmps17
  go_upto_region 1 with fail
  generalize hw0 : w.alloc _ = w0
  have hw0' : w.alloc (.cells #[.int .i64 x.Do, .int .i64 x.W, .int .i64 x.At, .int .i64 x.Many, .string x.Text] 32) = w0 := hw0
  rw [hw0'] at HB0 HR0 HX0
  clear hw0 hw0'
  obtain ⟨X, hX⟩ : ∃ X, X = w.heap.size := ⟨_, rfl⟩
  rw [← hX] at HX0 HFX ⊢
  clear hX
  have hXl := HX0.out.lt
  obtain ⟨b0, b1, b2, b3, b4⟩ := HX0.out
  go_wp2_with fail
  refine (IsWriter_c x.W _).mono ?_
  rintro e w1 ⟨rfl, rfl⟩
  obtain ⟨j, hj, hxj⟩ := writer_natR hiw
  rw [hiw]
  have hcl := HR0.out.cells j hj
  obtain ⟨hcw, hcs⟩ := hcl
  have HWn := Lib.hid hw
  have hwj : d.W j = some m := by
    have e := HWn.out
    rw [hxj] at e
    unfold DkM.writer at e
    rw [if_pos (isWriter_nat hj)] at e
    simpa using e
  have HPT := Lib.hid (show d.ptrN gw j = .pointer (some ⟨(gw j), 0, none⟩) ∧ d.ptrN gs j = .pointer (some ⟨(gs j), 0, none⟩) from by unfold DkM.ptrN; rw [hwj]; exact ⟨rfl, rfl⟩)
  rw [HPT.out.1] at hcw
  rw [HPT.out.2] at hcs
  have HWJ := Lib.hid hwj
  have HXJ := Lib.hid hxj
  have HWN := Lib.hid (show d.writer (j : Int) = some m from by rw [← hxj]; exact HWn.out)
  rw [hxj] at b1
  have hj0 : (0 : Int) ≤ (j : Int) := by omega
  have hj4 : (j : Int) < 4 := by omega
  clear hwj hxj HPT hw
  go_upto_region 3 with fail
  go_quiet (fail)
  have hL1 : Later w1 (w1.drewN nq) := bl_drewN (Below.refl _ _) nq
  generalize w1.drewN nq = w2 at *
  have HR2 := Lib.hid (HR0.out.later hL1)
  have HX2 := Lib.hid (HX0.out.below hL1 HX0.out.lt)
  have HB2 := Lib.hid (HB0.out.trans (hL1.mono HB0.out.size))
  clear hL1 hcw hcs b0 b1 b2 b3 b4 HR0 HX0 HB0 hXl
  obtain ⟨b0, b1, b2, b3, b4⟩ := HX2.out
  rw [HXJ.out] at b1
  rw [HDo.out] at b0
  have HRO := Lib.hid (show d.room bare x = d.setW j (some (putM m (m.deed 2 x.At x.Many ByteArray.empty))) from by
    have hd := HDo.out
    rw [room_is HO.out ⟨by omega, by omega, hiw, fun a => by have := a.2; omega⟩ HWn.out]
    rw [if_neg (by omega)]; rw [if_neg (by omega), if_pos hd]
    exact put_eq d HWJ.out (by obtain ⟨_, hme, _⟩ := HO.out.of_writer HWN.out; exact hme) _)
  have HOV := Lib.hid (show d.over x = false from by have hd := HDo.out; exact over_no (by omega) (by omega))
  have HPU := Lib.hid (RTake_c HR2.out HO.out HSM.out hj HWN.out x.At x.Many HXK.out.2.2.2.1)
  have HSD := Lib.hid (fun (w' : World) (F' : Nat → Prop) (d' : DkM) (h' : RmAt w' base F' g gw gs d' d.scs bare) => RSDo_c h' HO.out HSM.out hj HWN.out (show d.scs j = some m.sc from by unfold DkM.scs; rw [HWJ.out]; rfl) 2 x.At x.Many ByteArray.empty (by decide))
  have HSC := Lib.hid (scs_setW d j (putM m (m.deed 2 x.At x.Many ByteArray.empty)))
  obtain ⟨r, hr⟩ : ∃ r, r = putR m (m.deed 2 x.At x.Many ByteArray.empty) := ⟨_, rfl⟩
  obtain ⟨c, hc⟩ : ∃ c, c = mayDo m.chars (m.deed 2 x.At x.Many ByteArray.empty) := ⟨_, rfl⟩
  rw [← hr, ← hc] at HPU
  rw [← hr, ← hc] at HSD
  generalize putM m (m.deed 2 x.At x.Many ByteArray.empty) = m' at *
  clear hr hc HDo
  go_wp2_with fail
  refine HPU.out.mono ?_
  rintro e w3 ⟨rfl, F3, h3, m3, g3⟩
  have HR3 := Lib.hid h3; have HM3 := Lib.hid m3; have HG3 := Lib.hid g3
  have HX3 := Lib.hid (HX2.out.of_block (m3.block X HX2.out.lt fun e => by have := HFX.out X e; omega))
  clear h3 m3 g3 b0 b1 b2 b3 b4 HPU
  obtain ⟨b0, b1, b2, b3, b4⟩ := HX3.out
  rw [HXJ.out] at b1
  go_upto_region 21 with fail
  generalize hw4 : w3.alloc _ = w4
  have hw4' : w3.alloc (.cells #[.int .i64 r.Kind, .int .i64 r.By, .int .i64 r.No, .int .i64 r.Seen, .int .i64 r.At, .int .i64 r.Many, .string r.Text] 24) = w4 := hw4
  have hb4 : Below w3.heap.size w3 w4 := by rw [← hw4']; exact (Below.refl w3.heap.size w3).alloc (Nat.le_refl _) _
  have HY4 := Lib.hid (show DdAt w4 w3.heap.size r from by rw [← hw4']; exact DdAt.new w3 r)
  clear hw4 hw4' b0 b1 b2 b3 b4
  obtain ⟨Y, hY⟩ : ∃ Y, Y = w3.heap.size := ⟨_, rfl⟩
  rw [← hY] at HY4 ⊢
  have HFY := Lib.hid (show ∀ k, F3 k → k ≠ Y ∧ k ≠ X from fun k hk => ⟨by have := (HR3.out.foot k hk).2; omega, by
    rcases HG3.out k hk with h | h
    · have := HFX.out k h; omega
    · have := HX2.out.lt; omega⟩)
  have HR4 := Lib.hid (HR3.out.later hb4)
  have HM4 := Lib.hid (HM3.out.trans (Moves.of_below (F := F) hb4) (fun _ _ k => k))
  have HX4 := Lib.hid (HX3.out.below hb4 HX3.out.lt)
  clear hb4 hY HR3 HM3 HX3
  obtain ⟨b0, b1, b2, b3, b4⟩ := HX4.out
  rw [HXJ.out] at b1
  go_wp2_with fail
  refine (HSD.out _ _ _ HR4.out).mono ?_
  rintro e w5 ⟨rfl, F5, h5, m5, g5⟩
  have HY5 := Lib.hid (HY4.out.of_block m5.size (m5.block Y HY4.out.lt fun e => (HFY.out Y e).1 rfl))
  have HS5 := Lib.hid (show RmS w2 base F g gw gs bare (d.setW j (some m')) (setN d.scs j (some m'.sc)) w5 from ⟨F5, h5, MovesR.transG HM4.out HG3.out m5, GrowsR.trans HG3.out HM4.out.size g5⟩)
  clear h5 m5 g5 b0 b1 b2 b3 b4 HSD HY4 HR4 HM4 HX4 HG3 HFY
  obtain ⟨_, d0, d1, d2, d3, d4, d5, d6⟩ := HY5.out
  go_upto_region 22 with fail
  generalize hw6 : w5.alloc _ = w6
  have hw6' : w5.alloc (.cells #[.int .i64 r.Kind, .int .i64 r.By, .int .i64 r.No, .int .i64 r.Seen, .int .i64 r.At, .int .i64 r.Many, .string r.Text] 24) = w6 := hw6
  have hb6 : Below w5.heap.size w5 w6 := by rw [← hw6']; exact (Below.refl w5.heap.size w5).alloc (Nat.le_refl _) _
  have HZ6 := Lib.hid (show DdAt w6 w5.heap.size r from by rw [← hw6']; exact DdAt.new w5 r)
  have HY6 := Lib.hid (HY5.out.later hb6)
  have HFIN := Lib.hid (RStepPost.done (x := x) HR.out HOV.out (by
    rw [HRO.out]
    exact RmPost.of HB2.out (HS5.out.later hb6) HSC.out.symm))
  clear hw6 hw6' hb6 HY5 HS5 d0 d1 d2 d3 d4 d5 d6
  obtain ⟨_, d0, d1, d2, d3, d4, d5, d6⟩ := HY6.out
  obtain ⟨_, c0, c1, c2, c3, c4, c5, c6⟩ := HZ6.out
  have hgd := guard_DeedR
  have heq := eql_DeedR r
  go_wp2
  go_ret2
  exact HFIN.out

theorem RmS.belowB {d' : DkM} {e' : Nat → Option ScV} {w0 w' : World} (hR : RmAt w base F g gw gs d d.scs bare) (hb : Below w.heap.size w w0) (h : RmS w0 base F g gw gs bare d' e' w') : Below base w w' := by
  obtain ⟨F', h1, h2, h3⟩ := h
  exact (hb.mono hR.base_le).trans (h2.below (fun k hk => (hR.foot k hk).1) (Nat.le_trans hR.base_le hb.size))
set_option maxRecDepth 100000 in
set_option maxHeartbeats 1000000 in
theorem RStep_send0 (h : RmAt w base F g gw gs d d.scs bare) (ho : d.Ok) (hs : d.Sm 1000) (x : RStep) (hx : x.ok) (hiw : isWriter x.W = true) {m : WM} (hw : d.writer x.W = some m) (hd : x.Do = 3) (hun : m.unsent = []) :
    Calls Try.prog 17 #[.pointer (some ⟨g, 0, none⟩), .agg #[.int .i64 x.Do, .int .i64 x.W, .int .i64 x.At, .int .i64 x.Many, .string x.Text]] w (RStepPost w base F g bare d x) := by
  have HDo := Lib.hid hd
  have HUN := Lib.hid hun
  clear hd hun
  have HR := Lib.hid h
  have HXK := Lib.hid hx
  have hb0 := (Below.refl w.heap.size w).alloc (Nat.le_refl _) (.cells #[.int .i64 x.Do, .int .i64 x.W, .int .i64 x.At, .int .i64 x.Many, .string x.Text] 32)
  have HB0 := Lib.hid hb0
  have HR0 := Lib.hid (h.later hb0)
  have HX0 := Lib.hid (show RsC (w.alloc (.cells #[.int .i64 x.Do, .int .i64 x.W, .int .i64 x.At, .int .i64 x.Many, .string x.Text] 32)) w.heap.size 0 x by simp [RsC])
  have HO := Lib.hid ho
  have HSM := Lib.hid hs
  have HFX := Lib.hid (show ∀ k, F k → k < w.heap.size from fun k hk => (h.foot k hk).2)
  clear hb0 h ho hx hs
  go_enter Try.func17, Try.ntmps17
  go_upto_region 1 with fail
  generalize hw0 : w.alloc _ = w0
  have hw0' : w.alloc (.cells #[.int .i64 x.Do, .int .i64 x.W, .int .i64 x.At, .int .i64 x.Many, .string x.Text] 32) = w0 := hw0
  rw [hw0'] at HB0 HR0 HX0
  clear hw0 hw0'
  obtain ⟨X, hX⟩ : ∃ X, X = w.heap.size := ⟨_, rfl⟩
  rw [← hX] at HX0 HFX ⊢
  clear hX
  have hXl := HX0.out.lt
  obtain ⟨b0, b1, b2, b3, b4⟩ := HX0.out
  go_wp2_with fail
  refine (IsWriter_c x.W _).mono ?_
  rintro e w1 ⟨rfl, rfl⟩
  obtain ⟨j, hj, hxj⟩ := writer_natR hiw
  rw [hiw]
  have hcl := HR0.out.cells j hj
  obtain ⟨hcw, hcs⟩ := hcl
  have HWn := Lib.hid hw
  have hwj : d.W j = some m := by
    have e := HWn.out
    rw [hxj] at e
    unfold DkM.writer at e
    rw [if_pos (isWriter_nat hj)] at e
    simpa using e
  have HPT := Lib.hid (show d.ptrN gw j = .pointer (some ⟨(gw j), 0, none⟩) ∧ d.ptrN gs j = .pointer (some ⟨(gs j), 0, none⟩) from by unfold DkM.ptrN; rw [hwj]; exact ⟨rfl, rfl⟩)
  rw [HPT.out.1] at hcw
  rw [HPT.out.2] at hcs
  have HWJ := Lib.hid hwj
  have HXJ := Lib.hid hxj
  have HWN := Lib.hid (show d.writer (j : Int) = some m from by rw [← hxj]; exact HWn.out)
  rw [hxj] at b1
  have hj0 : (0 : Int) ≤ (j : Int) := by omega
  have hj4 : (j : Int) < 4 := by omega
  clear hwj hxj HPT hw
  go_upto_region 3 with fail
  go_quiet (fail)
  have hL1 : Later w1 (w1.drewN nq) := bl_drewN (Below.refl _ _) nq
  generalize w1.drewN nq = w2 at *
  have HR2 := Lib.hid (HR0.out.later hL1)
  have HX2 := Lib.hid (HX0.out.below hL1 HX0.out.lt)
  have HB2 := Lib.hid (HB0.out.trans (hL1.mono HB0.out.size))
  clear hL1 hcw hcs b0 b1 b2 b3 b4 HR0 HX0 HB0 hXl
  obtain ⟨b0, b1, b2, b3, b4⟩ := HX2.out
  rw [HXJ.out] at b1
  rw [HDo.out] at b0
  have HRO := Lib.hid (show d.room bare x = (d.send m).1 from by
    have hd := HDo.out
    rw [room_is HO.out ⟨by omega, by omega, hiw, fun a => by have := a.2; omega⟩ HWn.out]
    rw [if_neg (by omega), if_neg (by omega), if_neg (by omega), if_pos hd])
  have HOV := Lib.hid (over_send HWn.out HDo.out)
  have HSE := Lib.hid (RSend_c HR2.out HO.out HSM.out hj HWN.out)
  have HSS := Lib.hid (fun (w' : World) (F' : Nat → Prop) (d' : DkM) (h' : RmAt w' base F' g gw gs d' d.scs bare) => RSSend_c h' HO.out HSM.out hj HWN.out (show d.scs j = some m.sc from by unfold DkM.scs; rw [HWJ.out]; rfl))
  have HSN := Lib.hid (show d.send m = (d, 5) from by unfold DkM.send; rw [HUN.out])
  have e1 : sendR m = zD := by unfold sendR; rw [HUN.out]
  have e2 : sendB m = false := by unfold sendB; rw [HUN.out]
  have e3 : sendM m = m := by unfold sendM; rw [HUN.out]
  rw [e1, e2, e3, setW_sameR HWJ.out] at HSE
  simp only [e1, e2, e3, setN_sameR HWJ.out] at HSS
  clear e1 e2 e3
  obtain ⟨r, hr⟩ : ∃ r, r = zD := ⟨_, rfl⟩
  rw [← hr] at HSE
  simp only [← hr] at HSS
  clear hr
  go_wp2_with fail
  refine HSE.out.mono ?_
  rintro e w3 ⟨rfl, F3, h3, m3, g3⟩
  have HR3 := Lib.hid h3; have HM3 := Lib.hid m3; have HG3 := Lib.hid g3
  have HX3 := Lib.hid (HX2.out.of_block (m3.block X HX2.out.lt fun e => by have := HFX.out X e; omega))
  clear h3 m3 g3 b0 b1 b2 b3 b4 HSE
  obtain ⟨b0, b1, b2, b3, b4⟩ := HX3.out
  rw [HXJ.out] at b1
  go_upto_region 25 with fail
  generalize hw4 : w3.alloc _ = w4
  have hw4' : w3.alloc (.cells #[.int .i64 r.Kind, .int .i64 r.By, .int .i64 r.No, .int .i64 r.Seen, .int .i64 r.At, .int .i64 r.Many, .string r.Text] 24) = w4 := hw4
  have hb4 : Below w3.heap.size w3 w4 := by rw [← hw4']; exact (Below.refl w3.heap.size w3).alloc (Nat.le_refl _) _
  have HY4 := Lib.hid (show DdAt w4 w3.heap.size r from by rw [← hw4']; exact DdAt.new w3 r)
  clear hw4 hw4' b0 b1 b2 b3 b4
  obtain ⟨Y, hY⟩ : ∃ Y, Y = w3.heap.size := ⟨_, rfl⟩
  rw [← hY] at HY4 ⊢
  have HFY := Lib.hid (show ∀ k, F3 k → k ≠ Y ∧ k ≠ X from fun k hk => ⟨by have := (HR3.out.foot k hk).2; omega, by
    rcases HG3.out k hk with h | h
    · have := HFX.out k h; omega
    · have := HX2.out.lt; omega⟩)
  have HR4 := Lib.hid (HR3.out.later hb4)
  have HM4 := Lib.hid (HM3.out.trans (Moves.of_below (F := F) hb4) (fun _ _ k => k))
  have HX4 := Lib.hid (HX3.out.below hb4 HX3.out.lt)
  clear hb4 hY HR3 HM3 HX3
  obtain ⟨b0, b1, b2, b3, b4⟩ := HX4.out
  rw [HXJ.out] at b1
  go_wp2_with fail
  refine (HSS.out _ _ _ HR4.out).mono ?_
  rintro e w5 ⟨rfl, F5, h5, m5, g5⟩
  have HY5 := Lib.hid (HY4.out.of_block m5.size (m5.block Y HY4.out.lt fun e => (HFY.out Y e).1 rfl))
  have HR5 := Lib.hid h5
  have HM5 := Lib.hid (MovesR.transG HM4.out HG3.out m5)
  have HG5 := Lib.hid (GrowsR.trans HG3.out HM4.out.size g5)
  have HF5 := Lib.hid (show ∀ k, F5 k → k ≠ Y from fun k hk => by
    rcases g5 k hk with h | h
    · exact (HFY.out k h).1
    · have := HY4.out.lt; omega)
  clear h5 m5 g5 b0 b1 b2 b3 b4 HSS HY4 HR4 HM4 HX4 HG3 HFY
  obtain ⟨_, d0, d1, d2, d3, d4, d5, d6⟩ := HY5.out
  go_upto_region 26 with fail
  generalize hw6 : w5.alloc _ = w6
  have hw6' : w5.alloc (.cells #[.int .i64 r.Kind, .int .i64 r.By, .int .i64 r.No, .int .i64 r.Seen, .int .i64 r.At, .int .i64 r.Many, .string r.Text] 24) = w6 := hw6
  have hb6 : Below w5.heap.size w5 w6 := by rw [← hw6']; exact (Below.refl w5.heap.size w5).alloc (Nat.le_refl _) _
  have HZ6 := Lib.hid (show DdAt w6 w5.heap.size r from by rw [← hw6']; exact DdAt.new w5 r)
  have HY6 := Lib.hid (HY5.out.later hb6)
  have HR6 := Lib.hid (HR5.out.later hb6)
  have HM6 := Lib.hid (HM5.out.trans (Moves.of_below (F := F) hb6) (fun _ _ k => k))
  have HF6 := Lib.hid (show ∀ k, F5 k → k ≠ Y ∧ k ≠ w5.heap.size from fun k hk => ⟨HF5.out k hk, by have := (HR5.out.foot k hk).2; omega⟩)
  clear hw6 hw6' hb6 HY5 HR5 HM5 HF5 d0 d1 d2 d3 d4 d5 d6
  generalize w5.heap.size = Z at *
  have HFIN := Lib.hid (RStepPost.done (x := x) HR.out (show d.over x = false from by rw [HOV.out, HSN.out]; simp) (by
    rw [HRO.out, HSN.out]
    exact RmPost.of HB2.out ⟨F5, HR6.out, HM6.out, HG5.out⟩ rfl))
  clear HR6 HM6 HG5
  go_wp2
  go_ret2
  exact HFIN.out

set_option maxRecDepth 100000 in
set_option maxHeartbeats 1000000 in
theorem RStep_send1 (h : RmAt w base F g gw gs d d.scs bare) (ho : d.Ok) (hs : d.Sm 1000) (x : RStep) (hx : x.ok) (hiw : isWriter x.W = true) {m : WM} (hw : d.writer x.W = some m) (hd : x.Do = 3) {u : Dd} {us : List Dd} (hun : m.unsent = u :: us) :
    Calls Try.prog 17 #[.pointer (some ⟨g, 0, none⟩), .agg #[.int .i64 x.Do, .int .i64 x.W, .int .i64 x.At, .int .i64 x.Many, .string x.Text]] w (RStepPost w base F g bare d x) := by
  have HDo := Lib.hid hd
  have HUN := Lib.hid hun
  clear hd hun
  have HR := Lib.hid h
  have HXK := Lib.hid hx
  have hb0 := (Below.refl w.heap.size w).alloc (Nat.le_refl _) (.cells #[.int .i64 x.Do, .int .i64 x.W, .int .i64 x.At, .int .i64 x.Many, .string x.Text] 32)
  have HB0 := Lib.hid hb0
  have HR0 := Lib.hid (h.later hb0)
  have HX0 := Lib.hid (show RsC (w.alloc (.cells #[.int .i64 x.Do, .int .i64 x.W, .int .i64 x.At, .int .i64 x.Many, .string x.Text] 32)) w.heap.size 0 x by simp [RsC])
  have HO := Lib.hid ho
  have HSM := Lib.hid hs
  have HFX := Lib.hid (show ∀ k, F k → k < w.heap.size from fun k hk => (h.foot k hk).2)
  clear hb0 h ho hx hs
  go_enter Try.func17, Try.ntmps17
  go_upto_region 1 with fail
  generalize hw0 : w.alloc _ = w0
  have hw0' : w.alloc (.cells #[.int .i64 x.Do, .int .i64 x.W, .int .i64 x.At, .int .i64 x.Many, .string x.Text] 32) = w0 := hw0
  rw [hw0'] at HB0 HR0 HX0
  clear hw0 hw0'
  obtain ⟨X, hX⟩ : ∃ X, X = w.heap.size := ⟨_, rfl⟩
  rw [← hX] at HX0 HFX ⊢
  clear hX
  have hXl := HX0.out.lt
  obtain ⟨b0, b1, b2, b3, b4⟩ := HX0.out
  go_wp2_with fail
  refine (IsWriter_c x.W _).mono ?_
  rintro e w1 ⟨rfl, rfl⟩
  obtain ⟨j, hj, hxj⟩ := writer_natR hiw
  rw [hiw]
  have hcl := HR0.out.cells j hj
  obtain ⟨hcw, hcs⟩ := hcl
  have HWn := Lib.hid hw
  have hwj : d.W j = some m := by
    have e := HWn.out
    rw [hxj] at e
    unfold DkM.writer at e
    rw [if_pos (isWriter_nat hj)] at e
    simpa using e
  have HPT := Lib.hid (show d.ptrN gw j = .pointer (some ⟨(gw j), 0, none⟩) ∧ d.ptrN gs j = .pointer (some ⟨(gs j), 0, none⟩) from by unfold DkM.ptrN; rw [hwj]; exact ⟨rfl, rfl⟩)
  rw [HPT.out.1] at hcw
  rw [HPT.out.2] at hcs
  have HWJ := Lib.hid hwj
  have HXJ := Lib.hid hxj
  have HWN := Lib.hid (show d.writer (j : Int) = some m from by rw [← hxj]; exact HWn.out)
  rw [hxj] at b1
  have hj0 : (0 : Int) ≤ (j : Int) := by omega
  have hj4 : (j : Int) < 4 := by omega
  clear hwj hxj HPT hw
  go_upto_region 3 with fail
  go_quiet (fail)
  have hL1 : Later w1 (w1.drewN nq) := bl_drewN (Below.refl _ _) nq
  generalize w1.drewN nq = w2 at *
  have HR2 := Lib.hid (HR0.out.later hL1)
  have HX2 := Lib.hid (HX0.out.below hL1 HX0.out.lt)
  have HB2 := Lib.hid (HB0.out.trans (hL1.mono HB0.out.size))
  clear hL1 hcw hcs b0 b1 b2 b3 b4 HR0 HX0 HB0 hXl
  obtain ⟨b0, b1, b2, b3, b4⟩ := HX2.out
  rw [HXJ.out] at b1
  rw [HDo.out] at b0
  have HRO := Lib.hid (show d.room bare x = (d.send m).1 from by
    have hd := HDo.out
    rw [room_is HO.out ⟨by omega, by omega, hiw, fun a => by have := a.2; omega⟩ HWn.out]
    rw [if_neg (by omega), if_neg (by omega), if_neg (by omega), if_pos hd])
  have HOV := Lib.hid (over_send HWn.out HDo.out)
  have HSE := Lib.hid (RSend_c HR2.out HO.out HSM.out hj HWN.out)
  have HSS := Lib.hid (fun (w' : World) (F' : Nat → Prop) (d' : DkM) (h' : RmAt w' base F' g gw gs d' d.scs bare) => RSSend_c h' HO.out HSM.out hj HWN.out (show d.scs j = some m.sc from by unfold DkM.scs; rw [HWJ.out]; rfl))
  obtain ⟨_, hme, _, t, hin⟩ := HO.out.of_writer HWN.out
  have HSN := Lib.hid (show d.send m = if (d.lm.takeF u).2.2 = 0 then (d.set (d.lm.takeF u).1 (j : Int) (some m.sendF), 0) else (d.drop (j : Int), (d.lm.takeF u).2.2) from by unfold DkM.send; rw [HUN.out, hme])
  have hub := hin.us 0 (by rw [HUN.out]; simp)
  have e0 : m.unsent[0]'(by rw [HUN.out]; simp) = u := by simp only [HUN.out]; rfl
  rw [e0] at hub
  have HUF := Lib.hid (fault_okR hub.f)
  have HCD := Lib.hid (hin.send_code HO.out.lm u _ HUN.out)
  have e1 : sendR m = u := by unfold sendR; rw [HUN.out]
  have e2 : sendB m = true := by unfold sendB; rw [HUN.out]
  have e3 : sendM m = m.sendF := by unfold sendM; rw [HUN.out]
  rw [e1, e2, e3] at HSE
  simp only [e1, e2, e3] at HSS
  clear e0 e1 e2 e3 hub hin t hme
  obtain ⟨r, hr⟩ : ∃ r, r = u := ⟨_, rfl⟩
  rw [← hr] at HSE HSN HUF HCD
  simp only [← hr] at HSS
  clear HUN hr
  go_wp2_with fail
  refine HSE.out.mono ?_
  rintro e w3 ⟨rfl, F3, h3, m3, g3⟩
  have HR3 := Lib.hid h3; have HM3 := Lib.hid m3; have HG3 := Lib.hid g3
  have HX3 := Lib.hid (HX2.out.of_block (m3.block X HX2.out.lt fun e => by have := HFX.out X e; omega))
  clear h3 m3 g3 b0 b1 b2 b3 b4 HSE
  obtain ⟨b0, b1, b2, b3, b4⟩ := HX3.out
  rw [HXJ.out] at b1
  go_upto_region 25 with fail
  generalize hw4 : w3.alloc _ = w4
  have hw4' : w3.alloc (.cells #[.int .i64 r.Kind, .int .i64 r.By, .int .i64 r.No, .int .i64 r.Seen, .int .i64 r.At, .int .i64 r.Many, .string r.Text] 24) = w4 := hw4
  have hb4 : Below w3.heap.size w3 w4 := by rw [← hw4']; exact (Below.refl w3.heap.size w3).alloc (Nat.le_refl _) _
  have HY4 := Lib.hid (show DdAt w4 w3.heap.size r from by rw [← hw4']; exact DdAt.new w3 r)
  clear hw4 hw4' b0 b1 b2 b3 b4
  obtain ⟨Y, hY⟩ : ∃ Y, Y = w3.heap.size := ⟨_, rfl⟩
  rw [← hY] at HY4 ⊢
  have HFY := Lib.hid (show ∀ k, F3 k → k ≠ Y ∧ k ≠ X from fun k hk => ⟨by have := (HR3.out.foot k hk).2; omega, by
    rcases HG3.out k hk with h | h
    · have := HFX.out k h; omega
    · have := HX2.out.lt; omega⟩)
  have HR4 := Lib.hid (HR3.out.later hb4)
  have HM4 := Lib.hid (HM3.out.trans (Moves.of_below (F := F) hb4) (fun _ _ k => k))
  have HX4 := Lib.hid (HX3.out.below hb4 HX3.out.lt)
  clear hb4 hY HR3 HM3 HX3
  obtain ⟨b0, b1, b2, b3, b4⟩ := HX4.out
  rw [HXJ.out] at b1
  go_wp2_with fail
  refine (HSS.out _ _ _ HR4.out).mono ?_
  rintro e w5 ⟨rfl, F5, h5, m5, g5⟩
  have HY5 := Lib.hid (HY4.out.of_block m5.size (m5.block Y HY4.out.lt fun e => (HFY.out Y e).1 rfl))
  have HR5 := Lib.hid h5
  have HM5 := Lib.hid (MovesR.transG HM4.out HG3.out m5)
  have HG5 := Lib.hid (GrowsR.trans HG3.out HM4.out.size g5)
  have HF5 := Lib.hid (show ∀ k, F5 k → k ≠ Y from fun k hk => by
    rcases g5 k hk with h | h
    · exact (HFY.out k h).1
    · have := HY4.out.lt; omega)
  clear h5 m5 g5 b0 b1 b2 b3 b4 HSS HY4 HR4 HM4 HX4 HG3 HFY
  obtain ⟨_, d0, d1, d2, d3, d4, d5, d6⟩ := HY5.out
  go_upto_region 26 with fail
  generalize hw6 : w5.alloc _ = w6
  have hw6' : w5.alloc (.cells #[.int .i64 r.Kind, .int .i64 r.By, .int .i64 r.No, .int .i64 r.Seen, .int .i64 r.At, .int .i64 r.Many, .string r.Text] 24) = w6 := hw6
  have hb6 : Below w5.heap.size w5 w6 := by rw [← hw6']; exact (Below.refl w5.heap.size w5).alloc (Nat.le_refl _) _
  have HZ6 := Lib.hid (show DdAt w6 w5.heap.size r from by rw [← hw6']; exact DdAt.new w5 r)
  have HY6 := Lib.hid (HY5.out.later hb6)
  have HR6 := Lib.hid (HR5.out.later hb6)
  have HM6 := Lib.hid (HM5.out.trans (Moves.of_below (F := F) hb6) (fun _ _ k => k))
  have HF6 := Lib.hid (show ∀ k, F5 k → k ≠ Y ∧ k ≠ w5.heap.size from fun k hk => ⟨HF5.out k hk, by have := (HR5.out.foot k hk).2; omega⟩)
  clear hw6 hw6' hb6 HY5 HR5 HM5 HF5 d0 d1 d2 d3 d4 d5 d6
  generalize w5.heap.size = Z at *
  obtain ⟨gl, FL, hFL, c0, hlog, put⟩ := HR6.out.logZ
  have HLG := Lib.hid (show LogAt w6 base FL gl d.lm from hlog)
  have HPut := Lib.hid put
  have HFL := Lib.hid hFL
  obtain ⟨_, d0, d1, d2, d3, d4, d5, d6⟩ := HY6.out
  have C0 := later_cell c0
  have D0 := later_cell d0
  have D1 := later_cell d1
  have D2 := later_cell d2
  have D3 := later_cell d3
  have D4 := later_cell d4
  have D5 := later_cell d5
  have D6 := later_cell d6
  clear c0 d0 d1 d2 d3 d4 d5 d6 hlog put hFL
  have hL : ∀ q : Lt w6, Later w6 q.v := fun q => q.h
  go_upto_region 28 with fail
  refine wp_region_mixh [] [5] [0, 1, 2, 3, 4, 5, 6, 7, 8, 9, 10] (by kernel_rfl) (by kernel_rfl) ?_
  iterate 5 (refine wpMixH_step rfl (fun K hK => ?_); go_simp; refine hK _ _ ?_; clear hK K)
  refine wpMixH_step rfl (fun K hK => ?_)
  go_simp
  intro p
  refine (Take_c (HLG.out.later (hL p)) HO.out.lm r HUF.out.1 HUF.out.2).mono ?_
  rintro e w7 ⟨rfl, F', hL7, hM7, hG7⟩
  refine ⟨_, rfl, hK _ _ ?_⟩
  clear hK K
  have hs := (hL p).size
  have HML := Lib.hid (show Moves FL w6 w7 from (Moves.of_below (F := FL) (hL p)).trans hM7 (fun _ _ k => k))
  have HGL := Lib.hid (show Grows FL w6 F' from fun k hk => by
    rcases hG7 k hk with h1 | h1
    · exact .inl h1
    · exact .inr (Nat.le_trans hs h1))
  obtain ⟨F8, q1, q2, q3⟩ := HPut.out w7 F' (d.lm.takeF r).1 HML.out hL7 HGL.out
  have HR7 := Lib.hid q1; have HM7 := Lib.hid (MovesR.transG HM6.out HG5.out q2); have HG7 := Lib.hid (GrowsR.trans HG5.out HM6.out.size q3)
  have HY7 := Lib.hid (HY6.out.of_block HML.out.size (HML.out.block Y HY6.out.lt (fun e => (HF6.out Y (HFL.out Y e).1).1 rfl)))
  have HZ7 := Lib.hid (HZ6.out.of_block HML.out.size (HML.out.block Z HZ6.out.lt (fun e => (HF6.out Z (HFL.out Z e).1).2 rfl)))
  clear q1 q2 q3 hL7 hM7 hG7 HML HGL HPut HLG HY6 HZ6 HR6 HM6 HG5 hs p hL C0 D0 D1 D2 D3 D4 D5 D6
  iterate 5 (refine wpMixH_step rfl (fun K hK => ?_); go_simp; refine hK _ _ ?_; clear hK K)
  refine wpMixH_nil ?_
  intro w8 hL8
  have HS8 := Lib.hid (show RmS w2 base F g gw gs bare ((d.setW j (some m.sendF)).setL (d.lm.takeF r).1) (setN d.scs j (some m.sendF.sc)) w8 from ⟨F8, HR7.out.later hL8, HM7.out.trans (Moves.of_below (F := F) hL8) (fun _ _ k => k), HG7.out⟩)
  have HY8 := Lib.hid (HY7.out.later hL8)
  have HZ8 := Lib.hid (HZ7.out.later hL8)
  clear hL8 HR7 HM7 HG7 HY7 HZ7
  obtain ⟨_, d0, d1, d2, d3, d4, d5, d6⟩ := HY8.out
  obtain ⟨_, c0, c1, c2, c3, c4, c5, c6⟩ := HZ8.out
  have hgd := guard_DeedR
  have heq := eql_DeedR r
  by_cases h0 : (d.lm.takeF r).2.2 = 0
  · have HFIN := Lib.hid (RStepPost.done (x := x) HR.out (show d.over x = false from by rw [HOV.out, HSN.out, if_pos h0]; simp) (by
      rw [HRO.out, HSN.out, if_pos h0, DkM.set_eq, Int.toNat_natCast]
      exact RmPost.of HB2.out HS8.out (scs_setW (d.setL (d.lm.takeF r).1) j m.sendF).symm))
    rw [h0]
    clear h0 HSN HCD HS8
    generalize (d.lm.takeF r).2.1 = nn
    go_wp2
    go_ret2
    exact HFIN.out
  · have h9 : (d.lm.takeF r).2.2 = 9 := by
      rcases HCD.out with h | h
      · exact absurd h h0
      · exact h
    have hov : d.over x = true := by rw [HOV.out, HSN.out, if_neg h0, h9, hiw]; rfl
    have HFIN := Lib.hid (show RStepPost w base F g bare d x (.returned (.tuple #[.bool true, .bool true])) w8 from ⟨by rw [hov], fun h => (by rw [hov] at h; cases h), HS8.out.belowB HR.out HB2.out⟩)
    rw [h9]
    clear h0 h9 hov HSN HCD HS8
    generalize (d.lm.takeF r).2.1 = nn
    go_wp2
    go_ret2
    exact HFIN.out

end
end Go.Proofs.Ytneoeokfffnonac
