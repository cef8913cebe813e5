/- Printed by gentn.py: the walk of the town's Do. -/
import Derived.Test.YtneoeokfffnonacGreatTnW
import Derived.Test.YtneoeokfffnonacGreatDkDo
import Derived.Test.YtneoeokfffnonacGreatMixX
set_option linter.unusedVariables false
set_option linter.unusedSimpArgs false
namespace Go.Proofs.YtneoeokfffnonacGreat
open Go.RowKit
section
variable {w : World} {base : Nat} {F : Nat → Prop} {g : Nat} {gw : Nat → Nat} {d : DkM}
theorem TnS.after {w0 w' : World} (hb : Below w.heap.size w w0) (h : TnS w0 base F g gw d w') : TnS w base F g gw d w' := by
  obtain ⟨F', h1, h2, h3⟩ := h
  refine ⟨F', h1, (Moves.of_below (F := F) hb).trans h2 (fun _ _ k => k), fun k hk => ?_⟩
  rcases h3 k hk with h | h
  · exact .inl h
  · exact .inr (Nat.le_trans hb.size h)
def TDoPost (w : World) (base : Nat) (F : Nat → Prop) (g : Nat) (d : DkM) (x : DStep) (e : Ending) (w' : World) : Prop :=
  e = .returned (.int .i64 (d.step x).2) ∧ TPost w base F g (d.step x).1 w'
structure StA (w : World) (b : Nat) (x : DStep) : Prop where
  lt : b < w.heap.size
  c0 : w.cell? ⟨b, 0, none⟩ = some (.int .i64 x.Kind)
  c1 : w.cell? ⟨b, 1, none⟩ = some (.int .i64 x.W)
  c2 : w.cell? ⟨b, 2, none⟩ = some (.int .i64 x.At)
  c3 : w.cell? ⟨b, 3, none⟩ = some (.int .i64 x.Many)
  c4 : w.cell? ⟨b, 4, none⟩ = some (.string x.Text)
theorem StA.new (w : World) (x : DStep) : StA (w.alloc (.cells #[.int .i64 x.Kind, .int .i64 x.W, .int .i64 x.At, .int .i64 x.Many, .string x.Text] 31)) w.heap.size x := by refine ⟨by simp, ?_, ?_, ?_, ?_, ?_⟩ <;> simp
theorem StA.of_cells {w w' : World} {b : Nat} {x : DStep} (h : StA w b x) (hz : w.heap.size ≤ w'.heap.size) (hc : ∀ o, w'.cell? ⟨b, o, none⟩ = w.cell? ⟨b, o, none⟩) : StA w' b x :=
  ⟨Nat.lt_of_lt_of_le h.lt hz, (hc _).trans h.c0, (hc _).trans h.c1, (hc _).trans h.c2, (hc _).trans h.c3, (hc _).trans h.c4⟩
theorem StA.later {w w' : World} {b : Nat} {x : DStep} (h : StA w b x) (hl : Below w.heap.size w w') : StA w' b x := h.of_cells hl.size (fun o => hl.cell (p := ⟨b, o, none⟩) h.lt)
theorem StA.moves {w w' : World} {b : Nat} {x : DStep} (h : StA w b x) {G : Nat → Prop} (hm : Moves G w w') (hd : ¬ G b) : StA w' b x := h.of_cells hm.size (fun o => hm.cell h.lt hd o)
set_option maxRecDepth 100000 in
set_option maxHeartbeats 1000000 in
theorem TDo_kind (h : TnAt w base F g gw d) (ho : d.Ok) (x : DStep) (hk : x.Kind < 1 ∨ 7 < x.Kind) :
    Calls Tryz.prog 9 #[.pointer (some ⟨g, 0, none⟩), .agg #[.int .i64 x.Kind, .int .i64 x.W, .int .i64 x.At, .int .i64 x.Many, .string x.Text]] w (TDoPost w base F g d x) := by
  have HS := Lib.hid (show d.step x = (d, 2) from by
    unfold DkM.step
    rw [if_pos hk])
  have hb0 := (Below.refl w.heap.size w).alloc (Nat.le_refl _) (.cells #[.int .i64 x.Kind, .int .i64 x.W, .int .i64 x.At, .int .i64 x.Many, .string x.Text] 31)
  have HB0 := Lib.hid hb0
  have HD0 := Lib.hid (h.later hb0)
  have HX0 := Lib.hid (StA.new w x)
  have HFX := Lib.hid (show ∀ k, F k → k < w.heap.size from fun k hk => (h.foot k hk).2)
  have HO := Lib.hid ho
  have HK := Lib.hid hk
  clear hb0 h ho hk
  go_enter Tryz.func9, Tryz.ntmps9
  go_upto_region 1 with fail
  generalize hw0 : w.alloc _ = w0
  have hw0' : w.alloc (.cells #[.int .i64 x.Kind, .int .i64 x.W, .int .i64 x.At, .int .i64 x.Many, .string x.Text] 31) = w0 := hw0
  rw [hw0'] at HB0 HD0 HX0
  clear hw0 hw0'
  obtain ⟨X, hX⟩ : ∃ X, X = w.heap.size := ⟨_, rfl⟩
  rw [← hX] at HX0 HFX ⊢
  have HXE := Lib.hid hX
  clear hX
  obtain ⟨_, b0, b1, b2, b3, b4⟩ := HX0.out
  have hk := HK.out
  have h1 : decide (x.Kind < 1) = true ∨ (decide (x.Kind < 1) = false ∧ decide (x.Kind > 7) = true) := by
    by_cases e : x.Kind < 1
    · exact .inl (decide_eq_true e)
    · exact .inr ⟨decide_eq_false e, decide_eq_true (by omega)⟩
  clear hk
  rcases h1 with h1 | ⟨h1, h2⟩
  all_goals
    go_wp2
    go_ret
    exact ⟨by rw [HS.out]; rfl, by rw [HS.out]; exact TPost.after HB0.out ⟨F, gw, HD0.out, Moves.refl _ _, fun _ hk => .inl hk⟩⟩

set_option maxRecDepth 100000 in
set_option maxHeartbeats 1000000 in
theorem TDo_none (h : TnAt w base F g gw d) (ho : d.Ok) (x : DStep) (hk : 2 ≤ x.Kind ∧ x.Kind ≤ 7) (hw : d.writer x.W = none) :
    Calls Tryz.prog 9 #[.pointer (some ⟨g, 0, none⟩), .agg #[.int .i64 x.Kind, .int .i64 x.W, .int .i64 x.At, .int .i64 x.Many, .string x.Text]] w (TDoPost w base F g d x) := by
  have HS := Lib.hid (show d.step x = (d, 5) from by
    unfold DkM.step
    rw [if_neg (by omega), if_neg (by omega), hw])
  have hb0 := (Below.refl w.heap.size w).alloc (Nat.le_refl _) (.cells #[.int .i64 x.Kind, .int .i64 x.W, .int .i64 x.At, .int .i64 x.Many, .string x.Text] 31)
  have HB0 := Lib.hid hb0
  have HD0 := Lib.hid (h.later hb0)
  have HX0 := Lib.hid (StA.new w x)
  have HFX := Lib.hid (show ∀ k, F k → k < w.heap.size from fun k hk => (h.foot k hk).2)
  have HO := Lib.hid ho
  have HK := Lib.hid hk
  clear hb0 h ho hk
  go_enter Tryz.func9, Tryz.ntmps9
  go_upto_region 1 with fail
  generalize hw0 : w.alloc _ = w0
  have hw0' : w.alloc (.cells #[.int .i64 x.Kind, .int .i64 x.W, .int .i64 x.At, .int .i64 x.Many, .string x.Text] 31) = w0 := hw0
  rw [hw0'] at HB0 HD0 HX0
  clear hw0 hw0'
  obtain ⟨X, hX⟩ : ∃ X, X = w.heap.size := ⟨_, rfl⟩
  rw [← hX] at HX0 HFX ⊢
  have HXE := Lib.hid hX
  clear hX
  obtain ⟨_, b0, b1, b2, b3, b4⟩ := HX0.out
  have hk := HK.out
  have h1 : decide (x.Kind < 1) = false := decide_eq_false (by omega)
  have h2 : decide (x.Kind > 7) = false := decide_eq_false (by omega)
  have h2' : decide (7 < x.Kind) = false := decide_eq_false (by omega)
  have h3 : (x.Kind == 1) = false := by simp; omega
  have h3' : decide (x.Kind = 1) = false := decide_eq_false (by omega)
  clear hk
  cases hiw : isWriter x.W with
  | false =>
    have HIW := Lib.hid hiw
    clear hiw
    go_upto_region 8 with fail
    have hL : ∀ q : Lt w0, Later w0 q.v := fun q => q.h
    have B1 := later_cell b1
    clear b0 b1 b2 b3 b4
    refine wp_region_x [] [] [0, 1, 2, 3, 4, 5, 6, 7, 8, 9, 10, 11, 12, 13] (by kernel_rfl) (by kernel_rfl) ?_
    iterate 2 (refine wpX_step rfl (fun K hK => ?_); go_simp; refine hK _ _ ?_; clear hK K)
    refine wpX_step rfl (fun K hK => ?_)
    go_simp
    refine ⟨_, fun p => quietM_same p (IsWriter_c x.W p.v), hK _ _ ?_⟩
    clear hK K
    rw [HIW.out]
    iterate 11 (refine wpX_step rfl (fun K hK => ?_); go_simp; refine hK _ _ ?_; clear hK K)
    refine wpX_nil ?_
    intro w1 hL1
    have HF1 := Lib.hid (show TPost w base F g d w1 from TPost.after HB0.out (TnS.start HD0.out hL1).post)
    clear hL1
    go_wp2
    go_ret
    exact ⟨by rw [HS.out]; rfl, by rw [HS.out]; exact HF1.out⟩
  | true =>
    obtain ⟨j, hj, hxj⟩ := writer_nat hiw
    have hij : isWriter (j : Int) = true := isWriter_nat hj
    have hwj : d.W j = none := by
      have e := hw; rw [hxj] at e; unfold DkM.writer at e; rw [if_pos hij] at e; simpa using e
    rw [hxj] at b1
    obtain ⟨_, _, _, rr⟩ := HD0.out.rows
    have c1 := rr.no j hj hwj
    have hj0 : (0 : Int) ≤ (j : Int) := by omega
    have hj4 : (j : Int) < 4 := by omega
    clear rr hwj hxj hiw hw
    go_upto_region 8 with fail
    have hL : ∀ q : Lt w0, Later w0 q.v := fun q => q.h
    have B1 := later_cell b1
    have C1 := later_cell c1
    clear b0 b1 b2 b3 b4 c1
    refine wp_region_x [] [] [0, 1, 2, 3, 4, 5, 6, 7, 8, 9, 10, 11, 12, 13] (by kernel_rfl) (by kernel_rfl) ?_
    iterate 2 (refine wpX_step rfl (fun K hK => ?_); go_simp; refine hK _ _ ?_; clear hK K)
    refine wpX_step rfl (fun K hK => ?_)
    go_simp
    refine ⟨_, fun p => quietM_same p (IsWriter_c (j : Int) p.v), hK _ _ ?_⟩
    clear hK K
    rw [hij]
    iterate 11 (refine wpX_step rfl (fun K hK => ?_); go_simp; refine hK _ _ ?_; clear hK K)
    refine wpX_nil ?_
    intro w1 hL1
    have HF1 := Lib.hid (show TPost w base F g d w1 from TPost.after HB0.out (TnS.start HD0.out hL1).post)
    clear hL1 B1 C1
    go_wp2
    go_ret
    exact ⟨by rw [HS.out]; rfl, by rw [HS.out]; exact HF1.out⟩

set_option maxRecDepth 100000 in
set_option maxHeartbeats 1000000 in
theorem TDo_put (h : TnAt w base F g gw d) (ho : d.Ok) (x : DStep) (hk : x.Kind = 2) {m : WM} (hw : d.writer x.W = some m) (hs : d.Sm 1000) (hx : x.ok') :
    Calls Tryz.prog 9 #[.pointer (some ⟨g, 0, none⟩), .agg #[.int .i64 x.Kind, .int .i64 x.W, .int .i64 x.At, .int .i64 x.Many, .string x.Text]] w (TDoPost w base F g d x) := by
  have HS := Lib.hid (show d.step x = d.put m (m.deed 1 x.At 0 x.Text) from by
    unfold DkM.step
    rw [if_neg (by omega), if_neg (by omega), hw]
    simp only
    rw [if_pos hk])
  have HXK := Lib.hid hx
  have HSM := Lib.hid hs
  clear hx hs
  have hb0 := (Below.refl w.heap.size w).alloc (Nat.le_refl _) (.cells #[.int .i64 x.Kind, .int .i64 x.W, .int .i64 x.At, .int .i64 x.Many, .string x.Text] 31)
  have HB0 := Lib.hid hb0
  have HD0 := Lib.hid (h.later hb0)
  have HX0 := Lib.hid (StA.new w x)
  have HFX := Lib.hid (show ∀ k, F k → k < w.heap.size from fun k hk => (h.foot k hk).2)
  have HO := Lib.hid ho
  have HK := Lib.hid hk
  clear hb0 h ho hk
  go_enter Tryz.func9, Tryz.ntmps9
  go_upto_region 1 with fail
  generalize hw0 : w.alloc _ = w0
  have hw0' : w.alloc (.cells #[.int .i64 x.Kind, .int .i64 x.W, .int .i64 x.At, .int .i64 x.Many, .string x.Text] 31) = w0 := hw0
  rw [hw0'] at HB0 HD0 HX0
  clear hw0 hw0'
  obtain ⟨X, hX⟩ : ∃ X, X = w.heap.size := ⟨_, rfl⟩
  rw [← hX] at HX0 HFX ⊢
  have HXE := Lib.hid hX
  clear hX
  obtain ⟨_, b0, b1, b2, b3, b4⟩ := HX0.out
  have hk := HK.out
  rw [hk] at b0
  clear hk
  obtain ⟨hiw, hme, hW0, _⟩ := HO.out.of_writer hw
  obtain ⟨j, hj, hxj⟩ := writer_nat hiw
  have hij : isWriter (j : Int) = true := isWriter_nat hj
  have HME := Lib.hid (show m.me = (j : Int) from by rw [hme, hxj])
  have HWN := Lib.hid (show d.writer (j : Int) = some m from by rw [← hxj]; exact hw)
  have HWJ := Lib.hid (show d.W j = some m from by rw [hxj] at hW0; simpa using hW0)
  have HXJ := Lib.hid hxj
  rw [hxj] at b1
  obtain ⟨_, _, _, rr⟩ := HD0.out.rows
  have c1 := (rr.wr j hj m HWJ.out).1
  have hj0 : (0 : Int) ≤ (j : Int) := by omega
  have hj4 : (j : Int) < 4 := by omega
  clear rr hW0 hme hxj hiw hw
  go_upto_region 8 with fail
  have hL : ∀ q : Lt w0, Later w0 q.v := fun q => q.h
  have B1 := later_cell b1
  have C1 := later_cell c1
  clear b0 b1 b2 b3 b4 c1
  refine wp_region_x [] [] [0, 1, 2, 3, 4, 5, 6, 7, 8, 9, 10, 11, 12, 13] (by kernel_rfl) (by kernel_rfl) ?_
  iterate 2 (refine wpX_step rfl (fun K hK => ?_); go_simp; refine hK _ _ ?_; clear hK K)
  refine wpX_step rfl (fun K hK => ?_)
  go_simp
  refine ⟨_, fun p => quietM_same p (IsWriter_c (j : Int) p.v), hK _ _ ?_⟩
  clear hK K
  rw [hij]
  iterate 11 (refine wpX_step rfl (fun K hK => ?_); go_simp; refine hK _ _ ?_; clear hK K)
  refine wpX_nil ?_
  intro w1 hL1
  have HD1 := Lib.hid (HD0.out.later hL1)
  have HX1 := Lib.hid (HX0.out.later hL1)
  have HB1 := Lib.hid (HB0.out.trans (hL1.mono HB0.out.size))
  clear hL1 B1 C1 HD0 HX0 HB0
  obtain ⟨_, b0, b1, b2, b3, b4⟩ := HX1.out
  rw [HK.out] at b0
  rw [HXJ.out] at b1
  obtain ⟨_, _, _, rr⟩ := HD1.out.rows
  have c1 := (rr.wr j hj m HWJ.out).1
  clear rr
  go_upto_region 10 with fail
  go_quiet (fail)
  have hL2 : Later w1 (w1.drewN nq) := bl_drewN (Below.refl _ _) nq
  generalize w1.drewN nq = w2 at *
  have HD2 := Lib.hid (HD1.out.later hL2)
  have HX2 := Lib.hid (HX1.out.later hL2)
  have HB2 := Lib.hid (HB1.out.trans (hL2.mono HB1.out.size))
  clear hL2 HD1 HX1 HB1 b0 b1 b2 b3 b4 c1
  obtain ⟨hXl, b0, b1, b2, b3, b4⟩ := HX2.out
  rw [HK.out] at b0
  rw [HXJ.out] at b1
  go_wp2_with fail
  refine (TSDo_c HD2.out HO.out HSM.out hj HWN.out 1 x.At 0 x.Text HXK.out.2).mono ?_
  rintro e w3 ⟨rfl, h3⟩
  have HFIN := Lib.hid (show mayDo m.chars (m.deed 1 x.At 0 x.Text) = (d.step x).2 ∧ ∀ w4, Below w3.heap.size w3 w4 → TPost w base F g (d.step x).1 w4 from by
    rw [HS.out, put_eqT d HWJ.out HME.out]
    exact ⟨rfl, fun w4 hb => TPost.after HB2.out (h3.later hb).post⟩)
  clear h3 b0 b1 b2 b3 b4 HS
  generalize putRT m (m.deed 1 x.At 0 x.Text) = dd at *
  generalize mayDo m.chars (m.deed 1 x.At 0 x.Text) = code at *
  have hb4 := (Below.refl w3.heap.size w3).alloc (Nat.le_refl _) (.cells #[.int .i64 dd.Kind, .int .i64 dd.By, .int .i64 dd.No, .int .i64 dd.Seen, .int .i64 dd.At, .int .i64 dd.Many, .string dd.Text] 54)
  have HF4 := Lib.hid (HFIN.out.2 _ hb4)
  clear hb4
  go_wp2
  go_ret
  exact ⟨by rw [← HFIN.out.1]; rfl, HF4.out⟩

set_option maxRecDepth 100000 in
set_option maxHeartbeats 1000000 in
theorem TDo_take (h : TnAt w base F g gw d) (ho : d.Ok) (x : DStep) (hk : x.Kind = 3) {m : WM} (hw : d.writer x.W = some m) (hs : d.Sm 1000) (hx : x.ok') :
    Calls Tryz.prog 9 #[.pointer (some ⟨g, 0, none⟩), .agg #[.int .i64 x.Kind, .int .i64 x.W, .int .i64 x.At, .int .i64 x.Many, .string x.Text]] w (TDoPost w base F g d x) := by
  have HS := Lib.hid (show d.step x = d.put m (m.deed 2 x.At x.Many ByteArray.empty) from by
    unfold DkM.step
    rw [if_neg (by omega), if_neg (by omega), hw]
    simp only
    rw [if_neg (by omega), if_pos hk])
  have HXK := Lib.hid hx
  have HSM := Lib.hid hs
  clear hx hs
  have hb0 := (Below.refl w.heap.size w).alloc (Nat.le_refl _) (.cells #[.int .i64 x.Kind, .int .i64 x.W, .int .i64 x.At, .int .i64 x.Many, .string x.Text] 31)
  have HB0 := Lib.hid hb0
  have HD0 := Lib.hid (h.later hb0)
  have HX0 := Lib.hid (StA.new w x)
  have HFX := Lib.hid (show ∀ k, F k → k < w.heap.size from fun k hk => (h.foot k hk).2)
  have HO := Lib.hid ho
  have HK := Lib.hid hk
  clear hb0 h ho hk
  go_enter Tryz.func9, Tryz.ntmps9
  go_upto_region 1 with fail
  generalize hw0 : w.alloc _ = w0
  have hw0' : w.alloc (.cells #[.int .i64 x.Kind, .int .i64 x.W, .int .i64 x.At, .int .i64 x.Many, .string x.Text] 31) = w0 := hw0
  rw [hw0'] at HB0 HD0 HX0
  clear hw0 hw0'
  obtain ⟨X, hX⟩ : ∃ X, X = w.heap.size := ⟨_, rfl⟩
  rw [← hX] at HX0 HFX ⊢
  have HXE := Lib.hid hX
  clear hX
  obtain ⟨_, b0, b1, b2, b3, b4⟩ := HX0.out
  have hk := HK.out
  rw [hk] at b0
  clear hk
  obtain ⟨hiw, hme, hW0, _⟩ := HO.out.of_writer hw
  obtain ⟨j, hj, hxj⟩ := writer_nat hiw
  have hij : isWriter (j : Int) = true := isWriter_nat hj
  have HME := Lib.hid (show m.me = (j : Int) from by rw [hme, hxj])
  have HWN := Lib.hid (show d.writer (j : Int) = some m from by rw [← hxj]; exact hw)
  have HWJ := Lib.hid (show d.W j = some m from by rw [hxj] at hW0; simpa using hW0)
  have HXJ := Lib.hid hxj
  rw [hxj] at b1
  obtain ⟨_, _, _, rr⟩ := HD0.out.rows
  have c1 := (rr.wr j hj m HWJ.out).1
  have hj0 : (0 : Int) ≤ (j : Int) := by omega
  have hj4 : (j : Int) < 4 := by omega
  clear rr hW0 hme hxj hiw hw
  go_upto_region 8 with fail
  have hL : ∀ q : Lt w0, Later w0 q.v := fun q => q.h
  have B1 := later_cell b1
  have C1 := later_cell c1
  clear b0 b1 b2 b3 b4 c1
  refine wp_region_x [] [] [0, 1, 2, 3, 4, 5, 6, 7, 8, 9, 10, 11, 12, 13] (by kernel_rfl) (by kernel_rfl) ?_
  iterate 2 (refine wpX_step rfl (fun K hK => ?_); go_simp; refine hK _ _ ?_; clear hK K)
  refine wpX_step rfl (fun K hK => ?_)
  go_simp
  refine ⟨_, fun p => quietM_same p (IsWriter_c (j : Int) p.v), hK _ _ ?_⟩
  clear hK K
  rw [hij]
  iterate 11 (refine wpX_step rfl (fun K hK => ?_); go_simp; refine hK _ _ ?_; clear hK K)
  refine wpX_nil ?_
  intro w1 hL1
  have HD1 := Lib.hid (HD0.out.later hL1)
  have HX1 := Lib.hid (HX0.out.later hL1)
  have HB1 := Lib.hid (HB0.out.trans (hL1.mono HB0.out.size))
  clear hL1 B1 C1 HD0 HX0 HB0
  obtain ⟨_, b0, b1, b2, b3, b4⟩ := HX1.out
  rw [HK.out] at b0
  rw [HXJ.out] at b1
  obtain ⟨_, _, _, rr⟩ := HD1.out.rows
  have c1 := (rr.wr j hj m HWJ.out).1
  clear rr
  go_upto_region 10 with fail
  go_quiet (fail)
  have hL2 : Later w1 (w1.drewN nq) := bl_drewN (Below.refl _ _) nq
  generalize w1.drewN nq = w2 at *
  have HD2 := Lib.hid (HD1.out.later hL2)
  have HX2 := Lib.hid (HX1.out.later hL2)
  have HB2 := Lib.hid (HB1.out.trans (hL2.mono HB1.out.size))
  clear hL2 HD1 HX1 HB1 b0 b1 b2 b3 b4 c1
  obtain ⟨hXl, b0, b1, b2, b3, b4⟩ := HX2.out
  rw [HK.out] at b0
  rw [HXJ.out] at b1
  go_wp2_with fail
  refine (TSDo_c HD2.out HO.out HSM.out hj HWN.out 2 x.At x.Many ByteArray.empty (by decide)).mono ?_
  rintro e w3 ⟨rfl, h3⟩
  have HFIN := Lib.hid (show mayDo m.chars (m.deed 2 x.At x.Many ByteArray.empty) = (d.step x).2 ∧ ∀ w4, Below w3.heap.size w3 w4 → TPost w base F g (d.step x).1 w4 from by
    rw [HS.out, put_eqT d HWJ.out HME.out]
    exact ⟨rfl, fun w4 hb => TPost.after HB2.out (h3.later hb).post⟩)
  clear h3 b0 b1 b2 b3 b4 HS
  generalize putRT m (m.deed 2 x.At x.Many ByteArray.empty) = dd at *
  generalize mayDo m.chars (m.deed 2 x.At x.Many ByteArray.empty) = code at *
  have hb4 := (Below.refl w3.heap.size w3).alloc (Nat.le_refl _) (.cells #[.int .i64 dd.Kind, .int .i64 dd.By, .int .i64 dd.No, .int .i64 dd.Seen, .int .i64 dd.At, .int .i64 dd.Many, .string dd.Text] 54)
  have HF4 := Lib.hid (HFIN.out.2 _ hb4)
  clear hb4
  go_wp2
  go_ret
  exact ⟨by rw [← HFIN.out.1]; rfl, HF4.out⟩

set_option maxRecDepth 100000 in
set_option maxHeartbeats 1000000 in
theorem TDo_leave (h : TnAt w base F g gw d) (ho : d.Ok) (x : DStep) (hk : x.Kind = 7) {m : WM} (hw : d.writer x.W = some m) (hs : d.Sm 1000) :
    Calls Tryz.prog 9 #[.pointer (some ⟨g, 0, none⟩), .agg #[.int .i64 x.Kind, .int .i64 x.W, .int .i64 x.At, .int .i64 x.Many, .string x.Text]] w (TDoPost w base F g d x) := by
  have HS := Lib.hid (show d.step x = (d.drop m.me, 0) from by
    unfold DkM.step
    rw [if_neg (by omega), if_neg (by omega), hw]
    simp only
    rw [if_neg (by omega), if_neg (by omega), if_neg (by omega), if_neg (by omega), if_neg (by omega)])
  clear hs
  have hb0 := (Below.refl w.heap.size w).alloc (Nat.le_refl _) (.cells #[.int .i64 x.Kind, .int .i64 x.W, .int .i64 x.At, .int .i64 x.Many, .string x.Text] 31)
  have HB0 := Lib.hid hb0
  have HD0 := Lib.hid (h.later hb0)
  have HX0 := Lib.hid (StA.new w x)
  have HFX := Lib.hid (show ∀ k, F k → k < w.heap.size from fun k hk => (h.foot k hk).2)
  have HO := Lib.hid ho
  have HK := Lib.hid hk
  clear hb0 h ho hk
  go_enter Tryz.func9, Tryz.ntmps9
  go_upto_region 1 with fail
  generalize hw0 : w.alloc _ = w0
  have hw0' : w.alloc (.cells #[.int .i64 x.Kind, .int .i64 x.W, .int .i64 x.At, .int .i64 x.Many, .string x.Text] 31) = w0 := hw0
  rw [hw0'] at HB0 HD0 HX0
  clear hw0 hw0'
  obtain ⟨X, hX⟩ : ∃ X, X = w.heap.size := ⟨_, rfl⟩
  rw [← hX] at HX0 HFX ⊢
  have HXE := Lib.hid hX
  clear hX
  obtain ⟨_, b0, b1, b2, b3, b4⟩ := HX0.out
  have hk := HK.out
  rw [hk] at b0
  clear hk
  obtain ⟨hiw, hme, hW0, _⟩ := HO.out.of_writer hw
  obtain ⟨j, hj, hxj⟩ := writer_nat hiw
  have hij : isWriter (j : Int) = true := isWriter_nat hj
  have HME := Lib.hid (show m.me = (j : Int) from by rw [hme, hxj])
  have HWN := Lib.hid (show d.writer (j : Int) = some m from by rw [← hxj]; exact hw)
  have HWJ := Lib.hid (show d.W j = some m from by rw [hxj] at hW0; simpa using hW0)
  have HXJ := Lib.hid hxj
  rw [hxj] at b1
  obtain ⟨_, _, _, rr⟩ := HD0.out.rows
  have c1 := (rr.wr j hj m HWJ.out).1
  have hj0 : (0 : Int) ≤ (j : Int) := by omega
  have hj4 : (j : Int) < 4 := by omega
  clear rr hW0 hme hxj hiw hw
  go_upto_region 8 with fail
  have hL : ∀ q : Lt w0, Later w0 q.v := fun q => q.h
  have B1 := later_cell b1
  have C1 := later_cell c1
  clear b0 b1 b2 b3 b4 c1
  refine wp_region_x [] [] [0, 1, 2, 3, 4, 5, 6, 7, 8, 9, 10, 11, 12, 13] (by kernel_rfl) (by kernel_rfl) ?_
  iterate 2 (refine wpX_step rfl (fun K hK => ?_); go_simp; refine hK _ _ ?_; clear hK K)
  refine wpX_step rfl (fun K hK => ?_)
  go_simp
  refine ⟨_, fun p => quietM_same p (IsWriter_c (j : Int) p.v), hK _ _ ?_⟩
  clear hK K
  rw [hij]
  iterate 11 (refine wpX_step rfl (fun K hK => ?_); go_simp; refine hK _ _ ?_; clear hK K)
  refine wpX_nil ?_
  intro w1 hL1
  have HD1 := Lib.hid (HD0.out.later hL1)
  have HX1 := Lib.hid (HX0.out.later hL1)
  have HB1 := Lib.hid (HB0.out.trans (hL1.mono HB0.out.size))
  clear hL1 B1 C1 HD0 HX0 HB0
  obtain ⟨_, b0, b1, b2, b3, b4⟩ := HX1.out
  rw [HK.out] at b0
  rw [HXJ.out] at b1
  obtain ⟨_, _, _, rr⟩ := HD1.out.rows
  have c1 := (rr.wr j hj m HWJ.out).1
  clear rr
  go_upto_region 10 with fail
  go_quiet (fail)
  have hL2 : Later w1 (w1.drewN nq) := bl_drewN (Below.refl _ _) nq
  generalize w1.drewN nq = w2 at *
  have HD2 := Lib.hid (HD1.out.later hL2)
  have HX2 := Lib.hid (HX1.out.later hL2)
  have HB2 := Lib.hid (HB1.out.trans (hL2.mono HB1.out.size))
  clear hL2 HD1 HX1 HB1 b0 b1 b2 b3 b4 c1
  obtain ⟨hXl, b0, b1, b2, b3, b4⟩ := HX2.out
  rw [HK.out] at b0
  rw [HXJ.out] at b1
  go_wp2_with fail
  refine (Tdrop_c HD2.out (j : Int) hij).mono ?_
  rintro e w3 ⟨⟨v, rfl⟩, h3⟩
  have HFIN := Lib.hid (show (0 : Int) = (d.step x).2 ∧ TPost w base F g (d.step x).1 w3 from by
    rw [HS.out, HME.out]; exact ⟨rfl, TPost.after HB2.out h3.post⟩)
  clear h3 b0 b1 b2 b3 b4 HS
  go_wp2
  go_ret
  exact ⟨by rw [← HFIN.out.1]; rfl, HFIN.out.2⟩

set_option maxRecDepth 100000 in
set_option maxHeartbeats 1000000 in
theorem TDo_clear (h : TnAt w base F g gw d) (ho : d.Ok) (x : DStep) (hk : x.Kind = 6) {m : WM} (hw : d.writer x.W = some m) (hs : d.Sm 1000) :
    Calls Tryz.prog 9 #[.pointer (some ⟨g, 0, none⟩), .agg #[.int .i64 x.Kind, .int .i64 x.W, .int .i64 x.At, .int .i64 x.Many, .string x.Text]] w (TDoPost w base F g d x) := by
  have HS := Lib.hid (show d.step x = (d.set d.lm m.me (some (m.clearF (leastFor d.lm m.seen))), 0) from by
    unfold DkM.step
    rw [if_neg (by omega), if_neg (by omega), hw]
    simp only
    rw [if_neg (by omega), if_neg (by omega), if_neg (by omega), if_neg (by omega), if_pos hk])
  clear hs
  have hb0 := (Below.refl w.heap.size w).alloc (Nat.le_refl _) (.cells #[.int .i64 x.Kind, .int .i64 x.W, .int .i64 x.At, .int .i64 x.Many, .string x.Text] 31)
  have HB0 := Lib.hid hb0
  have HD0 := Lib.hid (h.later hb0)
  have HX0 := Lib.hid (StA.new w x)
  have HFX := Lib.hid (show ∀ k, F k → k < w.heap.size from fun k hk => (h.foot k hk).2)
  have HO := Lib.hid ho
  have HK := Lib.hid hk
  clear hb0 h ho hk
  go_enter Tryz.func9, Tryz.ntmps9
  go_upto_region 1 with fail
  generalize hw0 : w.alloc _ = w0
  have hw0' : w.alloc (.cells #[.int .i64 x.Kind, .int .i64 x.W, .int .i64 x.At, .int .i64 x.Many, .string x.Text] 31) = w0 := hw0
  rw [hw0'] at HB0 HD0 HX0
  clear hw0 hw0'
  obtain ⟨X, hX⟩ : ∃ X, X = w.heap.size := ⟨_, rfl⟩
  rw [← hX] at HX0 HFX ⊢
  have HXE := Lib.hid hX
  clear hX
  obtain ⟨_, b0, b1, b2, b3, b4⟩ := HX0.out
  have hk := HK.out
  rw [hk] at b0
  clear hk
  obtain ⟨hiw, hme, hW0, _⟩ := HO.out.of_writer hw
  obtain ⟨j, hj, hxj⟩ := writer_nat hiw
  have hij : isWriter (j : Int) = true := isWriter_nat hj
  have HME := Lib.hid (show m.me = (j : Int) from by rw [hme, hxj])
  have HWN := Lib.hid (show d.writer (j : Int) = some m from by rw [← hxj]; exact hw)
  have HWJ := Lib.hid (show d.W j = some m from by rw [hxj] at hW0; simpa using hW0)
  have HXJ := Lib.hid hxj
  rw [hxj] at b1
  obtain ⟨_, _, _, rr⟩ := HD0.out.rows
  have c1 := (rr.wr j hj m HWJ.out).1
  have hj0 : (0 : Int) ≤ (j : Int) := by omega
  have hj4 : (j : Int) < 4 := by omega
  clear rr hW0 hme hxj hiw hw
  go_upto_region 8 with fail
  have hL : ∀ q : Lt w0, Later w0 q.v := fun q => q.h
  have B1 := later_cell b1
  have C1 := later_cell c1
  clear b0 b1 b2 b3 b4 c1
  refine wp_region_x [] [] [0, 1, 2, 3, 4, 5, 6, 7, 8, 9, 10, 11, 12, 13] (by kernel_rfl) (by kernel_rfl) ?_
  iterate 2 (refine wpX_step rfl (fun K hK => ?_); go_simp; refine hK _ _ ?_; clear hK K)
  refine wpX_step rfl (fun K hK => ?_)
  go_simp
  refine ⟨_, fun p => quietM_same p (IsWriter_c (j : Int) p.v), hK _ _ ?_⟩
  clear hK K
  rw [hij]
  iterate 11 (refine wpX_step rfl (fun K hK => ?_); go_simp; refine hK _ _ ?_; clear hK K)
  refine wpX_nil ?_
  intro w1 hL1
  have HD1 := Lib.hid (HD0.out.later hL1)
  have HX1 := Lib.hid (HX0.out.later hL1)
  have HB1 := Lib.hid (HB0.out.trans (hL1.mono HB0.out.size))
  clear hL1 B1 C1 HD0 HX0 HB0
  obtain ⟨_, b0, b1, b2, b3, b4⟩ := HX1.out
  rw [HK.out] at b0
  rw [HXJ.out] at b1
  obtain ⟨_, _, _, rr⟩ := HD1.out.rows
  have c1 := (rr.wr j hj m HWJ.out).1
  clear rr
  go_upto_region 10 with fail
  go_quiet (fail)
  have hL2 : Later w1 (w1.drewN nq) := bl_drewN (Below.refl _ _) nq
  generalize w1.drewN nq = w2 at *
  have HD2 := Lib.hid (HD1.out.later hL2)
  have HX2 := Lib.hid (HX1.out.later hL2)
  have HB2 := Lib.hid (HB1.out.trans (hL2.mono HB1.out.size))
  clear hL2 HD1 HX1 HB1 b0 b1 b2 b3 b4 c1
  obtain ⟨hXl, b0, b1, b2, b3, b4⟩ := HX2.out
  rw [HK.out] at b0
  rw [HXJ.out] at b1
  obtain ⟨FSk, _, _, hsc, _⟩ := HD2.out.wrZ hj HWJ.out
  have s1 := hsc.c1
  have hgl := hsc.lt
  obtain ⟨gl, FL, hFL, c0, hlog, put⟩ := HD2.out.logZ
  have HLG := Lib.hid hlog
  obtain ⟨_, _, _, tt, hin⟩ := HO.out.of_writer HWN.out
  have hsl := hin.seen
  have hs1 : m.sc.seen = (m.seen : Int) := rfl
  rw [hs1] at s1
  clear hsc hlog put hFL hin hs1 tt b1 b2 b3 b4
  go_upto_region 35 with fail
  have C0 := later_cell c0
  have S1 := later_cell s1
  clear c0 s1 b0
  have hL : ∀ q : Lt w2, Later w2 q.v := fun q => q.h
  refine wp_region_mixh [] [10] [0, 1, 2, 3, 4, 5, 6, 7, 8, 9, 10] (by kernel_rfl) (by kernel_rfl) ?_
  iterate 9 (refine wpMixH_step rfl (fun K hK => ?_); go_simp; refine hK _ _ ?_; clear hK K)
  refine wpMixH_step rfl (fun K hK => ?_)
  go_simp
  refine ⟨_, fun p => quietM_same p (BLeastFor_c (HLG.out.later (hL p)) HO.out.lm m.seen hsl), hK _ _ ?_⟩
  clear hK K
  refine wpMixH_step rfl (fun K hK => ?_)
  go_simp
  intro p
  refine (TSClear_c (HD2.out.later (hL p)) HO.out hj HWN.out (leastFor d.lm m.seen)).mono ?_
  rintro e w3 ⟨⟨v, rfl⟩, h3⟩
  refine ⟨_, rfl, hK _ _ ?_⟩
  clear hK K
  have HP3 := Lib.hid (show TPost w base F g (d.setW j (some (m.clearF (leastFor d.lm m.seen)))) w3 from TPost.after (HB2.out.trans ((hL p).mono HB2.out.size)) h3.post)
  clear h3 p hL C0 S1 HLG
  refine wpMixH_nil ?_
  intro w4 hL4
  have HFIN := Lib.hid (show (0 : Int) = (d.step x).2 ∧ TPost w base F g (d.step x).1 w4 from by
    rw [HS.out]
    refine ⟨rfl, ?_⟩
    have e : d.set d.lm m.me (some (m.clearF (leastFor d.lm m.seen))) = d.setW j (some (m.clearF (leastFor d.lm m.seen))) := by
      rw [DkM.set_eq, HME.out, Int.toNat_natCast]; rfl
    show TPost w base F g (d.set d.lm m.me (some (m.clearF (leastFor d.lm m.seen)))) w4
    rw [e]
    exact HP3.out.later hL4)
  clear hL4 HP3 HS
  go_wp2
  go_ret
  exact ⟨by rw [← HFIN.out.1]; rfl, HFIN.out.2⟩

set_option maxRecDepth 100000 in
set_option maxHeartbeats 1000000 in
theorem TDo_send (h : TnAt w base F g gw d) (ho : d.Ok) (x : DStep) (hk : x.Kind = 4) {m : WM} (hw : d.writer x.W = some m) (hs : d.Sm 1000) :
    Calls Tryz.prog 9 #[.pointer (some ⟨g, 0, none⟩), .agg #[.int .i64 x.Kind, .int .i64 x.W, .int .i64 x.At, .int .i64 x.Many, .string x.Text]] w (TDoPost w base F g d x) := by
  have HS := Lib.hid (show d.step x = d.send m from by
    unfold DkM.step
    rw [if_neg (by omega), if_neg (by omega), hw]
    simp only
    rw [if_neg (by omega), if_neg (by omega), if_pos hk])
  have HSM := Lib.hid hs
  clear hs
  have hb0 := (Below.refl w.heap.size w).alloc (Nat.le_refl _) (.cells #[.int .i64 x.Kind, .int .i64 x.W, .int .i64 x.At, .int .i64 x.Many, .string x.Text] 31)
  have HB0 := Lib.hid hb0
  have HD0 := Lib.hid (h.later hb0)
  have HX0 := Lib.hid (StA.new w x)
  have HFX := Lib.hid (show ∀ k, F k → k < w.heap.size from fun k hk => (h.foot k hk).2)
  have HO := Lib.hid ho
  have HK := Lib.hid hk
  clear hb0 h ho hk
  go_enter Tryz.func9, Tryz.ntmps9
  go_upto_region 1 with fail
  generalize hw0 : w.alloc _ = w0
  have hw0' : w.alloc (.cells #[.int .i64 x.Kind, .int .i64 x.W, .int .i64 x.At, .int .i64 x.Many, .string x.Text] 31) = w0 := hw0
  rw [hw0'] at HB0 HD0 HX0
  clear hw0 hw0'
  obtain ⟨X, hX⟩ : ∃ X, X = w.heap.size := ⟨_, rfl⟩
  rw [← hX] at HX0 HFX ⊢
  have HXE := Lib.hid hX
  clear hX
  obtain ⟨_, b0, b1, b2, b3, b4⟩ := HX0.out
  have hk := HK.out
  rw [hk] at b0
  clear hk
  obtain ⟨hiw, hme, hW0, _⟩ := HO.out.of_writer hw
  obtain ⟨j, hj, hxj⟩ := writer_nat hiw
  have hij : isWriter (j : Int) = true := isWriter_nat hj
  have HME := Lib.hid (show m.me = (j : Int) from by rw [hme, hxj])
  have HWN := Lib.hid (show d.writer (j : Int) = some m from by rw [← hxj]; exact hw)
  have HWJ := Lib.hid (show d.W j = some m from by rw [hxj] at hW0; simpa using hW0)
  have HXJ := Lib.hid hxj
  rw [hxj] at b1
  obtain ⟨_, _, _, rr⟩ := HD0.out.rows
  have c1 := (rr.wr j hj m HWJ.out).1
  have hj0 : (0 : Int) ≤ (j : Int) := by omega
  have hj4 : (j : Int) < 4 := by omega
  clear rr hW0 hme hxj hiw hw
  go_upto_region 8 with fail
  have hL : ∀ q : Lt w0, Later w0 q.v := fun q => q.h
  have B1 := later_cell b1
  have C1 := later_cell c1
  clear b0 b1 b2 b3 b4 c1
  refine wp_region_x [] [] [0, 1, 2, 3, 4, 5, 6, 7, 8, 9, 10, 11, 12, 13] (by kernel_rfl) (by kernel_rfl) ?_
  iterate 2 (refine wpX_step rfl (fun K hK => ?_); go_simp; refine hK _ _ ?_; clear hK K)
  refine wpX_step rfl (fun K hK => ?_)
  go_simp
  refine ⟨_, fun p => quietM_same p (IsWriter_c (j : Int) p.v), hK _ _ ?_⟩
  clear hK K
  rw [hij]
  iterate 11 (refine wpX_step rfl (fun K hK => ?_); go_simp; refine hK _ _ ?_; clear hK K)
  refine wpX_nil ?_
  intro w1 hL1
  have HD1 := Lib.hid (HD0.out.later hL1)
  have HX1 := Lib.hid (HX0.out.later hL1)
  have HB1 := Lib.hid (HB0.out.trans (hL1.mono HB0.out.size))
  clear hL1 B1 C1 HD0 HX0 HB0
  obtain ⟨_, b0, b1, b2, b3, b4⟩ := HX1.out
  rw [HK.out] at b0
  rw [HXJ.out] at b1
  obtain ⟨_, _, _, rr⟩ := HD1.out.rows
  have c1 := (rr.wr j hj m HWJ.out).1
  clear rr
  go_upto_region 10 with fail
  go_quiet (fail)
  have hL2 : Later w1 (w1.drewN nq) := bl_drewN (Below.refl _ _) nq
  generalize w1.drewN nq = w2 at *
  have HD2 := Lib.hid (HD1.out.later hL2)
  have HX2 := Lib.hid (HX1.out.later hL2)
  have HB2 := Lib.hid (HB1.out.trans (hL2.mono HB1.out.size))
  clear hL2 HD1 HX1 HB1 b0 b1 b2 b3 b4 c1
  obtain ⟨hXl, b0, b1, b2, b3, b4⟩ := HX2.out
  rw [HK.out] at b0
  rw [HXJ.out] at b1
  go_wp2_with fail
  refine (TSSend_c HD2.out HO.out HSM.out hj HWN.out).mono ?_
  rintro e w3 ⟨rfl, h3⟩
  have HX3 := Lib.hid (show StA w3 X x from HX2.out.moves h3.choose_spec.2.1 (fun e => by have := HFX.out X e; omega))
  have H3 := Lib.hid h3
  clear h3 b0 b1 b2 b3 b4
  cases hun : m.unsent with
  | nil =>
    have hsb : sendBT m = false := by unfold sendBT; rw [hun]
    have hsm : sendMT m = m := by unfold sendMT; rw [hun]
    have hse : d.send m = (d, 5) := by unfold DkM.send; rw [hun]
    have HFIN := Lib.hid (show (5 : Int) = (d.step x).2 ∧ ∀ w4, Below w3.heap.size w3 w4 → TPost w base F g (d.step x).1 w4 from by
      have h := H3.out
      rw [hsm, DkM.setW_same HWJ.out] at h
      rw [HS.out, hse]
      exact ⟨rfl, fun w4 hb => TPost.after HB2.out (h.later hb).post⟩)
    rw [hsb]
    clear H3 HS hse hsm hsb hun HX3
    generalize sendRT m = u at *
    have HF4 := Lib.hid (HFIN.out.2 _ ((Below.refl w3.heap.size w3).alloc (Nat.le_refl _) (.cells #[.int .i64 u.Kind, .int .i64 u.By, .int .i64 u.No, .int .i64 u.Seen, .int .i64 u.At, .int .i64 u.Many, .string u.Text] 54)))
    go_wp2
    go_ret
    exact ⟨by rw [← HFIN.out.1]; rfl, HF4.out⟩
  | cons u us =>
    have hsb : sendBT m = true := by unfold sendBT; rw [hun]
    have hsr : sendRT m = u := by unfold sendRT; rw [hun]
    have hsm : sendMT m = m.sendF := by unfold sendMT; rw [hun]
    rw [hsb, hsr]
    rw [hsm] at H3
    obtain ⟨_, _, _, tt, hin⟩ := HO.out.of_writer HWN.out
    have hub := hin.us 0 (by rw [hun]; simp)
    have e0 : m.unsent[0]'(by rw [hun]; simp) = u := by simp only [hun]; rfl
    rw [e0] at hub
    have hlen := HO.out.lm.len
    have hcnt := cntBy_le m.me d.lm.L
    have hcn0 := cntBy_nonneg m.me d.lm.L
    have HUF := Lib.hid (show u.Text.size ≤ maxLen ∧ i64ok u.No from ⟨(fault_ok hub.f).1, by have := hub.no; unfold i64ok; omega⟩)
    have HSC := Lib.hid (hin.send_code HO.out.lm u us hun)
    have HSD := Lib.hid (show d.send m = if (d.lm.takeF u).2.2 = 0 then (d.set (d.lm.takeF u).1 (j : Int) (some m.sendF), 0) else (d.drop (j : Int), (d.lm.takeF u).2.2) from by
      unfold DkM.send; rw [hun, HME.out])
    clear hsb hsr hsm hun hub e0 hin hlen hcnt hcn0 tt
    go_upto_region 22 with fail
    generalize hw4 : w3.alloc _ = w4
    have hw4' : w3.alloc (.cells #[.int .i64 u.Kind, .int .i64 u.By, .int .i64 u.No, .int .i64 u.Seen, .int .i64 u.At, .int .i64 u.Many, .string u.Text] 54) = w4 := hw4
    have hb4 : Below w3.heap.size w3 w4 := by rw [← hw4']; exact (Below.refl w3.heap.size w3).alloc (Nat.le_refl _) _
    have HY4 := Lib.hid (show DdAt w4 w3.heap.size u from by rw [← hw4']; exact DdAt.new w3 u)
    clear hw4 hw4'
    obtain ⟨Y, hY⟩ : ∃ Y, Y = w3.heap.size := ⟨_, rfl⟩
    rw [← hY] at HY4 ⊢
    obtain ⟨F3, h3, m3, g3⟩ := H3.out
    have HD4 := Lib.hid (h3.later hb4)
    have HX4 := Lib.hid (HX3.out.later hb4)
    have HM3 := Lib.hid (m3.trans (Moves.of_below (F := F) hb4) (fun _ _ k => k))
    have HG3 := Lib.hid g3
    have HF3 := Lib.hid (show ¬ F3 X from fun e => by
      rcases g3 X e with h | h
      · have := HFX.out X h; omega
      · have := hXl; omega)
    clear hY hb4 h3 m3 g3 H3 HX3
    obtain ⟨gl, FL, hFL, c0, hlog, put⟩ := HD4.out.logZ
    have HLG := Lib.hid (show BookAt w4 base FL gl d.lm from hlog)
    have HPut := Lib.hid put
    have HFL := Lib.hid hFL
    obtain ⟨_, d0, d1, d2, d3, d4, d5, d6⟩ := HY4.out
    have C0 := later_cell c0
    have D0 := later_cell d0
    have D1 := later_cell d1
    have D2 := later_cell d2
    have D3 := later_cell d3
    have D4 := later_cell d4
    have D5 := later_cell d5
    have D6 := later_cell d6
    clear c0 d0 d1 d2 d3 d4 d5 d6 hlog put hFL HY4
    have hL : ∀ q : Lt w4, Later w4 q.v := fun q => q.h
    refine wp_region_mixh [] [5] [0, 1, 2, 3, 4, 5, 6, 7, 8, 9, 10] (by kernel_rfl) (by kernel_rfl) ?_
    iterate 5 (refine wpMixH_step rfl (fun K hK => ?_); go_simp; refine hK _ _ ?_; clear hK K)
    refine wpMixH_step rfl (fun K hK => ?_)
    go_simp
    intro p
    refine (BTake_c (HLG.out.later (hL p)) HO.out.lm u HUF.out.1 HUF.out.2).mono ?_
    rintro e w5 ⟨rfl, F', hL5, hM5, hG5⟩
    refine ⟨_, rfl, hK _ _ ?_⟩
    clear hK K
    have hs := (hL p).size
    have hml : Moves FL w4 w5 := (Moves.of_below (F := FL) (hL p)).trans hM5 (fun _ _ k => k)
    have hgl : Grows FL w4 F' := fun k hk => by
      rcases hG5 k hk with h1 | h1
      · exact .inl h1
      · exact .inr (Nat.le_trans hs h1)
    obtain ⟨q1, q2, q3⟩ := HPut.out w5 F' (d.lm.takeF u).1 hml hL5 hgl
    have HX5 := Lib.hid (HX4.out.moves hml (fun e => HF3.out (HFL.out X e).1))
    have HT5 := Lib.hid (show TnS w2 base F g gw ((d.setW j (some m.sendF)).setL (d.lm.takeF u).1) w5 from ⟨_, q1, HM3.out.transG HG3.out q2, HG3.out.trans HM3.out.size q3⟩)
    clear q1 q2 q3 hL5 hM5 hG5 hml hgl HPut HLG HX4 HD4 HM3 HG3 HF3 HFL hs p hL C0 D0 D1 D2 D3 D4 D5 D6
    iterate 5 (refine wpMixH_step rfl (fun K hK => ?_); go_simp; refine hK _ _ ?_; clear hK K)
    refine wpMixH_nil ?_
    intro w6 hL6
    have HT6 := Lib.hid (HT5.out.later hL6)
    have HX6 := Lib.hid (HX5.out.later hL6)
    clear hL6 HT5 HX5
    by_cases h0 : (d.lm.takeF u).2.2 = 0
    · have HFIN := Lib.hid (show (0 : Int) = (d.step x).2 ∧ TPost w base F g (d.step x).1 w6 from by
        rw [HS.out, HSD.out, if_pos h0]
        refine ⟨rfl, TPost.after HB2.out (HT6.out.congr ?_).post⟩
        rw [DkM.set_eq]; simp only [Int.toNat_natCast]; rfl)
      rw [h0]
      clear HSC HSD h0 HT6 HX6 HS
      generalize (d.lm.takeF u).2.1 = nn
      go_wp2
      go_ret
      exact ⟨by rw [← HFIN.out.1]; rfl, HFIN.out.2⟩
    · have h9 : (d.lm.takeF u).2.2 = 9 := by
        rcases HSC.out with h | h
        · exact absurd h h0
        · exact h
      have HTE := Lib.hid (LogM.take_code h0)
      have HSD2 := Lib.hid (show d.send m = (d.drop (j : Int), 9) from by rw [HSD.out, if_neg h0, h9])
      rw [h9]
      clear HSC HSD h0 h9
      generalize (d.lm.takeF u).2.1 = nn
      obtain ⟨_, _, b1, _, _, _⟩ := HX6.out
      rw [HXJ.out] at b1
      obtain ⟨F6, h6, m6, g6⟩ := HT6.out
      have HD6 := Lib.hid h6; have HM6 := Lib.hid m6; have HG6 := Lib.hid g6
      clear h6 m6 g6 HT6
      go_wp2_with fail
      refine (Tdrop_c HD6.out (j : Int) hij).mono ?_
      rintro e w7 ⟨⟨v, rfl⟩, F7, h7, m7, g7⟩
      have HFIN := Lib.hid (show (9 : Int) = (d.step x).2 ∧ TPost w base F g (d.step x).1 w7 from by
        rw [HS.out, HSD2.out]
        refine ⟨rfl, TPost.after HB2.out ⟨F7, gw, h7.congr ?_, HM6.out.transG HG6.out m7, HG6.out.trans HM6.out.size g7⟩⟩
        simp only [DkM.drop, DkM.set_eq, Int.toNat_natCast]
        show ((((d.setW j (some m.sendF)).setL (d.lm.takeF u).1).setL ((d.lm.takeF u).1.leaveF (j : Int)).1).setW j none) = _
        rw [HTE.out]
        exact DkM.setW_setW (d.setL (d.lm.leaveF (j : Int)).1) j _ _)
      clear h7 m7 g7 HD6 HM6 HG6 HX6 b1 HS
      go_wp2
      go_ret
      exact ⟨by rw [← HFIN.out.1]; rfl, HFIN.out.2⟩

set_option maxRecDepth 100000 in
set_option maxHeartbeats 1000000 in
theorem TDo_hear (h : TnAt w base F g gw d) (ho : d.Ok) (x : DStep) (hk : x.Kind = 5) {m : WM} (hw : d.writer x.W = some m) (hs : d.Sm 1000) :
    Calls Tryz.prog 9 #[.pointer (some ⟨g, 0, none⟩), .agg #[.int .i64 x.Kind, .int .i64 x.W, .int .i64 x.At, .int .i64 x.Many, .string x.Text]] w (TDoPost w base F g d x) := by
  have HS := Lib.hid (show d.step x = d.hear m from by
    unfold DkM.step
    rw [if_neg (by omega), if_neg (by omega), hw]
    simp only
    rw [if_neg (by omega), if_neg (by omega), if_neg (by omega), if_pos hk])
  have HSM := Lib.hid hs
  clear hs
  have hb0 := (Below.refl w.heap.size w).alloc (Nat.le_refl _) (.cells #[.int .i64 x.Kind, .int .i64 x.W, .int .i64 x.At, .int .i64 x.Many, .string x.Text] 31)
  have HB0 := Lib.hid hb0
  have HD0 := Lib.hid (h.later hb0)
  have HX0 := Lib.hid (StA.new w x)
  have HFX := Lib.hid (show ∀ k, F k → k < w.heap.size from fun k hk => (h.foot k hk).2)
  have HO := Lib.hid ho
  have HK := Lib.hid hk
  clear hb0 h ho hk
  go_enter Tryz.func9, Tryz.ntmps9
  go_upto_region 1 with fail
  generalize hw0 : w.alloc _ = w0
  have hw0' : w.alloc (.cells #[.int .i64 x.Kind, .int .i64 x.W, .int .i64 x.At, .int .i64 x.Many, .string x.Text] 31) = w0 := hw0
  rw [hw0'] at HB0 HD0 HX0
  clear hw0 hw0'
  obtain ⟨X, hX⟩ : ∃ X, X = w.heap.size := ⟨_, rfl⟩
  rw [← hX] at HX0 HFX ⊢
  have HXE := Lib.hid hX
  clear hX
  obtain ⟨_, b0, b1, b2, b3, b4⟩ := HX0.out
  have hk := HK.out
  rw [hk] at b0
  clear hk
  obtain ⟨hiw, hme, hW0, _⟩ := HO.out.of_writer hw
  obtain ⟨j, hj, hxj⟩ := writer_nat hiw
  have hij : isWriter (j : Int) = true := isWriter_nat hj
  have HME := Lib.hid (show m.me = (j : Int) from by rw [hme, hxj])
  have HWN := Lib.hid (show d.writer (j : Int) = some m from by rw [← hxj]; exact hw)
  have HWJ := Lib.hid (show d.W j = some m from by rw [hxj] at hW0; simpa using hW0)
  have HXJ := Lib.hid hxj
  rw [hxj] at b1
  obtain ⟨_, _, _, rr⟩ := HD0.out.rows
  have c1 := (rr.wr j hj m HWJ.out).1
  have hj0 : (0 : Int) ≤ (j : Int) := by omega
  have hj4 : (j : Int) < 4 := by omega
  clear rr hW0 hme hxj hiw hw
  go_upto_region 8 with fail
  have hL : ∀ q : Lt w0, Later w0 q.v := fun q => q.h
  have B1 := later_cell b1
  have C1 := later_cell c1
  clear b0 b1 b2 b3 b4 c1
  refine wp_region_x [] [] [0, 1, 2, 3, 4, 5, 6, 7, 8, 9, 10, 11, 12, 13] (by kernel_rfl) (by kernel_rfl) ?_
  iterate 2 (refine wpX_step rfl (fun K hK => ?_); go_simp; refine hK _ _ ?_; clear hK K)
  refine wpX_step rfl (fun K hK => ?_)
  go_simp
  refine ⟨_, fun p => quietM_same p (IsWriter_c (j : Int) p.v), hK _ _ ?_⟩
  clear hK K
  rw [hij]
  iterate 11 (refine wpX_step rfl (fun K hK => ?_); go_simp; refine hK _ _ ?_; clear hK K)
  refine wpX_nil ?_
  intro w1 hL1
  have HD1 := Lib.hid (HD0.out.later hL1)
  have HX1 := Lib.hid (HX0.out.later hL1)
  have HB1 := Lib.hid (HB0.out.trans (hL1.mono HB0.out.size))
  clear hL1 B1 C1 HD0 HX0 HB0
  obtain ⟨_, b0, b1, b2, b3, b4⟩ := HX1.out
  rw [HK.out] at b0
  rw [HXJ.out] at b1
  obtain ⟨_, _, _, rr⟩ := HD1.out.rows
  have c1 := (rr.wr j hj m HWJ.out).1
  clear rr
  go_upto_region 10 with fail
  go_quiet (fail)
  have hL2 : Later w1 (w1.drewN nq) := bl_drewN (Below.refl _ _) nq
  generalize w1.drewN nq = w2 at *
  have HD2 := Lib.hid (HD1.out.later hL2)
  have HX2 := Lib.hid (HX1.out.later hL2)
  have HB2 := Lib.hid (HB1.out.trans (hL2.mono HB1.out.size))
  clear hL2 HD1 HX1 HB1 b0 b1 b2 b3 b4 c1
  obtain ⟨hXl, b0, b1, b2, b3, b4⟩ := HX2.out
  rw [HK.out] at b0
  rw [HXJ.out] at b1
  obtain ⟨_, _, _, tt, hin⟩ := HO.out.of_writer HWN.out
  have hsl := hin.seen
  have hlen := HO.out.lm.len
  have HIN := Lib.hid hin
  clear hin
  by_cases hlt : m.seen < d.lm.L.length
  case neg =>
    have hge : decide ((d.lm.L.length : Int) ≤ (m.seen : Int)) = true := decide_eq_true (by omega)
    have hgeN : decide (d.lm.L.length ≤ m.seen) = true := decide_eq_true (by omega)
    have hgeP : d.lm.L.length ≤ m.seen := by omega
    have hse : d.hear m = (d, 5) := by unfold DkM.hear; rw [List.getElem?_eq_none (by omega)]
    obtain ⟨FSk, _, _, hsc, _⟩ := HD2.out.wrZ hj HWJ.out
    have s1 : w2.cell? ⟨gw j, 1, none⟩ = some (.int .i64 (m.seen : Int)) := hsc.c1
    obtain ⟨gl, FL, _, c0, hlog, _⟩ := HD2.out.logZ
    obtain ⟨aL, capL, r0, _, _⟩ := hlog.rows
    clear hsc hlog
    have HSE := Lib.hid hse
    clear hse hlt
    go_upto_region 27 with fail
    go_quiet (fail)
    have hL3 : Later w2 (w2.drewN nq) := bl_drewN (Below.refl _ _) nq
    generalize w2.drewN nq = w3 at *
    have HFIN := Lib.hid (show (5 : Int) = (d.step x).2 ∧ TPost w base F g (d.step x).1 w3 from by
      rw [HS.out, HSE.out]; exact ⟨rfl, TPost.after HB2.out (TnS.start HD2.out hL3).post⟩)
    clear hL3 HS
    go_wp2
    go_ret
    exact ⟨by rw [← HFIN.out.1]; rfl, HFIN.out.2⟩
  have hge : decide ((d.lm.L.length : Int) ≤ (m.seen : Int)) = false := decide_eq_false (by omega)
  have hgeN : decide (d.lm.L.length ≤ m.seen) = false := decide_eq_false (by omega)
  obtain ⟨FSk, _, _, hsc, _⟩ := HD2.out.wrZ hj HWJ.out
  have s1 : w2.cell? ⟨gw j, 1, none⟩ = some (.int .i64 (m.seen : Int)) := hsc.c1
  obtain ⟨gl, FL, _, c0, hlog, _⟩ := HD2.out.logZ
  obtain ⟨aL, capL, r0, _, _⟩ := hlog.rows
  clear hsc hlog
  go_upto_region 27 with fail
  go_quiet (fail)
  have hL3 : Later w2 (w2.drewN nq) := bl_drewN (Below.refl _ _) nq
  clear s1 c0 r0
  generalize w2.drewN nq = w3 at *
  have HD3 := Lib.hid (HD2.out.later hL3)
  have HX3 := Lib.hid (HX2.out.later hL3)
  have HB3 := Lib.hid (HB2.out.trans (hL3.mono HB2.out.size))
  clear hL3 HD2 HX2 HB2 b0 b1 b2 b3 b4
  obtain ⟨u, hu⟩ : ∃ u, u = d.lm.L[m.seen]'hlt := ⟨_, rfl⟩
  have HU := Lib.hid hu
  have HHD := Lib.hid (show d.hear m = if u.By ≠ m.me ∧ mayDo m.chars u ≠ 0 then (d.drop m.me, mayDo m.chars u) else (d.set (d.lm.saysF m.me (m.hear u).least).1 m.me (some (m.hear u)), 0) from by
    unfold DkM.hear; rw [List.getElem?_eq_getElem hlt, hu])
  have HUN := Lib.hid (show ¬ (u.By ≠ m.me ∧ mayDo m.chars u ≠ 0) → ∃ t, WIn d.lm (m.hear u) t from fun hc => by
    by_cases hb : u.By = m.me
    · obtain ⟨o, os, hop, hod, _⟩ := HIN.out.own_head hlt (by rw [← hu]; exact hb)
      have h1 := (HIN.out.hearI HO.out.lm hlt (by rw [← hu]; exact hb) o os hop).1
      rw [← hu] at h1
      exact ⟨_, by unfold WM.hear; rw [if_pos hb]; exact h1⟩
    · have h0 : mayDo m.chars u = 0 := Classical.byContradiction fun h => hc ⟨hb, h⟩
      have h1 := (HIN.out.hearO HO.out.lm hlt (by rw [← hu]; exact hb) (by rw [← hu]; exact h0)).1
      rw [← hu] at h1
      exact ⟨_, by unfold WM.hear; rw [if_neg hb]; exact h1⟩)
  have HLT := Lib.hid hlt
  obtain ⟨FSk, _, _, hsc, _⟩ := HD3.out.wrZ hj HWJ.out
  have s1 : w3.cell? ⟨gw j, 1, none⟩ = some (.int .i64 (m.seen : Int)) := hsc.c1
  obtain ⟨gl, FL, _, c0, hlog, _⟩ := HD3.out.logZ
  obtain ⟨aL, capL, r0, r2, _⟩ := hlog.rows
  obtain ⟨bb, off, rfl, q0, q1, q2, q3, q4, q5, q6⟩ := r2.slDd.nth hlt
  rw [← hu] at q0 q1 q2 q3 q4 q5 q6
  have hlt' : (m.seen : Int) < (d.lm.L.length : Int) := by omega
  have hsn0 : (0 : Int) ≤ (m.seen : Int) := by omega
  clear hsc hlog r2 hu
  go_upto_region 29 with fail
  have S1 := later_cell s1
  have C0 := later_cell c0
  have R0 := later_cell r0
  have Q0 := later_cell q0
  have Q1 := later_cell q1
  have Q2 := later_cell q2
  have Q3 := later_cell q3
  have Q4 := later_cell q4
  have Q5 := later_cell q5
  have Q6 := later_cell q6
  clear s1 c0 r0 q0 q1 q2 q3 q4 q5 q6
  have hL : ∀ q : Lt w3, Later w3 q.v := fun q => q.h
  refine wp_region_x [] [14] [0, 1, 2, 3, 4, 5, 6, 7, 8, 9, 10, 11, 12, 13, 14, 15] (by kernel_rfl) (by kernel_rfl) ?_
  iterate 14 (refine wpX_step rfl (fun K hK => ?_); go_simp; refine hK _ _ ?_; clear hK K)
  refine wpX_step rfl (fun K hK => ?_)
  go_simp
  intro p
  refine (TSHear_c (HD3.out.later (hL p)) HO.out HSM.out hj HWN.out HLT.out u HU.out).mono ?_
  rintro e w4 ⟨rfl, h4⟩
  refine ⟨_, rfl, hK _ _ ?_⟩
  clear hK K
  have H4 := Lib.hid (TnS.after (hL p) h4)
  clear h4 p hL S1 C0 R0 Q0 Q1 Q2 Q3 Q4 Q5 Q6
  iterate 1 (refine wpX_step rfl (fun K hK => ?_); go_simp; refine hK _ _ ?_; clear hK K)
  refine wpX_nil ?_
  intro w5 hL5
  have H5 := Lib.hid (H4.out.later hL5)
  have HX5 := Lib.hid (show StA w5 X x from HX3.out.moves H5.out.choose_spec.2.1 (fun e => by have := HFX.out X e; omega))
  clear hL5 H4 HX3
  obtain ⟨_, b0, b1, b2, b3, b4⟩ := HX5.out
  rw [HXJ.out] at b1
  by_cases hc : u.By ≠ m.me ∧ mayDo m.chars u ≠ 0
  · have hcc : hearCT m u = mayDo m.chars u := by unfold hearCT; rw [if_neg hc.1]
    have hmm : hearMT m u = m := by unfold hearMT; rw [if_pos hc]
    rw [hcc]
    rw [hmm, DkM.setW_same HWJ.out] at H5
    have HHE := Lib.hid (show d.hear m = (d.drop m.me, mayDo m.chars u) from by rw [HHD.out, if_pos hc])
    have hcN : decide (mayDo m.chars u = 0) = false := decide_eq_false hc.2
    have hcE : (mayDo m.chars u != 0) = true := by simpa using hc.2
    clear hcc hmm hc HHD HUN
    generalize mayDo m.chars u = code at *
    obtain ⟨F5, h5, m5, g5⟩ := H5.out
    have HD5 := Lib.hid h5
    clear h5
    go_wp2_with fail
    refine (Tdrop_c HD5.out (j : Int) hij).mono ?_
    rintro e w6 ⟨⟨v, rfl⟩, h6⟩
    have HFIN := Lib.hid (show code = (d.step x).2 ∧ TPost w base F g (d.step x).1 w6 from by
      obtain ⟨F6, k1, k2, k3⟩ := h6
      have k4 : TnS w3 base F g gw (d.drop (j : Int)) w6 := ⟨F6, k1, m5.transG g5 k2, g5.trans m5.size k3⟩
      rw [HS.out, HHE.out, HME.out]
      exact ⟨rfl, TPost.after HB3.out k4.post⟩)
    clear h6 m5 g5 HD5 H5 HHE HS b0 b1 b2 b3 b4
    go_wp2
    go_ret
    exact ⟨by rw [← HFIN.out.1]; rfl, HFIN.out.2⟩
  · have hcc : hearCT m u = 0 := by
      unfold hearCT
      by_cases hb : u.By = m.me
      · rw [if_pos hb]
      · rw [if_neg hb]; exact Classical.byContradiction fun h => hc ⟨hb, h⟩
    have hmm : hearMT m u = m.hear u := by unfold hearMT; rw [if_neg hc]
    rw [hcc]
    rw [hmm] at H5
    have HHE := Lib.hid (show d.hear m = (d.set (d.lm.saysF m.me (m.hear u).least).1 m.me (some (m.hear u)), 0) from by rw [HHD.out, if_neg hc])
    have HSY := Lib.hid (show (d.lm.saysF (j : Int) (m.hear u).least).2 = 0 from by
      obtain ⟨t', hin'⟩ := HUN.out hc
      have h1 := hin'.says.1
      rw [(WM.hear_seen m u).2, HME.out] at h1; exact h1)
    clear hcc hmm hc HHD HUN
    obtain ⟨F5, h5, m5, g5⟩ := H5.out
    have HD5 := Lib.hid h5
    have HW5 := Lib.hid (show (d.setW j (some (m.hear u))).W j = some (m.hear u) from by simp [DkM.setW])
    have HS5 := Lib.hid (show (d.setW j (some (m.hear u))).Sm 1000 from fun i n hn => by
      simp only [DkM.setW] at hn
      split at hn
      · cases hn; exact Nat.le_trans (WM.hear_opn m u) (HSM.out j m HWJ.out)
      · exact HSM.out i n hn)
    obtain ⟨gl, FL, _, c0, hlog, put⟩ := h5.logZ
    have HLG := Lib.hid (show BookAt w5 base FL gl d.lm from hlog)
    have HPut := Lib.hid put
    clear h5 hlog put
    go_upto_region 33 with fail
    have C0 := later_cell c0
    have B1 := later_cell b1
    have hL : ∀ q : Lt w5, Later w5 q.v := fun q => q.h
    clear c0 b0 b1 b2 b3 b4
    refine wp_region_x [] [8] [0, 1, 2, 3, 4, 5, 6, 7, 8, 9] (by kernel_rfl) (by kernel_rfl) ?_
    iterate 7 (refine wpX_step rfl (fun K hK => ?_); go_simp; refine hK _ _ ?_; clear hK K)
    refine wpX_step rfl (fun K hK => ?_)
    go_simp
    refine ⟨_, fun p => quietM p (TSLeast_c (HD5.out.later (hL p)) HS5.out hj HW5.out), hK _ _ ?_⟩
    clear hK K
    refine wpX_step rfl (fun K hK => ?_)
    go_simp
    intro p
    refine (BSays_c (HLG.out.later (hL p)) (j : Int) (m.hear u).least).mono ?_
    rintro e w6 ⟨rfl, hL6, hM6⟩
    refine ⟨_, rfl, hK _ _ ?_⟩
    clear hK K
    obtain ⟨k1, k2, k3⟩ := HPut.out w6 FL _ ((Moves.of_below (F := FL) (hL p)).trans hM6 (fun _ _ k => k)) hL6 (fun k hk => .inl hk)
    have H6 := Lib.hid (show TnS w3 base F g gw ((d.setW j (some (m.hear u))).setL (d.lm.saysF (j : Int) (m.hear u).least).1) w6 from ⟨_, k1, m5.transG g5 k2, g5.trans m5.size k3⟩)
    clear k1 k2 k3 hL6 hM6 p hL C0 B1 m5 g5 HPut HLG HD5 H5
    iterate 1 (refine wpX_step rfl (fun K hK => ?_); go_simp; refine hK _ _ ?_; clear hK K)
    refine wpX_nil ?_
    intro w7 hL7
    have HFIN := Lib.hid (show (d.lm.saysF (j : Int) (m.hear u).least).2 = (d.step x).2 ∧ TPost w base F g (d.step x).1 w7 from by
      rw [HS.out, HHE.out, HME.out]
      refine ⟨HSY.out, TPost.after HB3.out (((H6.out.later hL7).congr ?_).post)⟩
      rw [DkM.set_eq]; simp only [Int.toNat_natCast]; rfl)
    clear hL7 H6 HHE HSY HS
    generalize (d.lm.saysF (j : Int) (m.hear u).least).2 = code at *
    go_wp2
    go_ret
    exact ⟨by rw [← HFIN.out.1]; rfl, HFIN.out.2⟩

set_option maxRecDepth 100000 in
set_option maxHeartbeats 1000000 in
theorem TDo_join (h : TnAt w base F g gw d) (ho : d.Ok) (x : DStep) (hk : x.Kind = 1) :
    Calls Tryz.prog 9 #[.pointer (some ⟨g, 0, none⟩), .agg #[.int .i64 x.Kind, .int .i64 x.W, .int .i64 x.At, .int .i64 x.Many, .string x.Text]] w (TDoPost w base F g d x) := by
  have HS := Lib.hid (show d.step x = (if (d.lm.joinF x.W).2.2 = 0 then (d.set (d.lm.joinF x.W).1 x.W (some (WM.new d.lm x.W)), 0) else (d, (d.lm.joinF x.W).2.2)) from by
    unfold DkM.step
    rw [if_neg (by omega), if_pos hk])
  have hb0 := (Below.refl w.heap.size w).alloc (Nat.le_refl _) (.cells #[.int .i64 x.Kind, .int .i64 x.W, .int .i64 x.At, .int .i64 x.Many, .string x.Text] 31)
  have HB0 := Lib.hid hb0
  have HD0 := Lib.hid (h.later hb0)
  have HX0 := Lib.hid (StA.new w x)
  have HFX := Lib.hid (show ∀ k, F k → k < w.heap.size from fun k hk => (h.foot k hk).2)
  have HO := Lib.hid ho
  have HK := Lib.hid hk
  clear hb0 h ho hk
  go_enter Tryz.func9, Tryz.ntmps9
  go_upto_region 1 with fail
  generalize hw0 : w.alloc _ = w0
  have hw0' : w.alloc (.cells #[.int .i64 x.Kind, .int .i64 x.W, .int .i64 x.At, .int .i64 x.Many, .string x.Text] 31) = w0 := hw0
  rw [hw0'] at HB0 HD0 HX0
  clear hw0 hw0'
  obtain ⟨X, hX⟩ : ∃ X, X = w.heap.size := ⟨_, rfl⟩
  rw [← hX] at HX0 HFX ⊢
  have HXE := Lib.hid hX
  clear hX
  obtain ⟨_, b0, b1, b2, b3, b4⟩ := HX0.out
  have hk := HK.out
  rw [hk] at b0
  clear hk
  have HJ := Lib.hid (HO.out.join x.W)
  have HJO := Lib.hid (HO.out.lm.join x.W)
  obtain ⟨gl, FL, hFL, c0, hlog, put⟩ := HD0.out.logZ
  have HLG := Lib.hid (show BookAt w0 base FL gl d.lm from hlog)
  have HPut := Lib.hid put
  have HFL := Lib.hid hFL
  clear hlog put hFL
  go_upto_region 4 with fail
  have C0 := later_cell c0
  have B1 := later_cell b1
  have hL : ∀ q : Lt w0, Later w0 q.v := fun q => q.h
  clear c0 b0 b1 b2 b3 b4
  refine wp_region_x [] [6] [0, 1, 2, 3, 4, 5, 6, 7, 8, 9, 10, 11] (by kernel_rfl) (by kernel_rfl) ?_
  iterate 6 (refine wpX_step rfl (fun K hK => ?_); go_simp; refine hK _ _ ?_; clear hK K)
  refine wpX_step rfl (fun K hK => ?_)
  go_simp
  intro p
  refine (BJoin_c (HLG.out.later (hL p)) x.W HO.out.lm).mono ?_
  rintro e w1 ⟨rfl, hL1, hM1⟩
  refine ⟨_, rfl, hK _ _ ?_⟩
  clear hK K
  have hml : Moves FL w0 w1 := (Moves.of_below (F := FL) (hL p)).trans hM1 (fun _ _ k => k)
  obtain ⟨k1, k2, k3⟩ := HPut.out w1 FL _ hml hL1 (fun k hk => .inl hk)
  have H1 := Lib.hid (show TnS w0 base F g gw (d.setL (d.lm.joinF x.W).1) w1 from ⟨_, k1, k2, k3⟩)
  have HX1 := Lib.hid (show StA w1 X x from HX0.out.moves k2 (fun e => by have := HFX.out X e; omega))
  clear k1 k2 k3 hml hL1 hM1 p hL C0 B1 HPut HLG HFL
  iterate 5 (refine wpX_step rfl (fun K hK => ?_); go_simp; refine hK _ _ ?_; clear hK K)
  refine wpX_nil ?_
  intro w2 hL2
  have H2 := Lib.hid (H1.out.later hL2)
  have HX2 := Lib.hid (HX1.out.later hL2)
  clear hL2 H1 HX1 HX0
  by_cases h0 : (d.lm.joinF x.W).2.2 = 0
  case neg =>
    have HE := Lib.hid (LogM.join_code h0)
    have HFIN := Lib.hid (show (d.lm.joinF x.W).2.2 = (d.step x).2 ∧ TPost w base F g (d.step x).1 w2 from by
      rw [HS.out, if_neg h0]
      exact ⟨rfl, TPost.after HB0.out (H2.out.congr (by rw [HE.out]; rfl)).post⟩)
    have hneB : ((d.lm.joinF x.W).2.2 == 0) = false := by simpa using h0
    have hneD : decide ((d.lm.joinF x.W).2.2 = 0) = false := decide_eq_false h0
    clear h0 HE HJ HJO H2 HS HD0
    generalize (d.lm.joinF x.W).2.2 = code at *
    generalize (d.lm.joinF x.W).2.1 = nx at *
    go_wp2
    go_ret
    exact ⟨by rw [← HFIN.out.1]; rfl, HFIN.out.2⟩
  obtain ⟨hok, hx, hh⟩ := HJ.out h0
  have HST := Lib.hid (show d.step x = (d.set (d.lm.joinF x.W).1 x.W (some (WM.new d.lm x.W)), 0) from by rw [HS.out, if_pos h0])
  rw [h0]
  have HNX := Lib.hid (show (d.lm.joinF x.W).2.1 = (d.lm.seat x.W).last + 1 ∧ (d.lm.joinF x.W).1.L = d.lm.L from by
    unfold LogM.joinF; rw [if_pos hx, if_neg (by rw [hh]; simp)]; exact ⟨rfl, rfl⟩)
  have HCH := Lib.hid (show (d.lm.joinF x.W).1.chars = d.lm.chars from by unfold LogM.chars; rw [HNX.out.2])
  have HDO := Lib.hid hok
  clear h0 hh HJ HS hok
  obtain ⟨j, hj, hxj⟩ := writer_nat hx
  have HXJ := Lib.hid hxj
  have HCL := Lib.hid (show (d.lm.joinF x.W).1.chars.length ≤ 1000 from by
    rw [HCH.out]
    have := HO.out.lm.chars_len
    omega)
  obtain ⟨lm1, hlm⟩ : ∃ lm1, lm1 = (d.lm.joinF x.W).1 := ⟨_, rfl⟩
  rw [← hlm] at H2 HNX HCH HJO HCL
  have HLM := Lib.hid hlm
  rw [HNX.out.1]
  clear hlm
  have hLL : lm1.L = d.lm.L := HNX.out.2
  obtain ⟨nx, hnx⟩ : ∃ nx, nx = (d.lm.seat x.W).last + 1 := ⟨_, rfl⟩
  rw [← hnx]
  have HNE := Lib.hid hnx
  clear hnx hxj
  obtain ⟨F2, h2, m2, g2⟩ := H2.out
  have HD2 := Lib.hid h2
  have HM2 := Lib.hid m2
  have HG2 := Lib.hid g2
  clear h2 m2 g2 H2
  obtain ⟨gl, FL, _, c0, hlog, _⟩ := HD2.out.logZ
  obtain ⟨aL, capL, r0, _, _⟩ := hlog.rows
  have HLG := Lib.hid (show BookAt w2 base FL gl lm1 from hlog)
  obtain ⟨_, b0, b1, b2, b3, b4⟩ := HX2.out
  rw [HXJ.out] at b1
  have hlen : d.lm.L.length ≤ 120 := HO.out.lm.len
  have r0 : w2.cell? ⟨gl, 0, none⟩ = some (.slice aL d.lm.L.length capL) := by rw [← hLL]; exact r0
  clear hlog
  go_upto_region 6 with fail
  have C0 := later_cell c0
  have R0 := later_cell r0
  have B1 := later_cell b1
  have hL : ∀ q : Lt w2, Later w2 q.v := fun q => q.h
  have hj0 : (0 : Int) ≤ (j : Int) := by omega
  have hj4 : (j : Int) < 4 := by omega
  clear c0 r0 b0 b1 b2 b3 b4
  refine wp_region_x [18, 19] [23] [0, 1, 2, 3, 4, 5, 6, 7, 8, 9, 10, 11, 12, 13, 14, 15, 16, 17, 20, 21, 18, 19, 22, 23] (by kernel_rfl) (by kernel_rfl) ?_
  iterate 20 (refine wpX_step rfl (fun K hK => ?_); go_simp; refine hK _ _ ?_; clear hK K)
  refine wpX_step rfl (fun K hK => ?_)
  go_simp
  intro p
  refine (BChars_c (HLG.out.later (hL p)) HJO.out).mono ?_
  rintro e w3 ⟨aC, capC, rfl, hoC, hbC⟩
  refine ⟨_, rfl, hbC, hK _ _ ?_⟩
  clear hK K
  have hl3 : Later w2 w3 := (hL p).trans hbC
  have HSC := Lib.hid hoC.slCh
  clear hoC hbC p hL C0 R0 B1
  refine wpX_step rfl (fun K hK => ?_)
  go_simp
  intro p
  refine (NewScribe_c (j : Int) nx (d.lm.L.length : Int) aC capC lm1.chars p.v (HSC.out.below p.h) (by have := HCL.out; omega)).mono ?_
  rintro e w4 ⟨F3, g3, rfl, hW4, hb4⟩
  refine ⟨_, rfl, hb4, hK _ _ ?_⟩
  clear hK K
  have hl4 : Later w2 w4 := (hl3.trans p.h).trans hb4
  have HW4 := Lib.hid (hW4.mono (show w2.heap.size ≤ p.v.heap.size from (hl3.trans p.h).size))
  clear hW4 hb4 p hl3 HSC
  iterate 1 (refine wpX_step rfl (fun K hK => ?_); go_simp; refine hK _ _ ?_; clear hK K)
  refine wpX_step rfl (fun K hK => ?_)
  have HDp := Lib.hid (fun (p : Lt w4) => HD2.out.later (hl4.trans p.h))
  have HWp := Lib.hid (fun (p : Lt w4) => HW4.out.later p.h)
  go_simp
  intro p
  have hfz : p.v.frozen? ⟨g, 1 + j, none⟩ = false := (HDp.out p).fz (1 + j) (by omega)
  obtain ⟨_, _, _, rr⟩ := (HDp.out p).rows
  have hcell := rr.cellW j hj
  have HWq := Lib.hid (HWp.out p)
  have HLq := Lib.hid (hl4.trans p.h)
  clear rr HDp HWp hl4
  go_simp
  refine hK _ _ ?_
  clear hK K hfz hcell
  obtain ⟨q1, q2, q3⟩ := HD2.out.comeW hj HLq.out (m := WM.new d.lm x.W) (F2 := F3) (g2 := g3) (by
    have h4 := HWq.out
    have e : (⟨(j : Int), (d.lm.L.length : Int), nx, lm1.chars, [], 0⟩ : ScV) = (WM.new d.lm x.W).sc := by
      rw [HNE.out, HCH.out, HXJ.out]; rfl
    rw [← e]; exact h4)
  refine wpX_nil ?_
  intro w6 hL6
  have HFIN := Lib.hid (show (0 : Int) = (d.step x).2 ∧ TPost w base F g (d.step x).1 w6 from by
    rw [HST.out]
    refine ⟨rfl, TPost.after HB0.out (TPost.later ⟨_, _, q1.congr ?_, HM2.out.transG HG2.out q2, HG2.out.trans HM2.out.size q3⟩ hL6)⟩
    rw [DkM.set_eq, ← HLM.out, HXJ.out]; simp only [Int.toNat_natCast])
  clear q1 q2 q3 hL6 HST HM2 HG2 HD2 HX2
  go_wp2
  go_ret
  exact ⟨by rw [← HFIN.out.1]; rfl, HFIN.out.2⟩

theorem TDo_c (h : TnAt w base F g gw d) (ho : d.Ok) (hs : d.Sm 1000) (x : DStep) (hx : x.ok') :
    Calls Tryz.prog 9 #[.pointer (some ⟨g, 0, none⟩), .agg #[.int .i64 x.Kind, .int .i64 x.W, .int .i64 x.At, .int .i64 x.Many, .string x.Text]] w (TDoPost w base F g d x) := by
  by_cases h0 : x.Kind < 1 ∨ 7 < x.Kind
  · exact TDo_kind h ho x h0
  by_cases h1 : x.Kind = 1
  · exact TDo_join h ho x h1
  cases hw : d.writer x.W with
  | none => exact TDo_none h ho x (by omega) hw
  | some m =>
    by_cases h2 : x.Kind = 2
    · exact TDo_put h ho x h2 hw hs hx
    by_cases h3 : x.Kind = 3
    · exact TDo_take h ho x h3 hw hs hx
    by_cases h4 : x.Kind = 4
    · exact TDo_send h ho x h4 hw hs
    by_cases h5 : x.Kind = 5
    · exact TDo_hear h ho x h5 hw hs
    by_cases h6 : x.Kind = 6
    · exact TDo_clear h ho x h6 hw hs
    · exact TDo_leave h ho x (by omega) hw hs
end
end Go.Proofs.YtneoeokfffnonacGreat
