/- A new room; the walk of writerBegun. -/
import Derived.Test.YtneoeokfffnonabRoomJ
set_option linter.unusedVariables false
set_option linter.unusedSimpArgs false
namespace Go.Proofs.Ytneoeokfffnonab
open Go.RowKit
theorem RmAt.newG {w : World} {base : Nat} {FL : Nat → Prop} {gl : Nat} (gw gs : Nat → Nat) (h : LogAt w base FL gl LogM.new) (vs : Array Value) (ty : TypeId) (h0 : vs[0]? = some (.pointer (some ⟨gl, 0, none⟩))) (hn : ∀ j, j < 8 → vs[1 + j]? = some (.pointer none)) (h9 : vs[9]? = some (.bool false)) :
    RmAt (w.alloc (.cells vs ty)) base (fun k => k = w.heap.size ∨ FL k) w.heap.size gw gs DkM.new DkM.new.scs false := by
  have hd := DkAt.newG gw h vs ty h0 (fun j hj => hn j (by omega))
  refine ⟨hd.lt, hd.fg, hd.foot, fun o ho => World.frozen?_alloc_new _ _ _ _, (World.cell?_alloc_new _ _ _ _).trans h9, _, fun _ _ => False, ⟨hd, ⟨fun j hj _ => (World.cell?_alloc_new _ _ _ _).trans ?_, fun j hj s es => (by cases es), fun j hj s es => (by cases es), fun i j hi hj hij s t es => (by cases es)⟩, fun _ k => k, fun j hj s es => (by cases es)⟩⟩
  have := hn (4 + j) (by omega)
  rw [show 5 + j = 1 + (4 + j) by omega]; exact this
theorem newRoom_c (w : World) : Calls Try.prog 44 #[] w fun e w' => ∃ F g gw gs, e = .returned (.pointer (some ⟨g, 0, none⟩)) ∧ RmAt w' w.heap.size F g gw gs DkM.new DkM.new.scs false ∧ Below w.heap.size w w' := by
  go_enter Try.func44, Try.ntmps44
  go_wp2_with fail
  refine (New_log w).mono ?_
  rintro e w1 ⟨FL, gl, rfl, hL, hb⟩
  have HD := Lib.hid (RmAt.newG (w := w1) (fun _ => 0) (fun _ => 0) hL #[.pointer (some ⟨gl, 0, none⟩), .pointer none, .pointer none, .pointer none, .pointer none, .pointer none, .pointer none, .pointer none, .pointer none, .bool false] 79 rfl (fun j hj => by
    obtain rfl | rfl | rfl | rfl | rfl | rfl | rfl | rfl : j = 0 ∨ j = 1 ∨ j = 2 ∨ j = 3 ∨ j = 4 ∨ j = 5 ∨ j = 6 ∨ j = 7 := by omega
    all_goals rfl) rfl)
  have HB := Lib.hid (hb.trans ((Below.refl w1.heap.size w1).alloc (Nat.le_refl _) (.cells #[.pointer (some ⟨gl, 0, none⟩), .pointer none, .pointer none, .pointer none, .pointer none, .pointer none, .pointer none, .pointer none, .pointer none, .bool false] 79) |>.mono hb.size))
  clear hL hb
  go_wp2
  go_ret
  exact ⟨_, _, _, _, rfl, HD.out, HB.out⟩
theorem WNew_nil (w : World) : Calls Try.prog 66 #[.int .i64 4, .int .i64 1, .int .i64 0, .slice none 0 0] w fun e w' => e = .returned (.pointer none) ∧ w' = w := by
  go_enter Try.func66, Try.ntmps66
  go_wp2_with fail
  refine (Writer_c 4 _).mono ?_
  rintro e w0 ⟨rfl, rfl⟩
  rw [show isWriter 4 = false from by decide]
  go_wp2
  go_ret
  exact ⟨rfl, rfl⟩

def vB0 : WrV := ⟨1, 0, 1, [], [], 0⟩
def dB1 : Dd := ⟨1, 1, 1, 0, 0, 0, ⟨#[97, 98]⟩⟩
def dB2 : Dd := ⟨1, 2, 1, 0, 0, 0, ⟨#[99]⟩⟩
def dB3 : Dd := ⟨2, 1, 2, 2, 1, 1, ⟨#[]⟩⟩
def vB1 : WrV := ⟨1, 0, 2, [⟨97, 1, 1, 0, 1073741824, 0, 0⟩, ⟨98, 1, 1, 1, 1073741824, 0, 0⟩], [⟨dB1, []⟩], 0⟩
theorem vB1_c : vB0.did ⟨1, 0, 0, 0, 0, 0, ⟨#[97, 98]⟩⟩ = vB1 := by rfl
theorem vB1_m : mayDo vB0.L (vB0.deed ⟨1, 0, 0, 0, 0, 0, ⟨#[97, 98]⟩⟩) = 0 := by decide +kernel
def lB2 : List Ch := (doF vB1.L dB2 (vB1.seen + 1)).1
def vB2 : WrV := { vB1 with L := lB2, seen := vB1.seen + 1 }
theorem vB2_m : (doF vB1.L dB2 (vB1.seen + 1)).2 = 0 := by decide +kernel
def vB3 : WrV := { vB2 with L := vB2.L.map (numC vB2.me dB1.No (vB2.seen + 1) fun k => decide (k ∈ ([] : List Ch).map key)), os := [], ns := vB2.ns - 1, seen := vB2.seen + 1 }
def vB4 : WrV := vB3.did ⟨2, 0, 0, 0, 1, 1, ⟨#[]⟩⟩
theorem vB4_m : mayDo vB3.L (vB3.deed ⟨2, 0, 0, 0, 1, 1, ⟨#[]⟩⟩) = 0 := by decide +kernel
theorem vB4_d : vB3.deed ⟨2, 0, 0, 0, 1, 1, ⟨#[]⟩⟩ = dB3 := by decide +kernel
def vB5 : WrV := { vB4 with ns := vB4.ns + 1 }
theorem vB5_t : viewN vB5.seen vB5.me vB5.L = [97, 99] := by decide +kernel
theorem vB4_os : vB4.os.map (·.d) = [dB3] := by decide +kernel
theorem vB4_ns : vB4.ns = 0 := by decide +kernel
theorem vB4_len : vB4.os.length = 1 := by decide +kernel
theorem vB5_least : vB5.least = 2 := by decide +kernel
theorem vB5_seen : vB5.seen = 2 := by decide +kernel
theorem os_getR (s : WrV) (h : s.ns < s.os.length) (d : Dd) (hm : s.os.map (·.d) = [d]) : (s.os[s.ns]'h).d = d := by
  have hl : s.os.length = 1 := by simpa using congrArg List.length hm
  have h0 : s.ns = 0 := by omega
  obtain ⟨o, ho⟩ := List.length_eq_one_iff.1 hl
  rw [ho] at hm
  have e : o.d = d := by simpa using hm
  have : s.os[s.ns]'h = o := by simp only [ho, h0]; rfl
  rw [this]; exact e
theorem goneB1 : ∀ c ∈ vB1.L, i64ok c.Gone := by
  intro c hc
  have h : ∀ c ∈ vB1.L, c.Gone = 0 := by decide +kernel
  rw [h c hc]; unfold i64ok; decide
theorem goneB2 : ∀ c ∈ vB2.L, i64ok c.Gone := by
  intro c hc
  have h : ∀ c ∈ vB2.L, c.Gone = 0 := by decide +kernel
  rw [h c hc]; unfold i64ok; decide
theorem goneB3 : ∀ c ∈ vB3.L, i64ok c.Gone := by
  intro c hc
  have h : ∀ c ∈ vB3.L, c.Gone = 0 := by decide +kernel
  rw [h c hc]; unfold i64ok; decide
set_option maxRecDepth 100000 in
set_option maxHeartbeats 2000000 in
theorem writerBegun_c (w : World) : Calls Try.prog 42 #[] w fun e w' => e = .returned (.bool true) ∧ Below w.heap.size w w' := by
  go_enter Try.func42, Try.ntmps42
  go_wp2_with fail
  refine (WNew_c 1 1 0 none 0 [] w (SlCh.nil w) (fun _ => rfl) (by decide) (by decide) ⟨by decide, by decide⟩ (by decide) (fun c hc => by cases hc)).mono ?_
  rintro e w1 ⟨F1, g, rfl, hW1, hb1⟩
  have HW1 := Lib.hid (show WrAt w1 w.heap.size F1 g vB0 from hW1)
  have HB1 := Lib.hid hb1
  clear hW1 hb1
  go_wp2_with fail
  refine (WNew_nil w1).mono ?_
  rintro e w2 ⟨rfl, rfl⟩
  go_wp2_with fail
  refine (WPut_c HW1.out (fun c hc => by cases hc) (by decide) (by decide) (by decide) 0 ⟨#[97, 98]⟩ (by decide) ⟨by decide, by decide⟩).mono ?_
  rintro e w3 hp
  rcases hp with ⟨h1, _, _, _⟩ | ⟨_, rfl, F3, h3, m3, g3⟩
  · exact absurd vB1_m h1
  rw [vB1_c] at h3
  have HW3 := Lib.hid h3
  have HB3 := Lib.hid (HB1.out.trans (HW1.out.below m3))
  rw [show vB0.deed ⟨1, 0, 0, 0, 0, 0, ⟨#[97, 98]⟩⟩ = dB1 from rfl]
  clear h3 m3 g3 HW1 HB1
  go_upto_region 5 with fail
  generalize hw4 : w3.alloc _ = w4
  have hw4' : w3.alloc (.cells #[.int .i64 dB1.Kind, .int .i64 dB1.By, .int .i64 dB1.No, .int .i64 dB1.Seen, .int .i64 dB1.At, .int .i64 dB1.Many, .string dB1.Text] 25) = w4 := hw4
  have hb4 : Below w3.heap.size w3 w4 := by rw [← hw4']; exact (Below.refl w3.heap.size w3).alloc (Nat.le_refl _) _
  have HY4 := Lib.hid (show DdAt w4 w3.heap.size dB1 from by rw [← hw4']; exact DdAt.new w3 dB1)
  clear hw4 hw4'
  obtain ⟨Y, hY⟩ : ∃ Y, Y = w3.heap.size := ⟨_, rfl⟩
  rw [← hY] at HY4 ⊢
  have HFY := Lib.hid (show ∀ k, F3 k → k < Y from fun k hk => by have := (HW3.out.foot k hk).2; omega)
  have HW4 := Lib.hid (HW3.out.later hb4)
  have HB4 := Lib.hid (HB3.out.trans (hb4.mono HB3.out.size))
  clear hb4 hY HW3 HB3
  go_wp2_with fail
  refine (WHear_c HW4.out goneB1 (by decide) (by decide) ⟨by decide, by decide⟩ dB2 (by decide) (by unfold i64ok; decide)).mono ?_
  rintro e w5 hp
  rcases hp with ⟨_, rfl, m5, hcs⟩ | ⟨hby, _⟩ | ⟨hby, _⟩
  rotate_left
  · exact absurd hby (by decide)
  · exact absurd hby (by decide)
  rcases hcs with ⟨h1, _⟩ | ⟨_, F5, h5, g5⟩
  · exact absurd vB2_m h1
  rw [vB2_m]
  have HW5 := Lib.hid (show WrAt w5 w.heap.size F5 g vB2 from h5)
  have HB5 := Lib.hid (HB4.out.trans (HW4.out.below m5))
  have HY5 := Lib.hid (HY4.out.of_block m5.size (m5.block Y HY4.out.lt fun e => by have := HFY.out Y e; omega))
  have HFY5 := Lib.hid (show ¬ F5 Y from fun e => by
    rcases g5 Y e with h | h
    · have := HFY.out Y h; omega
    · have := HY4.out.lt; omega)
  clear h5 m5 g5 HW4 HB4 HY4 HFY
  obtain ⟨_, d0, d1, d2, d3, d4, d5, d6⟩ := HY5.out
  go_wp2_with fail
  refine (WHear_c HW5.out goneB2 (by decide +kernel) (by decide +kernel) ⟨by decide +kernel, by decide +kernel⟩ dB1 (by decide) (by unfold i64ok; decide)).mono ?_
  rintro e w6 hp
  rcases hp with ⟨hne, _⟩ | ⟨_, hno, _⟩ | ⟨_, o, os, hop, hod, rfl, m6, h6⟩
  · exact absurd rfl hne
  · exact absurd rfl (hno ⟨dB1, []⟩ rfl)
  obtain ⟨rfl, rfl⟩ := List.cons.inj (show [(⟨dB1, []⟩ : OpenD)] = o :: os from hop)
  have HW6 := Lib.hid (show WrAt w6 w.heap.size F5 g vB3 from h6)
  have HB6 := Lib.hid (HB5.out.trans (HW5.out.below m6))
  clear h6 m6 hop hod HW5 HB5 HY5 HFY5 d0 d1 d2 d3 d4 d5 d6
  go_wp2_with fail
  refine (WTake_c HW6.out goneB3 (by decide +kernel) (by decide +kernel) (by decide +kernel) 1 1 (by unfold i64ok; decide) ⟨by decide +kernel, by decide +kernel⟩).mono ?_
  rintro e w7 hp
  rcases hp with ⟨h1, _, _, _⟩ | ⟨_, rfl, F7, h7, m7, g7⟩
  · exact absurd vB4_m h1
  rw [vB4_d]
  have HW7 := Lib.hid (show WrAt w7 w.heap.size F7 g vB4 from h7)
  have HB7 := Lib.hid (HB6.out.trans (HW6.out.below m7))
  clear h7 m7 g7 HW6 HB6
  go_upto_region 8 with fail
  generalize hw8 : w7.alloc _ = w8
  have hw8' : w7.alloc (.cells #[.int .i64 dB3.Kind, .int .i64 dB3.By, .int .i64 dB3.No, .int .i64 dB3.Seen, .int .i64 dB3.At, .int .i64 dB3.Many, .string dB3.Text] 25) = w8 := hw8
  have hb8 : Below w7.heap.size w7 w8 := by rw [← hw8']; exact (Below.refl w7.heap.size w7).alloc (Nat.le_refl _) _
  have HZ8 := Lib.hid (show DdAt w8 w7.heap.size dB3 from by rw [← hw8']; exact DdAt.new w7 dB3)
  clear hw8 hw8'
  obtain ⟨Z, hZ⟩ : ∃ Z, Z = w7.heap.size := ⟨_, rfl⟩
  rw [← hZ] at HZ8 ⊢
  have HFZ := Lib.hid (show ∀ k, F7 k → k < Z from fun k hk => by have := (HW7.out.foot k hk).2; omega)
  have HW8 := Lib.hid (HW7.out.later hb8)
  have HB8 := Lib.hid (HB7.out.trans (hb8.mono HB7.out.size))
  clear hb8 hZ HW7 HB7
  go_wp2_with fail
  refine (WSend_c HW8.out (by decide +kernel)).mono ?_
  rintro e w9 ⟨_, m9, hcase⟩
  rcases hcase with ⟨hle, _⟩ | ⟨hlt, rfl, h9⟩
  · exact absurd hle (by decide +kernel)
  rw [os_getR vB4 hlt dB3 vB4_os]
  have HW9 := Lib.hid (show WrAt w9 w.heap.size F7 g vB5 from h9)
  have HB9 := Lib.hid (HB8.out.trans (HW8.out.below m9))
  have HZ9 := Lib.hid (HZ8.out.of_block m9.size (m9.block Z HZ8.out.lt fun e => by have := HFZ.out Z e; omega))
  clear h9 m9 HW8 HB8 HZ8 HFZ hlt
  go_upto_region 9 with fail
  generalize hw10 : w9.alloc _ = w10
  have hw10' : w9.alloc (.cells #[.int .i64 dB3.Kind, .int .i64 dB3.By, .int .i64 dB3.No, .int .i64 dB3.Seen, .int .i64 dB3.At, .int .i64 dB3.Many, .string dB3.Text] 25) = w10 := hw10
  have hb10 : Below w9.heap.size w9 w10 := by rw [← hw10']; exact (Below.refl w9.heap.size w9).alloc (Nat.le_refl _) _
  have HU10 := Lib.hid (show DdAt w10 w9.heap.size dB3 from by rw [← hw10']; exact DdAt.new w9 dB3)
  clear hw10 hw10'
  obtain ⟨U, hU⟩ : ∃ U, U = w9.heap.size := ⟨_, rfl⟩
  rw [← hU] at HU10 ⊢
  have HZ10 := Lib.hid (HZ9.out.later hb10)
  have HW10 := Lib.hid (HW9.out.later hb10)
  have HB10 := Lib.hid (HB9.out.trans (hb10.mono HB9.out.size))
  clear hb10 hU HW9 HB9 HZ9
  obtain ⟨_, d0, d1, d2, d3, d4, d5, d6⟩ := HZ10.out
  obtain ⟨_, c0, c1, c2, c3, c4, c5, c6⟩ := HU10.out
  have hgd := guard_DeedR
  have heq := eql_DeedR dB3
  have h2a : (dB3.No == 2) = true := by decide
  have h2b : decide (dB3.No = 2) = true := by decide
  go_wp2_with fail
  refine (WText_c HW10.out (by decide +kernel)).mono ?_
  rintro e w11 ⟨rfl, hb11⟩
  rw [vB5_t, show strOfNums [97, 99] = ⟨#[97, 99]⟩ from rfl]
  have HW11 := Lib.hid (HW10.out.later hb11)
  have HB11 := Lib.hid (HB10.out.trans (hb11.mono HB10.out.size))
  clear hb11 HW10 HB10 d0 d1 d2 d3 d4 d5 d6 c0 c1 c2 c3 c4 c5 c6
  go_wp2_with fail
  refine (WSeen_c HW11.out).mono ?_
  rintro e w12 ⟨rfl, rfl⟩
  rw [vB5_seen]
  go_wp2_with fail
  refine (WLeast_c HW11.out (by decide +kernel)).mono ?_
  rintro e w13 ⟨rfl, hb13⟩
  rw [vB5_least]
  have HW13 := Lib.hid (HW11.out.later hb13)
  have HB13 := Lib.hid (HB11.out.trans (hb13.mono HB11.out.size))
  clear hb13 HW11 HB11
  go_wp2_with fail
  refine (WOpen_c HW13.out (by decide +kernel)).mono ?_
  rintro e w14 ⟨a14, cap14, rfl, _, hb14⟩
  rw [show vB5.os.length = 1 from vB4_len]
  have HB14 := Lib.hid (HB13.out.trans (hb14.mono HB13.out.size))
  clear hb14 HW13 HB13
  go_wp2
  go_ret
  exact ⟨rfl, HB14.out⟩
end Go.Proofs.Ytneoeokfffnonab
