/- The walk of the law DeedBack. -/
import Derived.Test.YtneoeokfffnonadDoorDeedG
set_option linter.unusedVariables false
set_option linter.unusedSimpArgs false
namespace Go.Proofs.YtneoeokfffnonadDoor
open Go.RowKit Go

theorem lineF_zero {d : Dd} (h : (lineF d).2 = 0) : deedFault d = 0 ∧ lineF d = (lineB d, 0) := by
  unfold lineF at *
  split at h
  · rename_i e; exact ⟨e, if_pos e⟩
  · rename_i e; exact absurd h e
theorem ba_of_line (s : ByteArray) : (⟨(s.data.toList).toArray⟩ : ByteArray) = s := ba_ext (by simp)

set_option maxRecDepth 100000 in
set_option maxHeartbeats 1000000 in
theorem DeedBack_c (d e : Dd) (s : ByteArray) (w : World) (hd : d.ok) (he : e.ok) (hs : s.size ≤ maxLen) (hk : LibK w) :
    Calls Tryd.prog 4 #[.agg #[.int .i64 d.Kind, .int .i64 d.By, .int .i64 d.No, .int .i64 d.Seen, .int .i64 d.At, .int .i64 d.Many, .string d.Text], .agg #[.int .i64 e.Kind, .int .i64 e.By, .int .i64 e.No, .int .i64 e.Seen, .int .i64 e.At, .int .i64 e.Many, .string e.Text], .string s] w fun e w' => e = .returned (.bool true) ∧ Below w.heap.size w w' := by
  have HK := Lib.hid hk
  have HD := Lib.hid hd
  have HE := Lib.hid he
  clear hk hd he
  go_enter Tryd.func4, Tryd.ntmps4
  go_upto_region 1 with fail
  have hba : Below w.heap.size w (w.alloc (.cells #[.int .i64 d.Kind, .int .i64 d.By, .int .i64 d.No, .int .i64 d.Seen, .int .i64 d.At, .int .i64 d.Many, .string d.Text] 23)) := (Below.refl w.heap.size w).alloc (Nat.le_refl _) _
  have hsz : (w.alloc (.cells #[.int .i64 d.Kind, .int .i64 d.By, .int .i64 d.No, .int .i64 d.Seen, .int .i64 d.At, .int .i64 d.Many, .string d.Text] 23)).heap.size = w.heap.size + 1 := by simp
  have hbb : Below (w.alloc (.cells #[.int .i64 d.Kind, .int .i64 d.By, .int .i64 d.No, .int .i64 d.Seen, .int .i64 d.At, .int .i64 d.Many, .string d.Text] 23)).heap.size (w.alloc (.cells #[.int .i64 d.Kind, .int .i64 d.By, .int .i64 d.No, .int .i64 d.Seen, .int .i64 d.At, .int .i64 d.Many, .string d.Text] 23)) ((w.alloc (.cells #[.int .i64 d.Kind, .int .i64 d.By, .int .i64 d.No, .int .i64 d.Seen, .int .i64 d.At, .int .i64 d.Many, .string d.Text] 23)).alloc (.cells #[.int .i64 e.Kind, .int .i64 e.By, .int .i64 e.No, .int .i64 e.Seen, .int .i64 e.At, .int .i64 e.Many, .string e.Text] 23)) := (Below.refl _ _).alloc (Nat.le_refl _) _
  generalize hw0 : (w.alloc _).alloc _ = w0
  have hw0' : (w.alloc (.cells #[.int .i64 d.Kind, .int .i64 d.By, .int .i64 d.No, .int .i64 d.Seen, .int .i64 d.At, .int .i64 d.Many, .string d.Text] 23)).alloc (.cells #[.int .i64 e.Kind, .int .i64 e.By, .int .i64 e.No, .int .i64 e.Seen, .int .i64 e.At, .int .i64 e.Many, .string e.Text] 23) = w0 := hw0
  rw [hw0'] at hbb
  have HX0 := Lib.hid ((DdAt.new w d).later hbb)
  have HY0 := Lib.hid (show DdAt w0 (w.heap.size + 1) e from by rw [← hw0', ← hsz]; exact DdAt.new _ e)
  have HB0 := Lib.hid (hba.trans (hbb.mono hba.size))
  clear hw0 hw0' hba hbb hsz
  obtain ⟨X, hX⟩ : ∃ X, X = w.heap.size := ⟨_, rfl⟩
  rw [← hX] at HX0 HY0 ⊢
  obtain ⟨Y, hY⟩ : ∃ Y, Y = X + 1 := ⟨_, rfl⟩
  rw [← hY] at HY0 ⊢
  clear hX hY
  go_wp2_with fail
  refine (deedBegun_c w0 (HK.out.later HB0.out)).mono ?_
  rintro e1 w1 ⟨rfl, hb1⟩
  have HB1 := Lib.hid (HB0.out.trans (hb1.mono HB0.out.size))
  have HX1 := Lib.hid (HX0.out.later hb1)
  have HY1 := Lib.hid (HY0.out.later hb1)
  clear hb1 HB0 HX0 HY0
  obtain ⟨_, x0, x1, x2, x3, x4, x5, x6⟩ := HX1.out
  obtain ⟨_, y0, y1, y2, y3, y4, y5, y6⟩ := HY1.out
  obtain ⟨S, hS⟩ : ∃ S, IntKind.i64.wrap ((d.Text.size : Int) + (e.Text.size : Int)) = S := ⟨_, rfl⟩
  by_cases hbig : S ≤ 1000 ∧ s.size ≤ 1000
  case neg =>
    by_cases h1 : S ≤ 1000
    · have h2' : decide ((1000 : Int) < (s.size : Int)) = true := decide_eq_true (by omega)
      have h1' : decide ((1000 : Int) < S) = false := decide_eq_false (by omega)
      go_wp2
      go_ret
      exact ⟨rfl, HB1.out⟩
    · have h1' : decide ((1000 : Int) < S) = true := decide_eq_true (by omega)
      go_wp2
      go_ret
      exact ⟨rfl, HB1.out⟩
  obtain ⟨hb1, hb2⟩ := hbig
  have h1' : decide ((1000 : Int) < S) = false := decide_eq_false (by omega)
  have h2' : decide ((1000 : Int) < (s.size : Int)) = false := decide_eq_false (by omega)
  have HS := Lib.hid hb2
  clear hs
  go_wp2_with fail
  refine (Line_c d w1 HD.out (HK.out.later HB1.out)).mono ?_
  rintro e1 w2 ⟨rfl, hb2'⟩
  have HB2 := Lib.hid (HB1.out.trans (hb2'.mono HB1.out.size))
  have HX2 := Lib.hid (HX1.out.later hb2')
  have HY2 := Lib.hid (HY1.out.later hb2')
  clear hb2' HB1 HX1 HY1 x0 x1 x2 x3 x4 x5 x6 y0 y1 y2 y3 y4 y5 y6 h1' h2' hb1 hb2 hS
  obtain ⟨_, y0, y1, y2, y3, y4, y5, y6⟩ := HY2.out
  obtain ⟨T, hT⟩ : ∃ T : ByteArray, T = ⟨(lineF d).1.toArray⟩ := ⟨_, rfl⟩
  obtain ⟨c, hc⟩ : ∃ c, c = (lineF d).2 := ⟨_, rfl⟩
  obtain ⟨U, hU⟩ : ∃ U : ByteArray, U = ⟨(lineF e).1.toArray⟩ := ⟨_, rfl⟩
  obtain ⟨k, hk⟩ : ∃ k, k = (lineF e).2 := ⟨_, rfl⟩
  have HLE := Lib.hid (fun W (h : LibK W) => show Calls Tryd.prog 7 #[.agg #[.int .i64 e.Kind, .int .i64 e.By, .int .i64 e.No, .int .i64 e.Seen, .int .i64 e.At, .int .i64 e.Many, .string e.Text]] W fun e1 w' => e1 = .returned (.tuple #[.string U, .int .i64 k]) ∧ Below W.heap.size W w' from by
    rw [hU, hk]; exact Line_c e W HE.out h)
  rw [← hT, ← hc]
  have HT := Lib.hid hT
  have HC := Lib.hid hc
  have HU := Lib.hid hU
  have HKK := Lib.hid hk
  clear hT hc hU hk
  go_wp2_with fail
  refine (HLE.out w2 (HK.out.later HB2.out)).mono ?_
  rintro e1 w3 ⟨rfl, hb3⟩
  have HB3 := Lib.hid (HB2.out.trans (hb3.mono HB2.out.size))
  have HX3 := Lib.hid (HX2.out.later hb3)
  have HY3 := Lib.hid (HY2.out.later hb3)
  clear hb3 HB2 HX2 HY2 y0 y1 y2 y3 y4 y5 y6 HLE
  go_upto_if 43 with fail
  go_cut [8] (fun s8 wx => s8 = (.int .i64 c) ∧ Hid (Below w.heap.size w wx))
  case first =>
    by_cases hc0 : c = 0
    case neg =>
      have hcB : decide (c = 0) = false := decide_eq_false hc0
      have hcE : (c == 0) = false := by simpa using hc0
      go_wp2
      go_meet
      exact ⟨rfl, HB3⟩
    have hz := lineF_zero (HC.out.symm.trans hc0)
    have HFD := Lib.hid hz.1
    have HTB := Lib.hid (show T = ⟨(lineB d).toArray⟩ from by rw [HT.out, hz.2])
    clear hz
    subst hc0
    have HPA := Lib.hid (fun W (h : LibK W) => show Calls Tryd.prog 9 #[.string T] W fun e1 w' => e1 = .returned (.tuple #[.agg #[.int .i64 d.Kind, .int .i64 d.By, .int .i64 d.No, .int .i64 d.Seen, .int .i64 d.At, .int .i64 d.Many, .string d.Text], .int .i64 0]) ∧ Below W.heap.size W w' from by
      have hp := Parse_c T (by rw [HTB.out]; show (lineB d).toArray.size ≤ _; have := line_len HFD.out; simp only [List.size_toArray]; omega) W h
      rw [show parseF T.data.toList = (d, 0) from by rw [HTB.out]; exact parse_line HFD.out] at hp
      exact hp)
    go_wp2_with fail
    refine (HPA.out w3 (HK.out.later HB3.out)).mono ?_
    rintro e1 w4 ⟨rfl, hb4⟩
    have HB4 := Lib.hid (HB3.out.trans (hb4.mono HB3.out.size))
    have HX4 := Lib.hid (HX3.out.later hb4)
    have HY4 := Lib.hid (HY3.out.later hb4)
    clear hb4 HB3 HX3 HY3 HPA
    go_upto_region 9 with fail
    generalize hw5 : w4.alloc _ = w5
    have hw5' : w4.alloc (.cells #[.int .i64 d.Kind, .int .i64 d.By, .int .i64 d.No, .int .i64 d.Seen, .int .i64 d.At, .int .i64 d.Many, .string d.Text] 23) = w5 := hw5
    have hb5 : Below w4.heap.size w4 w5 := by rw [← hw5']; exact (Below.refl w4.heap.size w4).alloc (Nat.le_refl _) _
    have HZ5 := Lib.hid (show DdAt w5 w4.heap.size d from by rw [← hw5']; exact DdAt.new w4 d)
    have HB5 := Lib.hid (HB4.out.trans (hb5.mono HB4.out.size))
    have HX5 := Lib.hid (HX4.out.later hb5)
    have HY5 := Lib.hid (HY4.out.later hb5)
    clear hw5 hw5' hb5 HB4 HX4 HY4
    generalize w4.heap.size = Z at HZ5 ⊢
    obtain ⟨_, x0, x1, x2, x3, x4, x5, x6⟩ := HX5.out
    obtain ⟨_, y0, y1, y2, y3, y4, y5, y6⟩ := HY5.out
    obtain ⟨_, z0, z1, z2, z3, z4, z5, z6⟩ := HZ5.out
    have hn1 := fun W => neq_Deed d d W
    have hn2 := fun W => eql_Deed d e W
    have hdd : decide (d = d) = true := decide_eq_true rfl
    rw [hdd] at hn1
    by_cases hk0 : k = 0
    case neg =>
      have hkB : decide (k = 0) = false := decide_eq_false hk0
      have hkE : (k == 0) = false := by simpa using hk0
      go_wp2
      go_meet
      exact ⟨rfl, HB5⟩
    have hz := lineF_zero (HKK.out.symm.trans hk0)
    have HUB := Lib.hid (show U = ⟨(lineB e).toArray⟩ from by rw [HU.out, hz.2])
    have HINJ := Lib.hid (line_inj HFD.out hz.1)
    clear hz
    subst hk0
    by_cases hde : d = e
    · have hTU : T = U := by rw [HTB.out, HUB.out, hde]
      have hdeB : decide (d = e) = true := decide_eq_true hde
      rw [hdeB] at hn2
      clear hde hdeB
      subst hTU
      go_wp2
      go_meet
      exact ⟨rfl, HB5⟩
    · have hTU : T ≠ U := fun h => hde (HINJ.out.1 (by
        rw [HTB.out, HUB.out] at h
        have := congrArg (fun b : ByteArray => b.data.toList) h
        simpa using this))
      have hdeB : decide (d = e) = false := decide_eq_false hde
      rw [hdeB] at hn2
      have u1 : decide (T = U) = false := decide_eq_false hTU
      have u3 : decide (T.toList = U.toList) = false := decide_eq_false fun h => hTU (ba_ext (by rwa [ByteArray.toList_eq, ByteArray.toList_eq] at h))
      have u4 : (T.toList == U.toList) = false := by simpa using u3
      clear hde hdeB hTU
      go_wp2
      go_meet
      exact ⟨rfl, HB5⟩
  case rest =>
    obtain ⟨rfl, HBc⟩ := hcut
    clear HB3 HX3 HY3 HT HC HU HKK
    generalize wc = w6 at *
    obtain ⟨p, hp⟩ : ∃ p, p = parseF s.data.toList := ⟨_, rfl⟩
    have HPA := Lib.hid (fun W (h : LibK W) => show Calls Tryd.prog 9 #[.string s] W fun e w' => e = .returned (.tuple #[.agg #[.int .i64 (p.1).Kind, .int .i64 (p.1).By, .int .i64 (p.1).No, .int .i64 (p.1).Seen, .int .i64 (p.1).At, .int .i64 (p.1).Many, .string (p.1).Text], .int .i64 p.2]) ∧ Below W.heap.size W w' from by
      rw [hp]; exact Parse_c s (by have := HS.out; omega) W h)
    have HPP := Lib.hid hp
    clear hp
    obtain ⟨x, pc⟩ := p
    simp only at HPA
    go_wp2_with fail
    refine (HPA.out w6 (HK.out.later HBc.out)).mono ?_
    rintro e1 w7 ⟨rfl, hb7⟩
    have HB7 := Lib.hid (HBc.out.trans (hb7.mono HBc.out.size))
    clear hb7 HBc HPA
    go_upto_region 12 with fail
    generalize hw8 : w7.alloc _ = w8
    have hw8' : w7.alloc (.cells #[.int .i64 x.Kind, .int .i64 x.By, .int .i64 x.No, .int .i64 x.Seen, .int .i64 x.At, .int .i64 x.Many, .string x.Text] 23) = w8 := hw8
    have hb8 : Below w7.heap.size w7 w8 := by rw [← hw8']; exact (Below.refl w7.heap.size w7).alloc (Nat.le_refl _) _
    have HZ8 := Lib.hid (show DdAt w8 w7.heap.size x from by rw [← hw8']; exact DdAt.new w7 x)
    have HB8 := Lib.hid (HB7.out.trans (hb8.mono HB7.out.size))
    clear hw8 hw8' hb8 HB7
    generalize w7.heap.size = Z at HZ8 ⊢
    obtain ⟨_, z0, z1, z2, z3, z4, z5, z6⟩ := HZ8.out
    by_cases hpc : pc = 0
    case neg =>
      have hcB : decide (pc = 0) = false := decide_eq_false hpc
      have hcE : (pc != 0) = true := by simpa using hpc
      have hx0 : x = zDd := by
        have h := parse_ne s.data.toList (by rw [← HPP.out]; exact hpc)
        rw [← HPP.out] at h
        exact h
      have hn2 := fun W => eql_Deed zDd zDd W
      rw [show decide (zDd = zDd) = true from decide_eq_true rfl] at hn2
      subst hx0
      unfold zDd at hn2 z0 z1 z2 z3 z4 z5 z6
      simp only at hn2 z0 z1 z2 z3 z4 z5 z6
      go_wp2
      go_ret
      exact ⟨rfl, HB8.out⟩
    subst hpc
    have hlp := line_parse (s := s.data.toList) (by rw [← HPP.out])
    rw [← HPP.out] at hlp
    simp only at hlp
    have HLX := Lib.hid (fun W (h : LibK W) => show Calls Tryd.prog 7 #[.agg #[.int .i64 x.Kind, .int .i64 x.By, .int .i64 x.No, .int .i64 x.Seen, .int .i64 x.At, .int .i64 x.Many, .string x.Text]] W fun e1 w' => e1 = .returned (.tuple #[.string s, .int .i64 0]) ∧ Below W.heap.size W w' from by
      have h1 := Line_c x W (by
        obtain ⟨a1, a2, b1, b2, c1, c2, e1, e2, hk⟩ := fault_facts hlp.1
        have := text_len hlp.1
        have h3 : maxLen = 9223372036854775807 := rfl
        refine ⟨?_, ?_, ?_, ?_, ?_, ?_, ?_⟩ <;> (try unfold i64ok) <;> omega) h
      rw [show lineF x = (lineB x, 0) from by unfold lineF; rw [if_pos hlp.1], hlp.2] at h1
      simp only [ba_of_line] at h1
      exact h1)
    clear hlp
    go_wp2_with fail
    refine (HLX.out w8 (HK.out.later HB8.out)).mono ?_
    rintro e1 w9 ⟨rfl, hb9⟩
    have HB9 := Lib.hid (HB8.out.trans (hb9.mono HB8.out.size))
    clear hb9 HB8 HLX
    go_wp2
    go_ret
    exact ⟨rfl, HB9.out⟩
end Go.Proofs.YtneoeokfffnonadDoor
