/- What writers see, and the deeds of the log, asked of desks; two desks in one memory. -/
import Derived.Test.YtneoeokfffnonacGreatDkL
set_option linter.unusedVariables false
set_option linter.unusedSimpArgs false
namespace Go.Proofs.YtneoeokfffnonacGreat
open Go.RowKit
section
variable {w : World} {base : Nat} {F : Nat → Prop} {g : Nat} {gw : Nat → Nat} {d : DkM}
theorem deedsOf_c (h : DkAt w base F g gw d) (ho : d.Ok) : Calls Tryz.prog 40 #[.pointer (some ⟨g, 0, none⟩)] w fun e w' => ∃ a' cap', e = .returned (.slice a' d.lm.L.length cap') ∧ OwnRow w' w.heap.size 54 7 a' d.lm.L.length cap' (flatD d.lm.L) ∧ Below w.heap.size w w' := by
  obtain ⟨gl, FL, _, c0, hlog, _⟩ := h.logZ
  have hglt := h.lt
  have HLG := Lib.hid hlog
  have hlen := ho.lm.len
  clear hlog h ho
  go_enter Tryz.func40, Tryz.ntmps40
  go_wp2
  go_loopw [3, 4] (fun s3 s4 wr => ∃ (i : Nat) (a' : Option Addr) (cap' : Nat), i ≤ d.lm.L.length ∧ s4 = (.int .i64 ((i : Int) + 1)) ∧ s3 = .slice a' i cap' ∧ Hid (OwnRow wr w.heap.size 54 7 a' i cap' (flatD (d.lm.L.take i))) ∧ Below w.heap.size w wr) (fun _ s4 _ => d.lm.L.length + 1 - (intOf s4).toNat)
  case atStart => exact ⟨0, none, 0, Nat.zero_le _, rfl, rfl, Lib.hid (OwnRow.nil _ _ _ _ _), Below.refl _ _⟩
  case round =>
    obtain ⟨i, a', cap', hi, rfl, rfl, HO, hb⟩ := hrel
    have c0r := (hb.cell (p := ⟨g, 0, none⟩) hglt).trans c0
    have HL := Lib.hid (HLG.out.later hb)
    have hin : IntKind.i64.wrap ((i : Int) + 1 + 1) = (i : Int) + 1 + 1 := by rw [IntKind.wrap_i64]; omega
    by_cases hlt : i < d.lm.L.length
    · have hltB : decide ((i : Int) + 1 ≤ (d.lm.L.length : Int)) = true := decide_eq_true (by omega)
      have HLT := Lib.hid (show flatD (d.lm.L.take (i + 1)) = flatD (d.lm.L.take i) ++ Dd.cells d.lm.L[i] from by
        rw [List.take_succ_eq_append_getElem hlt, flatD_append]; simp [flatD])
      go_wp2_with fail
      refine (Len_c HL.out).mono ?_
      rintro e w3 ⟨rfl, rfl⟩
      go_wp2_with fail
      refine (Deed_g HL.out ((i : Int) + 1)).mono ?_
      rintro e w4 ⟨dd, b, rfl, hb4, h4⟩
      rcases h4 with ⟨_, _, h5⟩ | ⟨rfl, k, hk, e1, rfl⟩
      · exfalso; omega
      · obtain rfl : k = i := by omega
        generalize d.lm.L[k] = dd at *
        go_upto_region 6 with fail
        generalize hw8 : w4.alloc _ = w8
        have hw8' : w8 = w4.alloc (.cells #[.int .i64 dd.Kind, .int .i64 dd.By, .int .i64 dd.No, .int .i64 dd.Seen, .int .i64 dd.At, .int .i64 dd.Many, .string dd.Text] 54) := hw8.symm
        have hbd := (Below.refl w4.heap.size w4).alloc (Nat.le_refl _) (.cells #[.int .i64 dd.Kind, .int .i64 dd.By, .int .i64 dd.No, .int .i64 dd.Seen, .int .i64 dd.At, .int .i64 dd.Many, .string dd.Text] 54)
        have x0 : w8.cell? ⟨w4.heap.size, 0, none⟩ = some (.int .i64 dd.Kind) := by rw [hw8']; simp
        have x1 : w8.cell? ⟨w4.heap.size, 1, none⟩ = some (.int .i64 dd.By) := by rw [hw8']; simp
        have x2 : w8.cell? ⟨w4.heap.size, 2, none⟩ = some (.int .i64 dd.No) := by rw [hw8']; simp
        have x3 : w8.cell? ⟨w4.heap.size, 3, none⟩ = some (.int .i64 dd.Seen) := by rw [hw8']; simp
        have x4 : w8.cell? ⟨w4.heap.size, 4, none⟩ = some (.int .i64 dd.At) := by rw [hw8']; simp
        have x5 : w8.cell? ⟨w4.heap.size, 5, none⟩ = some (.int .i64 dd.Many) := by rw [hw8']; simp
        have x6 : w8.cell? ⟨w4.heap.size, 6, none⟩ = some (.string dd.Text) := by rw [hw8']; simp
        rw [← hw8'] at hbd
        have HO8 := Lib.hid (HO.out.below (hb4.trans (hbd.mono hb4.size)))
        have hx8 : Below w.heap.size w w8 := hb.trans ((hb4.trans (hbd.mono hb4.size)).mono hb.size)
        clear hw8 hw8' hbd HO hb hb4 c0r e1
        have hby : (k + 1) * 64 ≤ 140737488355328 := by omega
        have hsz := hx8.size
        go_wp2_with (at_builtin; refine wpList_append_new rfl (.tmp 25) (.tmp 27) 43 rfl w.heap.size 54 7 64 Tryz.underlying43 ti_Deed a' k cap' _ rfl HO8.out 1 1 (Dd.cells dd) rfl rfl (Dd.cells_one dd) hby hsz ?_)
        intro a3 cap3 w9 hown9 hb9 hz9 hg9
        have HO9 := Lib.hid (show OwnRow w9 w.heap.size 54 7 a3 (k + 1) cap3 (flatD (d.lm.L.take (k + 1))) by rw [HLT.out]; exact hown9)
        clear hown9 HO8 hg9 x0 x1 x2 x3 x4 x5 x6 hby
        go_wp2
        exact ⟨⟨k + 1, a3, cap3, by omega, by go_num, rfl, HO9, hx8.trans hb9⟩, by simp [intOf]; omega⟩
    · obtain rfl : i = d.lm.L.length := by omega
      have hltB : decide ((d.lm.L.length : Int) + 1 ≤ (d.lm.L.length : Int)) = false := decide_eq_false (by omega)
      have HO2 := Lib.hid (show OwnRow wr w.heap.size 54 7 a' d.lm.L.length cap' (flatD d.lm.L) from by have := HO.out; rw [List.take_length] at this; exact this)
      clear HO
      go_wp2_with fail
      refine (Len_c HL.out).mono ?_
      rintro e w3 ⟨rfl, rfl⟩
      go_wp2
      go_ret
      exact ⟨a', cap', rfl, HO2.out, hb⟩

theorem SameDeeds_t (a b : Option Addr) (capa capb : Nat) (l : List Dd) (w : World) (hs : SlDd w a capa l) (hs' : SlDd w b capb l) :
    Calls Tryz.prog 39 #[.slice a l.length capa, .slice b l.length capb] w fun e w' => e = .returned (.bool true) ∧ Below w.heap.size w w' := by
  have hm : l.length ≤ maxLen := Nat.le_trans hs.1 hs.2.1
  unfold maxLen at hm
  have HA := Lib.hid hs; have HB := Lib.hid hs'
  clear hs hs'
  go_enter Tryz.func39, Tryz.ntmps39
  go_wp2
  go_loopw [5] (fun s5 wr => ∃ k : Nat, k ≤ l.length ∧ s5 = (.int .i64 k) ∧ Below w.heap.size w wr) (fun s5 _ => l.length - (intOf s5).toNat)
  case atStart => exact ⟨0, Nat.zero_le _, rfl, Below.refl _ _⟩
  case round =>
    obtain ⟨k, hk, rfl, hb⟩ := hrel
    by_cases hlt : k < l.length
    · obtain ⟨b1, o1, rfl, p0, p1, p2, p3, p4, p5, p6⟩ := (HA.out.below hb).nth hlt
      obtain ⟨b2, o2, rfl, q0, q1, q2, q3, q4, q5, q6⟩ := (HB.out.below hb).nth hlt
      have hlt' : (k : Int) < l.length := by omega
      have hk0 : (0 : Int) ≤ (k : Int) := by omega
      have hgd := guard_DeedW
      have hneq := neq_Deed l[k] l[k]
      have hdT : decide (l[k] = l[k]) = true := decide_eq_true rfl
      rw [hdT] at hneq
      generalize l[k] = x at *
      go_upto_region 6 with fail
      go_quiet (fail)
      have hL1 : Later wr (wr.drewN nq) := bl_drewN (Below.refl _ _) nq
      generalize wr.drewN nq = w1 at *
      have hb1 : Below w.heap.size w w1 := hb.trans (hL1.mono hb.size)
      clear hL1 hb p0 p1 p2 p3 p4 p5 p6 q0 q1 q2 q3 q4 q5 q6 hneq hgd hdT
      go_wp2
      exact ⟨⟨k + 1, by omega, by go_num, hb1⟩, by simp [intOf]; omega⟩
    · obtain rfl : k = l.length := by omega
      have hltB : decide ((l.length : Int) < (l.length : Int)) = false := by simp
      go_wp2
      go_ret
      exact ⟨rfl, hb⟩
end
end Go.Proofs.YtneoeokfffnonacGreat
