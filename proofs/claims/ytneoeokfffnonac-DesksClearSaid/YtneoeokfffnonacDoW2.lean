/- The walk of layer 3's Do. -/
import Derived.Test.YtneoeokfffnonacTakenW
import Derived.Deep.RegionHeld3
set_option linter.unusedVariables false
set_option linter.unusedSimpArgs false
namespace Go.Proofs.Ytneoeokfffnonac
open Go.RowKit

theorem size_int : (Try.prog.info? 3).map (·.size) = some 1 := by kernel_rfl

theorem Clone_w (a : Option Addr) (cap : Nat) (l : List Ch) (w : World) (hs : SlCh w a cap l) (hsz : l.length * 56 ≤ 140737488355328) (hnil : a = none → cap = 0) (W : World) (hW : Below w.heap.size w W) :
    Calls Try.prog 74 #[.slice a l.length cap] W fun e w' => ∃ a' cap', e = .returned (.slice a' l.length cap') ∧
      OwnRow w' W.heap.size 86 7 a' l.length cap' (flat l) ∧ Below W.heap.size W w' := Clone_c a cap l W (hs.below hW) hsz hnil

/-- What Do does where the deed cannot be done. -/
theorem Do_no (a : Option Addr) (cap : Nat) (l : List Ch) (d : Dd) (number : Int) (w : World) (hs : SlCh w a cap l) (hsz : l.length * 56 ≤ 140737488355328) (ht : d.Text.size ≤ maxLen) (hm : i64ok d.Many) (h : mayDo l d ≠ 0 ∨ number < 1) :
    Calls Try.prog 37 #[.slice a l.length cap, .agg #[.int .i64 d.Kind, .int .i64 d.By, .int .i64 d.No, .int .i64 d.Seen, .int .i64 d.At, .int .i64 d.Many, .string d.Text], .int .i64 number] w fun e w' => e = .returned (.tuple #[.slice none 0 0, .int .i64 (doF l d number).2]) ∧ Below w.heap.size w w' := by
  have hb0 := (Below.refl w.heap.size w).alloc (Nat.le_refl _) (.cells #[.int .i64 d.Kind, .int .i64 d.By, .int .i64 d.No, .int .i64 d.Seen, .int .i64 d.At, .int .i64 d.Many, .string d.Text] 24)
  have hd0 := DdAt.new w d
  have hs0 := hs.below hb0
  have hsz2 : l.length ≤ 140737488355328 := by omega
  clear hs
  by_cases hmay : mayDo l d = 0
  · have hn : number < 1 := by rcases h with h | h; exact absurd hmay h; exact h
    have Hf := Lib.hid (show (doF l d number).2 = 1 by unfold doF; rw [if_pos hmay, if_pos hn])
    have HM := Lib.hid hmay
    clear hmay h
    go_enter Try.func37, Try.ntmps37
    go_upto_region 1 with fail
    generalize hw0 : w.alloc (.cells #[.int .i64 d.Kind, .int .i64 d.By, .int .i64 d.No, .int .i64 d.Seen, .int .i64 d.At, .int .i64 d.Many, .string d.Text] 24) = w0 at *
    clear hw0
    obtain ⟨dlt, d0, d1, d2, d3, d4, d5, d6⟩ := hd0
    go_wp2_with fail
    refine (May_c a cap l d _ hs0 hsz2 ht hm).mono ?_
    rintro e w1 ⟨rfl, hb1⟩
    rw [HM.out]
    have hx1 := hb0.trans (hb1.mono hb0.size)
    go_wp2
    go_ret2
    exact ⟨by rw [Hf.out]; rfl, hx1⟩
  · have Hf := Lib.hid (show (doF l d number).2 = mayDo l d by unfold doF; rw [if_neg hmay])
    have hne : (mayDo l d != 0) = true := by simpa using hmay
    clear hmay h
    go_enter Try.func37, Try.ntmps37
    go_upto_region 1 with fail
    generalize hw0 : w.alloc (.cells #[.int .i64 d.Kind, .int .i64 d.By, .int .i64 d.No, .int .i64 d.Seen, .int .i64 d.At, .int .i64 d.Many, .string d.Text] 24) = w0 at *
    clear hw0
    obtain ⟨dlt, d0, d1, d2, d3, d4, d5, d6⟩ := hd0
    go_wp2_with fail
    refine (May_c a cap l d _ hs0 hsz2 ht hm).mono ?_
    rintro e w1 ⟨rfl, hb1⟩
    have hx1 := hb0.trans (hb1.mono hb0.size)
    go_wp2
    go_ret2
    exact ⟨by rw [Hf.out]; rfl, hx1⟩

set_option maxHeartbeats 1000000 in
/-- A text comes in. -/
theorem Do_put (a : Option Addr) (cap : Nat) (l : List Ch) (d : Dd) (number : Int) (w : World) (hs : SlCh w a cap l) (hnil : a = none → cap = 0) (hmay : mayDo l d = 0) (hn : 1 ≤ number) (hk : d.Kind = 1) :
    Calls Try.prog 37 #[.slice a l.length cap, .agg #[.int .i64 d.Kind, .int .i64 d.By, .int .i64 d.No, .int .i64 d.Seen, .int .i64 d.At, .int .i64 d.Many, .string d.Text], .int .i64 number] w fun e w' => ∃ a' cap', e = .returned (.tuple #[.slice a' (doF l d number).1.length cap', .int .i64 (doF l d number).2]) ∧
      OwnRow w' w.heap.size 86 7 a' (doF l d number).1.length cap' (flat (doF l d number).1) ∧ Below w.heap.size w w' := by
  obtain ⟨hf, hcnt, hlen⟩ := mayDo_zero hmay
  obtain ⟨_, _, _, _, hse, hat, hat2, hq⟩ := deedFault_zero hf
  have hm0 : d.Many = 0 := by rcases hq with ⟨_, h, _⟩ | ⟨h, _⟩ <;> omega
  have hput := putAt_le l d
  have hres : doF l d number = (l.take (putAt l d) ++ newOf d number ++ l.drop (putAt l d), 0) := by
    rcases doF_cases l d number with ⟨h1, e⟩ | ⟨_, hn, e⟩ | ⟨h1, hn, hk, e⟩ | ⟨h1, hn, hk2, e⟩
    · exact absurd hmay h1
    · omega
    · exact e
    · omega
  have hrl : (l.take (putAt l d) ++ newOf d number ++ l.drop (putAt l d)).length = l.length + (newOf d number).length := by
    simp only [List.length_append, List.length_take, List.length_drop]; omega
  have hnl := newOf_length d number
  have hb0 := (Below.refl w.heap.size w).alloc (Nat.le_refl _) (.cells #[.int .i64 d.Kind, .int .i64 d.By, .int .i64 d.No, .int .i64 d.Seen, .int .i64 d.At, .int .i64 d.Many, .string d.Text] 24)
  have hd0 := DdAt.new w d
  have hs0 := hs.below hb0
  have hkB : (d.Kind == 1) = true := by rw [hk]; rfl
  have HMN := Lib.hid (show i64ok d.Many by unfold i64ok; omega)
  have HR := Lib.hid hres; have HRL := Lib.hid hrl; have HM := Lib.hid hmay; have HN := Lib.hid hnil
  have hP : ∀ W, SlCh W a cap l → Calls Try.prog 87 #[.slice a l.length cap, .agg #[.int .i64 d.Kind, .int .i64 d.By, .int .i64 d.No, .int .i64 d.Seen, .int .i64 d.At, .int .i64 d.Many, .string d.Text]] W fun e w' => e = .returned (.int .i64 ((putAt l d : Nat) : Int)) ∧ Below W.heap.size W w' := fun W h => place_c a cap l d W h (by omega) hat (by omega)
  have hW : ∀ W, Calls Try.prog 88 #[.agg #[.int .i64 d.Kind, .int .i64 d.By, .int .i64 d.No, .int .i64 d.Seen, .int .i64 d.At, .int .i64 d.Many, .string d.Text], .int .i64 number] W fun e w' => ∃ a' cap', e = .returned (.slice a' (newOf d number).length cap') ∧
      OwnRow w' W.heap.size 86 7 a' (newOf d number).length cap' (flat (newOf d number)) ∧ Below W.heap.size W w' := fun W => New_c d number W (by omega)
  have HP := Lib.hid hP; have HW := Lib.hid hW
  have hNS : (newOf d number).length ≤ 200 := by omega
  clear hs hres hrl hmay hnil hP hW hcnt hf hse hat hat2 hq hm0 hnl hk
  generalize newOf d number = NW at *
  generalize putAt l d = at' at *
  go_enter Try.func37, Try.ntmps37
  go_upto_region 1 with fail
  generalize hw0 : w.alloc (.cells #[.int .i64 d.Kind, .int .i64 d.By, .int .i64 d.No, .int .i64 d.Seen, .int .i64 d.At, .int .i64 d.Many, .string d.Text] 24) = w0 at *
  clear hw0
  obtain ⟨dlt, d0, d1, d2, d3, d4, d5, d6⟩ := hd0
  have hd0 : DdAt w0 w.heap.size d := ⟨dlt, d0, d1, d2, d3, d4, d5, d6⟩
  go_wp2_with fail
  refine (May_c a cap l d _ hs0 (by omega) (by unfold maxLen; omega) HMN.out).mono ?_
  rintro e w1 ⟨rfl, hb1⟩
  rw [HM.out]
  have hd1 := hd0.later hb1
  have hx1 := hb0.trans (hb1.mono hb0.size)
  have hs1 := hs0.below hb1
  clear hb1 hd0 d0 d1 d2 d3 d4 d5 d6 dlt hs0 hb0 HM
  obtain ⟨dl, d0, d1, d2, d3, d4, d5, d6⟩ := hd1
  have hd1 : DdAt w1 w.heap.size d := ⟨dl, d0, d1, d2, d3, d4, d5, d6⟩
  go_wp2_with fail
  refine (Clone_c a cap l _ hs1 (by omega) HN.out).mono ?_
  rintro e w2 ⟨a2, cap2, rfl, ho2, hb2⟩
  have hd2 := hd1.later hb2
  have hs2 := hs1.below hb2
  have hx2 := hx1.trans (hb2.mono hx1.size)
  have HO2 := Lib.hid ho2
  have hsz2 := hb2.size
  clear hb2 hd1 d0 d1 d2 d3 d4 d5 d6 hs1 HN ho2
  have hlt1 : w.heap.size < w1.heap.size := dl
  clear dl
  obtain ⟨dl, d0, d1, d2, d3, d4, d5, d6⟩ := hd2
  have hd2 : DdAt w2 w.heap.size d := ⟨dl, d0, d1, d2, d3, d4, d5, d6⟩
  have HD2 := Lib.hid hd2; clear hd2
  have HS2 := Lib.hid hs2; clear hs2
  have HX2 := Lib.hid hx2; clear hx2
  go_upto_region 8 with fail
  go_region_held3 (fun w' => w'.cell? ⟨w.heap.size, 0, none⟩ = some (.int .i64 d.Kind) ∧ w'.cell? ⟨w.heap.size, 1, none⟩ = some (.int .i64 d.By) ∧ w'.cell? ⟨w.heap.size, 2, none⟩ = some (.int .i64 d.No) ∧ w'.cell? ⟨w.heap.size, 3, none⟩ = some (.int .i64 d.Seen) ∧ w'.cell? ⟨w.heap.size, 4, none⟩ = some (.int .i64 d.At) ∧ w'.cell? ⟨w.heap.size, 5, none⟩ = some (.int .i64 d.Many) ∧ w'.cell? ⟨w.heap.size, 6, none⟩ = some (.string d.Text))
    (go_keep)
    (first
      | (go_at_call 87
         refine (HP.out _ ?_).mono ?_
         exact HS2.out.of_block fun _ _ _ => rfl
         rintro e w3 ⟨rfl, hb3⟩
         have hb23 : Below w2.heap.size w2 w3 := (below_drew w2 _).trans hb3
         obtain ⟨_, e0, e1, e2, e3, e4, e5, e6⟩ := HD2.out.later hb23)
      | (go_at_call 88
         refine (HW.out _).mono ?_
         rintro e w4 ⟨a4, cap4, rfl, ho4, hb4⟩
         have hb34 : Below w2.heap.size w2 w4 := hb23.trans (hb4.mono hb23.size)
         have HO4 := Lib.hid ho4
         obtain ⟨_, e0, e1, e2, e3, e4, e5, e6⟩ := HD2.out.later hb34)
      | (go_at_call 86
         refine (Insert_c a2 a4 cap2 cap4 l NW at' _ w1.heap.size _ (HO2.out.below hb34) HO4.out hput (by omega) (by have := hb34.size; omega) (fun g hg he => by
           have h1 := (HO2.out.base_le g hg).2
           have h2 := (HO4.out.base_le g he).1
           have h3 := hb23.size
           omega)).mono ?_
         rintro e w5 ⟨a5, cap5, rfl, ho5, hg5⟩
         have hb5 : Below w1.heap.size w4 w5 := below_grownBy hg5 (by have := hb34.size; omega) (fun k hk => (HO2.out.base_le k hk).1)
         have HO5 := Lib.hid ho5
         obtain ⟨_, e0, e1, e2, e3, e4, e5, e6⟩ := (HD2.out.later hb34).of_block hb5.size (hb5.block w.heap.size hlt1)))
  have HE := Lib.hid (show Below w.heap.size w w5 from (HX2.out.trans (hb34.mono HX2.out.size)).trans (hb5.mono (by omega)))
  go_wp2
  go_ret2
  refine ⟨a5, cap5, ?_, ?_, HE.out⟩
  · rw [HR.out]; show Ending.returned (.tuple #[.slice a5 (l.length + NW.length) cap5, _]) = _; rw [HRL.out]; rfl
  · rw [HR.out]; show OwnRow w5 w.heap.size 86 7 a5 (l.take at' ++ NW ++ l.drop at').length cap5 (flat (l.take at' ++ NW ++ l.drop at')); rw [HRL.out]; exact HO5.out.mono (by omega)
end Go.Proofs.Ytneoeokfffnonac
