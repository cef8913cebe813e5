/- The walks of the reference's Do whole, All, Text and F. -/
import Derived.Test.YtneoeokfffnonacRefDoW
import Derived.Test.YtneoeokfffnonacRefDoW2
set_option linter.unusedVariables false
set_option linter.unusedSimpArgs false
namespace Go.Proofs.Ytneoeokfffnonac
open Go.RowKit

theorem RDo_c (a : Option Addr) (cap : Nat) (l : List Ch) (d : Dd) (number : Int) (w : World) (hs : SlCh w a cap l) (hnil : a = none → cap = 0) (hsz : l.length * 56 ≤ 140737488355328) (ht : d.Text.size ≤ maxLen) (hG : ∀ c ∈ l, i64ok c.Gone) :
    Calls Try.prog 78 #[.slice a l.length cap, .agg #[.int .i64 d.Kind, .int .i64 d.By, .int .i64 d.No, .int .i64 d.Seen, .int .i64 d.At, .int .i64 d.Many, .string d.Text], .int .i64 number] w fun e w' => ∃ a' cap', e = .returned (.tuple #[.slice a' (doF l d number).1.length cap', .int .i64 (doF l d number).2]) ∧
      OwnRow w' w.heap.size 86 7 a' (doF l d number).1.length cap' (flat (doF l d number).1) ∧ Below w.heap.size w w' := by
  by_cases h : mayDo l d = 0 ∧ 1 ≤ number
  · obtain ⟨h1, h2⟩ := h
    rcases (deedFault_zero (mayDo_zero h1).1).2.2.2.2.2.2.2 with ⟨hk, _⟩ | ⟨hk, _⟩
    · exact RDo_put a cap l d number w hs hnil hG h1 h2 hk
    · exact RDo_take a cap l d number w hs hG h1 h2 hk
  · refine (RDo_no a cap l d number w hs (by omega) ht hG (by omega)).mono ?_
    rintro e w' ⟨rfl, hb⟩
    have e1 : (doF l d number).1 = [] := by
      rcases doF_cases l d number with ⟨h1, e⟩ | ⟨_, hn, e⟩ | ⟨h1, hn, hk, e⟩ | ⟨h1, hn, hk2, e⟩
      · rw [e]
      · rw [e]
      · omega
      · omega
    refine ⟨none, 0, by rw [e1]; rfl, by rw [e1]; exact OwnRow.nil _ _ _ _ _, hb⟩

theorem RF_c (c k : Int) (w : World) : Calls Try.prog 118 #[.int .i64 c, .int .i64 k] w fun e w' => e = .returned (.agg #[.int .i64 c, .int .i64 k]) ∧ Below w.heap.size w w' := by
  go_enter Try.func118, Try.ntmps118
  go_wp2
  refine bodyPost_ret (v := .agg #[.int .i64 c, .int .i64 k]) (by simp [results, Try.results118, go_sem]) rfl ⟨rfl, ?_⟩
  exact (Below.refl w.heap.size w).alloc (Nat.le_refl _) _

set_option maxRecDepth 100000 in
set_option maxHeartbeats 1000000 in
theorem RAll_c (a : Option Addr) (cap : Nat) (ds : List Dd) (w : World) (hs : SlDd w a cap ds) (hok : ∀ d ∈ ds, d.Text.size ≤ maxLen) (hlen : ds.length ≤ 1000000) :
    Calls Try.prog 97 #[.slice a ds.length cap] w fun e w' => ∃ a' cap', e = .returned (.tuple #[.slice a' (allF ds).1.length cap', .agg #[.int .i64 (allF ds).2.1, .int .i64 (allF ds).2.2]]) ∧
      OwnRow w' w.heap.size 86 7 a' (allF ds).1.length cap' (flat (allF ds).1) ∧ Below w.heap.size w w' := by
  have hb0 := (Below.refl w.heap.size w).alloc (Nat.le_refl _) (.cells #[.int .i64 0, .int .i64 0] 59)
  have hs0 := hs.below hb0
  have hF : (w.alloc (.cells #[.int .i64 0, .int .i64 0] 59)).cell? ⟨w.heap.size, 0, none⟩ = some (.int .i64 0) ∧ (w.alloc (.cells #[.int .i64 0, .int .i64 0] 59)).cell? ⟨w.heap.size, 1, none⟩ = some (.int .i64 0) ∧
      (w.alloc (.cells #[.int .i64 0, .int .i64 0] 59)).frozen? ⟨w.heap.size, 0, none⟩ = false ∧ (w.alloc (.cells #[.int .i64 0, .int .i64 0] 59)).frozen? ⟨w.heap.size, 1, none⟩ = false := by
    refine ⟨by simp, by simp, by simp, by simp⟩
  have hlt0 : w.heap.size < (w.alloc (.cells #[.int .i64 0, .int .i64 0] 59)).heap.size := by simp
  have HOK := Lib.hid hok; clear hok hs
  go_enter Try.func97, Try.ntmps97
  go_upto_region 1 with fail
  generalize hw0 : w.alloc (.cells #[.int .i64 0, .int .i64 0] 59) = w0 at *
  clear hw0
  have HF := Lib.hid hF; clear hF
  go_wp2
  go_loopw [4, 5] (fun s4 s11 wr => ∃ (k : Nat) (a' : Option Addr) (cap' : Nat) (L : List Ch), k ≤ ds.length ∧ s11 = .int .i64 k ∧ s4 = .slice a' L.length cap' ∧ Hid (Mid ds k L) ∧ Hid (OwnRow wr w0.heap.size 86 7 a' L.length cap' (flat L)) ∧ Below w0.heap.size w0 wr) (fun _ s11 _ => ds.length - (intOf s11).toNat)
  case atStart => exact ⟨0, none, 0, [], Nat.zero_le _, rfl, rfl, Lib.hid (Mid.zero ds), Lib.hid (OwnRow.nil _ _ _ _ _), Below.refl _ _⟩
  case round =>
    obtain ⟨k, a', cap', L, hk, rfl, rfl, HM, HO, hb⟩ := hrel
    have f0 := (hb.cell (p := ⟨w.heap.size, 0, none⟩) hlt0).trans HF.out.1
    have f1 := (hb.cell (p := ⟨w.heap.size, 1, none⟩) hlt0).trans HF.out.2.1
    have f2 := (hb.frozen (p := ⟨w.heap.size, 0, none⟩) hlt0).trans HF.out.2.2.1
    have f3 := (hb.frozen (p := ⟨w.heap.size, 1, none⟩) hlt0).trans HF.out.2.2.2
    by_cases hlt : k < ds.length
    · obtain ⟨bb, off, rfl, hc⟩ := hs0.nth hlt
      obtain ⟨q0, q1, q2, q3, q4, q5, q6⟩ := hc.below hb hc.lt
      have hdk := HOK.out ds[k] (List.getElem_mem hlt)
      have HS := Lib.hid (HM.out.step hlt)
      have HFL := Lib.hid (HM.out.fail hlt)
      have hLl := HM.out.2.1
      have HG := Lib.hid HM.out.2.2
      generalize hd : ds[k] = d at *
      clear hd
      have HDK := Lib.hid hdk; clear hdk
      have hinc : IntKind.i64.wrap ((k : Int) + 1) = (k : Int) + 1 := by rw [IntKind.wrap_i64]; omega
      have HO1 := HO; clear HO
      go_wp2_with fail
      refine (RDo_c a' cap' L d ((k : Int) + 1) _ HO1.out.slCh HO1.out.nilcap (by omega) HDK.out HG.out).mono ?_
      rintro e w2 ⟨a2, cap2, rfl, ho2, hb2⟩
      have hb02 : Below w0.heap.size w0 w2 := hb.trans (hb2.mono hb.size)
      have HO2 := Lib.hid (ho2.mono hb.size)
      clear q0 q1 q2 q3 q4 q5 q6 hb2 ho2 HO1 hb f0 f1 f2 f3
      have f0 := (hb02.cell (p := ⟨w.heap.size, 0, none⟩) hlt0).trans HF.out.1
      have f1 := (hb02.cell (p := ⟨w.heap.size, 1, none⟩) hlt0).trans HF.out.2.1
      have f2 := (hb02.frozen (p := ⟨w.heap.size, 0, none⟩) hlt0).trans HF.out.2.2.1
      have f3 := (hb02.frozen (p := ⟨w.heap.size, 1, none⟩) hlt0).trans HF.out.2.2.2
      generalize doF L d ((k : Int) + 1) = R at *
      obtain ⟨L2, c2⟩ := R
      simp only at *
      by_cases h0 : c2 = 0
      · have HS2 := Lib.hid (HS.out h0)
        subst h0
        clear HS HFL f0 f1 f2 f3
        go_wp2
        exact ⟨⟨k + 1, a2, cap2, L2, by omega, by go_num, rfl, HS2, HO2, hb02⟩, by simp [intOf]; omega⟩
      · have HF2 := Lib.hid (HFL.out h0)
        have hne : (c2 != 0) = true := by simpa using h0
        clear HS HFL h0 f0 f1 f2 f3
        go_wp2_with fail
        refine (RF_c c2 (k : Int) _).mono ?_
        rintro e w3 ⟨rfl, hb3⟩
        have hb03 : Below w0.heap.size w0 w3 := hb02.trans (hb3.mono hb02.size)
        have f0 := (hb03.cell (p := ⟨w.heap.size, 0, none⟩) hlt0).trans HF.out.1
        have f1 := (hb03.cell (p := ⟨w.heap.size, 1, none⟩) hlt0).trans HF.out.2.1
        have f2 := (hb03.frozen (p := ⟨w.heap.size, 0, none⟩) hlt0).trans HF.out.2.2.1
        have f3 := (hb03.frozen (p := ⟨w.heap.size, 1, none⟩) hlt0).trans HF.out.2.2.2
        have HE := Lib.hid (fun v v2 => (((hb0.trans (hb03.mono hb0.size)).setCell (p := ⟨w.heap.size, 0, none⟩) (by simp) v).setCell (p := ⟨w.heap.size, 1, none⟩) (by simp) v2))
        clear hb3 hb02
        go_wp2
        refine bodyPost_ret (v := .tuple #[.slice none 0 0, .agg #[.int .i64 c2, .int .i64 k]]) (by simp [results, Try.results97, go_sem, f0, f1]) rfl ?_
        exact ⟨none, 0, by rw [HF2.out]; rfl, by rw [HF2.out]; exact OwnRow.nil _ _ _ _ _, HE.out _ _⟩
    · obtain rfl : k = ds.length := by omega
      have HFD := Lib.hid HM.out.done
      have HE := Lib.hid (fun v v2 => (((hb0.trans (hb.mono hb0.size)).setCell (p := ⟨w.heap.size, 0, none⟩) (by simp) v).setCell (p := ⟨w.heap.size, 1, none⟩) (by simp) v2))
      have hne : ∀ g, ownB a' cap' = some g → g ≠ w.heap.size := fun g hg => by have := (HO.out.base_le g hg).1; omega
      have HO2 := Lib.hid (fun v v2 => (HO.out.setCell ⟨w.heap.size, 0, none⟩ v hne).setCell ⟨w.heap.size, 1, none⟩ v2 hne)
      clear HM HO hne
      go_wp2
      refine bodyPost_ret (v := .tuple #[.slice a' L.length cap', .agg #[.int .i64 0, .int .i64 0]]) (by simp [results, Try.results97, go_sem, f0, f1]) rfl ?_
      exact ⟨a', cap', by rw [HFD.out], by rw [HFD.out]; exact (HO2.out _ _).mono hb0.size, HE.out _ _⟩

theorem RTextOf_c (a : Option Addr) (cap : Nat) (l : List Ch) (w : World) (hs : SlCh w a cap l) (hG : ∀ c ∈ l, i64ok c.Gone) :
    Calls Try.prog 99 #[.slice a l.length cap] w fun e w' => e = .returned (.string (strOfNums (textF l))) ∧ Below w.heap.size w w' := by
  go_enter Try.func99, Try.ntmps99
  go_wp2_with fail
  refine (ViewOf_c a cap l _ _ _ hs hG).mono ?_
  rintro e w1 ⟨rfl, hb1⟩
  go_wp2
  go_ret
  exact ⟨rfl, hb1⟩
end Go.Proofs.Ytneoeokfffnonac
