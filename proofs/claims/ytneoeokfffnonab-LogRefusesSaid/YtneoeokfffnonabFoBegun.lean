/- The walk of foldBegun. -/
import Derived.Test.YtneoeokfffnonabAllW
import Derived.Test.YtneoeokfffnonabPlain
set_option linter.unusedVariables false
set_option linter.unusedSimpArgs false
namespace Go.Proofs.Ytneoeokfffnonab
open Go.RowKit

def Df : List Dd := [⟨1, 0, 1, 0, 0, 0, ⟨#[97, 99]⟩⟩, ⟨1, 1, 1, 1, 1, 0, ⟨#[98]⟩⟩, ⟨2, 0, 2, 1, 1, 1, ⟨#[]⟩⟩]
def Lf : List Ch := [⟨97, 0, 1, 0, 1, 0, 0⟩, ⟨98, 1, 1, 0, 2, 0, 0⟩, ⟨99, 0, 1, 1, 1, 3, 1⟩]
theorem Df_all : allF Df = (Lf, 0, 0) := by decide +kernel
theorem Lf_text : textF Lf = [97, 98] := by decide +kernel

theorem All_n (a : Option Addr) (cap : Nat) (ds : List Dd) (n : Nat) (hn : ds.length = n) (R : List Ch × Int × Int) (hR : allF ds = R) (m : Nat) (hm : R.1.length = m) (w : World) (hs : SlDd w a cap ds) (hok : ∀ d ∈ ds, d.Text.size ≤ maxLen ∧ i64ok d.Many) (hlen : ds.length ≤ 1000000) :
    Calls Try.prog 15 #[.slice a n cap] w fun e w' => ∃ a' cap', e = .returned (.tuple #[.slice a' m cap', .agg #[.int .i64 R.2.1, .int .i64 R.2.2]]) ∧
      OwnRow w' w.heap.size 85 7 a' R.1.length cap' (flat R.1) ∧ Below w.heap.size w w' := by
  subst hn; subst hR; subst hm; exact All_c a cap ds w hs hok hlen
theorem Text_n (a : Option Addr) (cap : Nat) (l : List Ch) (n : Nat) (hn : l.length = n) (s : ByteArray) (hv : strOfNums (textF l) = s) (w : World) (hs : SlCh w a cap l) (hsz : l.length ≤ 140737488355328) :
    Calls Try.prog 17 #[.slice a n cap] w fun e w' => e = .returned (.string s) ∧ Below w.heap.size w w' := by
  subst hn; subst hv; exact Text_c a cap l w hs hsz
theorem New_n (d : Dd) (n : Int) (m : Nat) (hm : (newOf d n).length = m) (w : World) (hs : d.Text.size * 56 ≤ 140737488355328) :
    Calls Try.prog 50 #[.agg #[.int .i64 d.Kind, .int .i64 d.By, .int .i64 d.No, .int .i64 d.Seen, .int .i64 d.At, .int .i64 d.Many, .string d.Text], .int .i64 n] w fun e w' => ∃ a' cap', e = .returned (.slice a' m cap') ∧
      OwnRow w' w.heap.size 85 7 a' (newOf d n).length cap' (flat (newOf d n)) ∧ Below w.heap.size w w' := by
  subst hm; exact New_c d n w hs

set_option maxRecDepth 100000 in
set_option maxHeartbeats 1000000 in
theorem foldBegun_c (w : World) : Calls Try.prog 14 #[] w fun e w' => e = .returned (.bool true) ∧ Below w.heap.size w w' := by
  have hb0 := (Below.refl w.heap.size w).alloc (Nat.le_refl _) (.cells #[.int .i64 1, .int .i64 0, .int .i64 1, .int .i64 0, .int .i64 0, .int .i64 0, .string ⟨#[97, 99]⟩, .int .i64 1, .int .i64 1, .int .i64 1, .int .i64 1, .int .i64 1, .int .i64 0, .string ⟨#[98]⟩, .int .i64 2, .int .i64 0, .int .i64 2, .int .i64 1, .int .i64 1, .int .i64 1, .string ⟨#[]⟩] 25)
  have hs0 : SlDd (w.alloc (.cells #[.int .i64 1, .int .i64 0, .int .i64 1, .int .i64 0, .int .i64 0, .int .i64 0, .string ⟨#[97, 99]⟩, .int .i64 1, .int .i64 1, .int .i64 1, .int .i64 1, .int .i64 1, .int .i64 0, .string ⟨#[98]⟩, .int .i64 2, .int .i64 0, .int .i64 2, .int .i64 1, .int .i64 1, .int .i64 1, .string ⟨#[]⟩] 25)) (some ⟨w.heap.size, 0, none⟩) 3 Df := by
    refine ⟨by simp [Df], by simp [maxLen], fun i hi => ⟨w.heap.size, 0, rfl, ?_⟩⟩
    have hi' : i < 3 := hi
    rcases (show i = 0 ∨ i = 1 ∨ i = 2 by omega) with rfl | rfl | rfl <;> simp [DAt, Df]
  go_enter Try.func14, Try.ntmps14
  go_wp2_with fail
  refine (All_n _ _ Df 3 rfl _ Df_all 3 rfl _ hs0 (by intro d hd; simp [Df] at hd; rcases hd with rfl | rfl | rfl <;> exact ⟨by simp [maxLen, ByteArray.size], by unfold i64ok; decide⟩) (by simp [Df])).mono ?_
  rintro e w1 ⟨a1, cap1, rfl, ho1, hb1⟩
  have hx1 := hb0.trans (hb1.mono hb0.size)
  have HO1 := Lib.hid ho1
  clear hs0 hb0 hb1 ho1
  have hba := (Below.refl w1.heap.size w1).alloc (Nat.le_refl _) (.cells #[.int .i64 0, .int .i64 0] 29)
  have hx2 := hx1.trans (hba.mono hx1.size)
  have hs2 : SlCh (w1.alloc (.cells #[.int .i64 0, .int .i64 0] 29)) a1 cap1 Lf := HO1.out.slCh.below hba
  have hf0 : (w1.alloc (.cells #[.int .i64 0, .int .i64 0] 29)).cell? ⟨w1.heap.size, 0, none⟩ = some (.int .i64 0) := by simp
  simp only
  clear HO1 hx1 hba
  obtain ⟨b, off, ha, hc⟩ := hs2.nth (k := 2) (by simp [Lf])
  cases ha
  have hcap : 3 ≤ cap1 := hs2.1
  go_upto_region 2 with fail
  generalize hw2 : w1.alloc (.cells #[.int .i64 0, .int .i64 0] 29) = w2 at *
  clear hw2
  go_wp2_with fail
  refine (Text_n _ _ Lf 3 rfl ⟨#[97, 98]⟩ (by rw [Lf_text]; rfl) _ hs2 (by simp [Lf])).mono ?_
  rintro e w3 ⟨rfl, hb3⟩
  have hx3 := hx2.trans (hb3.mono hx2.size)
  have hc3 := hc.below hb3 hc.lt
  obtain ⟨q0, q1, q2, q3, q4, q5, q6⟩ := hc3
  simp [Lf] at q0 q1 q2 q3 q4 q5 q6
  clear hs2 hf0 hc hx2 hb3 q0 q1 q2 q3 q4
  go_wp2_with fail
  refine (New_n ⟨0, 0, 0, 0, 0, 0, ⟨#[120, 121]⟩⟩ 4 2 rfl _ (by decide)).mono ?_
  rintro e w4 ⟨a4, cap4, rfl, _, hb4⟩
  have hx4 := hx3.trans (hb4.mono hx3.size)
  go_wp2
  go_ret
  exact ⟨rfl, hx4⟩
end Go.Proofs.Ytneoeokfffnonab
