/- Two bytes held against each other, and two lists. -/
import Derived.Test.YtneoeokfffnonacGreatCharsW
import Derived.Test.YtneoeokfffnonacGreatPlain
import Derived.Laws.StructEq
set_option linter.unusedVariables false
set_option linter.unusedSimpArgs false
namespace Go.Proofs.YtneoeokfffnonacGreat
open Go.RowKit

def Ch.eqB (x y : Ch) : Bool := x.C == y.C && (x.By == y.By && (x.No == y.No && (x.K == y.K && (x.In == y.In && (x.Out == y.Out && x.Gone == y.Gone)))))
theorem Ch.eqB_iff (x y : Ch) : x.eqB y = true ↔ x = y := by
  cases x; cases y; simp [Ch.eqB]
theorem Ch.eqB_decide (x y : Ch) : x.eqB y = decide (x = y) := by
  rw [Bool.eq_iff_iff, Ch.eqB_iff]; simp

theorem guard_Char : Tryz.prog.eqGuardType Tryz.prog.depth 104 = false := by kernel_rfl

theorem equalIn_Char (x y : Ch) (w : World) : (Op.equalIn 10000 104 (.agg #[.int .u8 x.C, .int .i64 x.By, .int .i64 x.No, .int .i64 x.K, .int .i64 x.In, .int .i64 x.Out, .int .i64 x.Gone]) (.agg #[.int .u8 y.C, .int .i64 y.By, .int .i64 y.No, .int .i64 y.K, .int .i64 y.In, .int .i64 y.Out, .int .i64 y.Gone])).run Tryz.prog w = .ok (x.eqB y) w := by
  have u3 := Tryz.underlying3
  have a3 := Tryz.isAgg3
  have z3 := Tryz.sizeOf3
  have u5 := Tryz.underlying5
  have a5 := Tryz.isAgg5
  have z5 := Tryz.sizeOf5
  have hS : Tryz.prog.underlying 104 = some (.struct (Tryz.prog.fieldsOf 104)) := by kernel_rfl
  have hp : Tryz.prog.stoodInHeld 104 = false := by kernel_rfl
  rw [show (10000 : Nat) = 9999 + 1 from rfl, run_equalIn_agg w 9999 104 _ _ hS hp]
  simp only [Program.fieldsOf, Tryz.underlying104]
  go_simp
  unfold Ch.eqB
  by_cases h0 : x.C = y.C <;> by_cases h1 : x.By = y.By <;> by_cases h2 : x.No = y.No <;> by_cases h3 : x.K = y.K <;> by_cases h4 : x.In = y.In <;> by_cases h5 : x.Out = y.Out <;> by_cases h6 : x.Gone = y.Gone <;> simp [h0, h1, h2, h3, h4, h5, h6]

theorem neq_Char (x y : Ch) (w : World) : (binOp .neq 104 (.agg #[.int .u8 x.C, .int .i64 x.By, .int .i64 x.No, .int .i64 x.K, .int .i64 x.In, .int .i64 x.Out, .int .i64 x.Gone]) (.agg #[.int .u8 y.C, .int .i64 y.By, .int .i64 y.No, .int .i64 y.K, .int .i64 y.In, .int .i64 y.Out, .int .i64 y.Gone])).run Tryz.prog w = .ok (.bool (!x.eqB y)) w := by
  rw [run_neq_struct, equalIn_Char]; rfl

theorem SameChars_c (a b : Option Addr) (capa capb : Nat) (l m : List Ch) (w : World) (hs : SlCh w a capa l) (hs' : SlCh w b capb m) :
    Calls Tryz.prog 49 #[.slice a l.length capa, .slice b m.length capb] w fun e w' => e = .returned (.bool (decide (l = m))) ∧ Below w.heap.size w w' := by
  have hm1 : l.length ≤ maxLen := Nat.le_trans hs.1 hs.2.1
  have hm2 : m.length ≤ maxLen := Nat.le_trans hs'.1 hs'.2.1
  unfold maxLen at hm1 hm2
  have hgd := guard_Char
  by_cases hlen : l.length = m.length
  case neg =>
    have Hf := Lib.hid (show decide (l = m) = false by simp; exact fun h => hlen (by rw [h]))
    have hne : ((l.length : Int) != (m.length : Int)) = true := by simp; omega
    clear hlen
    go_enter Tryz.func49, Tryz.ntmps49
    go_wp2
    go_ret
    exact ⟨by rw [Hf.out]; rfl, Below.refl _ _⟩
  have hne : ((l.length : Int) != (m.length : Int)) = false := by simp; omega
  have HLen := Lib.hid hlen; clear hlen
  go_enter Tryz.func49, Tryz.ntmps49
  go_wp2
  go_loopw [5] (fun i wr => ∃ k : Nat, k ≤ l.length ∧ i = .int .i64 k ∧ Below w.heap.size w wr ∧ Hid (l.take k = m.take k)) (fun i _ => l.length - (intOf i).toNat)
  case atStart => exact ⟨0, Nat.zero_le _, rfl, Below.refl _ _, Lib.hid (by simp)⟩
  case round =>
    obtain ⟨k, hk, rfl, hb, HE⟩ := hrel
    by_cases hlt : k < l.length
    · have hlt2 : k < m.length := by rw [← HLen.out]; exact hlt
      obtain ⟨b1, o1, rfl, hc⟩ := (hs.below hb).nth hlt
      obtain ⟨b2, o2, rfl, hd⟩ := (hs'.below hb).nth hlt2
      obtain ⟨q0, q1, q2, q3, q4, q5, q6⟩ := hc
      obtain ⟨r0, r1, r2, r3, r4, r5, r6⟩ := hd
      have hlt' : (k : Int) < l.length := by omega
      have hlt2' : (k : Int) < m.length := by omega
      have hnq := fun w => neq_Char l[k] m[k] w
      have HX := Lib.hid (show l.take (k + 1) = m.take (k + 1) ↔ l[k] = m[k] by
        rw [List.take_succ_eq_append_getElem hlt, List.take_succ_eq_append_getElem hlt2, HE.out]
        exact ⟨fun h => by have := List.append_cancel_left h; simpa using this, fun h => by rw [h]⟩)
      have HY := Lib.hid (Ch.eqB_iff l[k] m[k])
      generalize hx : l[k] = x at *
      generalize hy : m[k] = y at *
      have HXX := Lib.hid hx; clear hx
      have HYY := Lib.hid hy; clear hy
      cases hq : x.eqB y
      · have Hf := Lib.hid (show decide (l = m) = false by
          simp; intro h; subst h
          have := HY.out.2 (HXX.out.symm.trans HYY.out); rw [hq] at this; cases this)
        go_wp2
        go_quiet (fail)
        go_wp2
        go_ret
        exact ⟨by rw [Hf.out]; rfl, bl_drewN hb _⟩
      · have HE2 := Lib.hid (HX.out.2 (HY.out.1 hq))
        go_wp2
        go_quiet (fail)
        go_wp2
        exact ⟨⟨k + 1, by omega, by go_num, bl_drewN hb _, HE2⟩, by simp [intOf]; omega⟩
    · obtain rfl : k = l.length := by omega
      have Hf := Lib.hid (show decide (l = m) = true by
        have h1 := HE.out; rw [List.take_length] at h1; rw [h1, List.take_of_length_le (by rw [HLen.out]; exact Nat.le_refl _)]; simp)
      go_wp2
      go_ret
      exact ⟨by rw [Hf.out]; rfl, hb⟩
end Go.Proofs.YtneoeokfffnonacGreat
