/- What the walks of layer 2 need, and deed.text. -/
import Derived.Test.YtneoeokfffnonacRefW
import Derived.Test.YtneoeokfffnonacCharsW
import Derived.Test.YtneoeokfffnonacPlain
import Derived.Deep.DeepCutAuto
import Derived.WalkSpells
set_option linter.unusedVariables false
set_option linter.unusedSimpArgs false
namespace Go.Proofs.Ytneoeokfffnonac
open Go.RowKit

theorem toList_nil {s : ByteArray} (h : s.size = 0) : s.toList = [] := by
  rw [ByteArray.toList_eq]; exact List.eq_nil_of_length_eq_zero (by simpa using h)
theorem toList_ne {s : ByteArray} (h : ¬ s.size = 0) : ¬ s.toList = [] := by
  rw [ByteArray.toList_eq]; intro e; apply h; simpa using congrArg List.length e

theorem toList_ne' {s : ByteArray} (h : ¬ s.size = 0) : (!s.toList.isEmpty) = true := by
  have := toList_ne h
  simpa [List.isEmpty_iff] using this

theorem bytesOf_get (s : ByteArray) (k : Nat) (h : k < s.size) : (bytesOf s)[k]? = some (s[k].toNat : Int) := by
  unfold bytesOf
  rw [List.getElem?_map]
  have e : s.data.toList[k]? = some s[k] := by
    rw [List.getElem?_eq_getElem (by simpa using h)]; rfl
  rw [e]; rfl

theorem all_snoc (s : ByteArray) (k : Nat) (h : k < s.size) : ((bytesOf s).take (k + 1)).all (fun x => !badByte x) = (((bytesOf s).take k).all (fun x => !badByte x) && !badByte (s[k].toNat : Int)) := by
  have hl : k < (bytesOf s).length := by rw [bytesOf_length]; exact h
  have e : (bytesOf s)[k] = (s[k].toNat : Int) := by
    have := bytesOf_get s k h; rw [List.getElem?_eq_getElem hl] at this; exact Option.some.inj this
  rw [List.take_succ_eq_append_getElem hl, List.all_append, e]; simp

theorem all_no (s : ByteArray) (k : Nat) (h : k < s.size) (hb : badByte (s[k].toNat : Int) = true) : textOk s = false := by
  have : (bytesOf s).all (fun x => !badByte x) = false := by
    rw [List.all_eq_false]
    refine ⟨_, List.mem_of_getElem? (bytesOf_get s k h), by simp [hb]⟩
  unfold textOk; rw [this]; simp

set_option maxHeartbeats 400000 in
theorem text_c (s : ByteArray) (w : World) (hs : s.size ≤ maxLen) :
    Calls Try.prog 123 #[.string s] w fun e w' => e = .returned (.bool (textOk s)) ∧ w' = w := by
  unfold maxLen at hs
  go_enter Try.func123, Try.ntmps123
  go_wp2
  go_loop [3, 6] (fun i j => ∃ k : Nat, k ≤ s.size ∧ j = .int .i64 k ∧ Hid (((bytesOf s).take k).all (fun x => !badByte x) = true)) (fun _ j => s.size - (intOf j).toNat)
  case atStart => exact ⟨0, Nat.zero_le _, rfl, Lib.hid rfl⟩
  case round =>
    obtain ⟨k, hk, rfl, HE⟩ := hrel
    by_cases hlt : k < s.size
    · have HS := Lib.hid (all_snoc s k hlt)
      have HN := Lib.hid (all_no s k hlt)
      by_cases h1 : (s[k].toNat : Int) < 32
      · have HN2 := Lib.hid (HN.out (by simp [badByte, h1]))
        go_wp2
        go_ret
        exact ⟨by rw [HN2.out]; rfl, rfl⟩
      · by_cases h2 : 126 < (s[k].toNat : Int)
        · have HN2 := Lib.hid (HN.out (by simp [badByte, h2]))
          go_wp2
          go_ret
          exact ⟨by rw [HN2.out]; rfl, rfl⟩
        · have HS2 := Lib.hid (show ((bytesOf s).take (k + 1)).all (fun x => !badByte x) = true by rw [HS.out, HE.out]; simp [badByte, h1, h2])
          clear HS HN HE
          go_wp2
          go_round
          case rel => exact ⟨k + 1, by omega, by go_num, HS2⟩
          case measure => simp [intOf]; omega
    · obtain rfl : k = s.size := by omega
      have HA := Lib.hid (show (bytesOf s).all (fun x => !badByte x) = true by have := HE.out; rwa [List.take_of_length_le (by rw [bytesOf_length]; omega)] at this)
      clear HE
      by_cases hz : s.size = 0
      · have Hf := Lib.hid (show textOk s = false by unfold textOk; simp [hz])
        have hz2 : s.toList = [] := toList_nil hz
        clear hz HA
        go_wp2
        go_ret
        exact ⟨by rw [Hf.out]; rfl, rfl⟩
      · have Hf := Lib.hid (show textOk s = decide ((s.size : Int) ≤ 20) by
          have : 0 < s.size := by omega
          unfold textOk; rw [HA.out]; simp [this]; omega)
        have hz3 : s.toList.isEmpty = false := by rw [List.isEmpty_eq_false_iff]; exact toList_ne hz
        have HZ3 := Lib.hid hz3; clear hz3
        have hz2 : ¬ s.toList = [] := toList_ne hz
        clear HA
        go_wp2
        go_ret
        exact ⟨by rw [Hf.out]; show Ending.returned (Value.bool (!s.toList.isEmpty && _)) = _; rw [HZ3.out]; rfl, rfl⟩

theorem range_cases (d : Dd) : (deedRange d = true ∧ isWriter d.By = false) ∨ (deedRange d = true ∧ isWriter d.By = true ∧ d.No < 1) ∨ (deedRange d = true ∧ isWriter d.By = true ∧ 1 ≤ d.No ∧ 120 < d.No) ∨
    (deedRange d = true ∧ isWriter d.By = true ∧ 1 ≤ d.No ∧ d.No ≤ 120 ∧ d.Seen < 0) ∨ (deedRange d = true ∧ isWriter d.By = true ∧ 1 ≤ d.No ∧ d.No ≤ 120 ∧ 0 ≤ d.Seen ∧ 120 < d.Seen) ∨
    (deedRange d = true ∧ isWriter d.By = true ∧ 1 ≤ d.No ∧ d.No ≤ 120 ∧ 0 ≤ d.Seen ∧ d.Seen ≤ 120 ∧ d.At < 0) ∨ (deedRange d = true ∧ isWriter d.By = true ∧ 1 ≤ d.No ∧ d.No ≤ 120 ∧ 0 ≤ d.Seen ∧ d.Seen ≤ 120 ∧ 0 ≤ d.At ∧ 200 < d.At) ∨
    (deedRange d = false ∧ isWriter d.By = true ∧ 1 ≤ d.No ∧ d.No ≤ 120 ∧ 0 ≤ d.Seen ∧ d.Seen ≤ 120 ∧ 0 ≤ d.At ∧ d.At ≤ 200) := by
  unfold deedRange
  cases isWriter d.By <;> simp <;> omega

def deedRest (d : Dd) : Int := if d.Kind = 1 then (if d.Many = 0 then (if textOk d.Text then 0 else 4) else 3) else if d.Text.size = 0 then (if d.Many < 1 ∨ 200 < d.Many then 1 else 0) else 3
theorem deedFault_split (d : Dd) (h : d.Kind = 1 ∨ d.Kind = 2) : deedFault d = if deedRange d then 1 else deedRest d := by
  unfold deedFault deedRest
  rcases h with h | h
  · rw [if_pos h, if_pos h]
  · have : ¬ d.Kind = 1 := by omega
    rw [if_neg this, if_pos h, if_neg this]
theorem rest_cases (d : Dd) (h : d.Kind = 1 ∨ d.Kind = 2) : (deedRest d = 0 ∧ d.Kind = 1 ∧ d.Many = 0 ∧ textOk d.Text = true) ∨ (deedRest d = 4 ∧ d.Kind = 1 ∧ d.Many = 0 ∧ textOk d.Text = false) ∨ (deedRest d = 3 ∧ d.Kind = 1 ∧ (d.Many != 0) = true) ∨
    (deedRest d = 3 ∧ d.Kind = 2 ∧ ¬ d.Text.size = 0) ∨ (deedRest d = 1 ∧ d.Kind = 2 ∧ d.Text.size = 0 ∧ d.Many < 1) ∨ (deedRest d = 1 ∧ d.Kind = 2 ∧ d.Text.size = 0 ∧ 1 ≤ d.Many ∧ 200 < d.Many) ∨ (deedRest d = 0 ∧ d.Kind = 2 ∧ d.Text.size = 0 ∧ 1 ≤ d.Many ∧ d.Many ≤ 200) := by
  unfold deedRest
  rcases h with h | h
  · rw [if_pos h]
    by_cases hm : d.Many = 0
    · cases ht : textOk d.Text <;> simp [h, hm]
    · simp [h, hm]
  · have h1 : ¬ d.Kind = 1 := by omega
    rw [if_neg h1]
    by_cases ht : d.Text.size = 0
    · rw [if_pos ht]
      by_cases h2 : d.Many < 1 ∨ 200 < d.Many
      · rw [if_pos h2]; simp [h, ht]; omega
      · rw [if_neg h2]; simp [h, ht]; omega
    · rw [if_neg ht]; simp [h, ht]

end Go.Proofs.Ytneoeokfffnonac
