/- Printed by gendeed.py: what the walks of deeds need (the same texts as elsewhere). -/
import Derived.Test.YtneoeokfffnonabGreatDoorProg
import Derived.Test.YtneoeokfffnonabGreatDoorPlainE
import Derived.Shelf.Abstract
import Derived.StillTailTactics
import Derived.Deep.DeepCutAuto
import Derived.WalkSpells
import Derived.Laws.StructEq
set_option linter.unusedVariables false
set_option linter.unusedSimpArgs false
namespace Go.Proofs.YtneoeokfffnonabGreatDoor
namespace DB
open Go.RowKit
theorem Writer_c (x : Int) (w : World) :
    Calls Tryz.prog 82 #[.int .i64 x] w fun e w' => e = .returned (.bool (isWriter x)) ∧ w' = w := by
  go_enter Tryz.func82, Tryz.ntmps82
  by_cases h1 : 0 ≤ x <;> by_cases h2 : x < 4
  all_goals (go_wp2; go_ret; exact ⟨by simp [isWriter, h1, h2], rfl⟩)

theorem toList_nil {s : ByteArray} (h : s.size = 0) : s.toList = [] := by
  rw [ByteArray.toList_eq]; exact List.eq_nil_of_length_eq_zero (by simpa using h)
theorem toList_ne {s : ByteArray} (h : ¬ s.size = 0) : ¬ s.toList = [] := by
  rw [ByteArray.toList_eq]; intro e; apply h; simpa using congrArg List.length e

theorem toList_ne' {s : ByteArray} (h : ¬ s.size = 0) : (!s.toList.isEmpty) = true := by
  have := toList_ne h
  simpa [List.isEmpty_iff] using this

theorem bytesOf_get (s : ByteArray) (k : Nat) (h : k < s.size) : (bytesOf s)[k]? = some (s[k].toNat : Int) := by
  unfold bytesOf
  rw [List.getElem?_map]
  have e : s.data.toList[k]? = some s[k] := by
    rw [List.getElem?_eq_getElem (by simpa using h)]; rfl
  rw [e]; rfl

theorem all_snoc (s : ByteArray) (k : Nat) (h : k < s.size) : ((bytesOf s).take (k + 1)).all (fun x => !badByte x) = (((bytesOf s).take k).all (fun x => !badByte x) && !badByte (s[k].toNat : Int)) := by
  have hl : k < (bytesOf s).length := by rw [bytesOf_length]; exact h
  have e : (bytesOf s)[k] = (s[k].toNat : Int) := by
    have := bytesOf_get s k h; rw [List.getElem?_eq_getElem hl] at this; exact Option.some.inj this
  rw [List.take_succ_eq_append_getElem hl, List.all_append, e]; simp

theorem all_no (s : ByteArray) (k : Nat) (h : k < s.size) (hb : badByte (s[k].toNat : Int) = true) : textOk s = false := by
  have : (bytesOf s).all (fun x => !badByte x) = false := by
    rw [List.all_eq_false]
    refine ⟨_, List.mem_of_getElem? (bytesOf_get s k h), by simp [hb]⟩
  unfold textOk; rw [this]; simp

set_option maxHeartbeats 400000 in
theorem text_c (s : ByteArray) (w : World) (hs : s.size ≤ maxLen) :
    Calls Tryz.prog 113 #[.string s] w fun e w' => e = .returned (.bool (textOk s)) ∧ w' = w := by
  unfold maxLen at hs
  go_enter Tryz.func113, Tryz.ntmps113
  go_wp2
  go_loop [3, 6] (fun i j => ∃ k : Nat, k ≤ s.size ∧ j = .int .i64 k ∧ Hid (((bytesOf s).take k).all (fun x => !badByte x) = true)) (fun _ j => s.size - (intOf j).toNat)
  case atStart => exact ⟨0, Nat.zero_le _, rfl, Lib.hid rfl⟩
  case round =>
    obtain ⟨k, hk, rfl, HE⟩ := hrel
    by_cases hlt : k < s.size
    · have HS := Lib.hid (all_snoc s k hlt)
      have HN := Lib.hid (all_no s k hlt)
      by_cases h1 : (s[k].toNat : Int) < 32
      · have HN2 := Lib.hid (HN.out (by simp [badByte, h1]))
        go_wp2
        go_ret
        exact ⟨by rw [HN2.out]; rfl, rfl⟩
      · by_cases h2 : 126 < (s[k].toNat : Int)
        · have HN2 := Lib.hid (HN.out (by simp [badByte, h2]))
          go_wp2
          go_ret
          exact ⟨by rw [HN2.out]; rfl, rfl⟩
        · have HS2 := Lib.hid (show ((bytesOf s).take (k + 1)).all (fun x => !badByte x) = true by rw [HS.out, HE.out]; simp [badByte, h1, h2])
          clear HS HN HE
          go_wp2
          go_round
          case rel => exact ⟨k + 1, by omega, by go_num, HS2⟩
          case measure => simp [intOf]; omega
    · obtain rfl : k = s.size := by omega
      have HA := Lib.hid (show (bytesOf s).all (fun x => !badByte x) = true by have := HE.out; rwa [List.take_of_length_le (by rw [bytesOf_length]; omega)] at this)
      clear HE
      by_cases hz : s.size = 0
      · have Hf := Lib.hid (show textOk s = false by unfold textOk; simp [hz])
        have hz2 : s.toList = [] := toList_nil hz
        clear hz HA
        go_wp2
        go_ret
        exact ⟨by rw [Hf.out]; rfl, rfl⟩
      · have Hf := Lib.hid (show textOk s = decide ((s.size : Int) ≤ 20) by
          have : 0 < s.size := by omega
          unfold textOk; rw [HA.out]; simp [this]; omega)
        have hz3 : s.toList.isEmpty = false := by rw [List.isEmpty_eq_false_iff]; exact toList_ne hz
        have HZ3 := Lib.hid hz3; clear hz3
        have hz2 : ¬ s.toList = [] := toList_ne hz
        clear HA
        go_wp2
        go_ret
        exact ⟨by rw [Hf.out]; show Ending.returned (Value.bool (!s.toList.isEmpty && _)) = _; rw [HZ3.out]; rfl, rfl⟩

theorem range_cases (d : Dd) : (deedRange d = true ∧ isWriter d.By = false) ∨ (deedRange d = true ∧ isWriter d.By = true ∧ d.No < 1) ∨ (deedRange d = true ∧ isWriter d.By = true ∧ 1 ≤ d.No ∧ 120 < d.No) ∨
    (deedRange d = true ∧ isWriter d.By = true ∧ 1 ≤ d.No ∧ d.No ≤ 120 ∧ d.Seen < 0) ∨ (deedRange d = true ∧ isWriter d.By = true ∧ 1 ≤ d.No ∧ d.No ≤ 120 ∧ 0 ≤ d.Seen ∧ 120 < d.Seen) ∨
    (deedRange d = true ∧ isWriter d.By = true ∧ 1 ≤ d.No ∧ d.No ≤ 120 ∧ 0 ≤ d.Seen ∧ d.Seen ≤ 120 ∧ d.At < 0) ∨ (deedRange d = true ∧ isWriter d.By = true ∧ 1 ≤ d.No ∧ d.No ≤ 120 ∧ 0 ≤ d.Seen ∧ d.Seen ≤ 120 ∧ 0 ≤ d.At ∧ 200 < d.At) ∨
    (deedRange d = false ∧ isWriter d.By = true ∧ 1 ≤ d.No ∧ d.No ≤ 120 ∧ 0 ≤ d.Seen ∧ d.Seen ≤ 120 ∧ 0 ≤ d.At ∧ d.At ≤ 200) := by
  unfold deedRange
  cases isWriter d.By <;> simp <;> omega

def deedRest (d : Dd) : Int := if d.Kind = 1 then (if d.Many = 0 then (if textOk d.Text then 0 else 4) else 3) else if d.Text.size = 0 then (if d.Many < 1 ∨ 200 < d.Many then 1 else 0) else 3
theorem deedFault_split (d : Dd) (h : d.Kind = 1 ∨ d.Kind = 2) : deedFault d = if deedRange d then 1 else deedRest d := by
  unfold deedFault deedRest
  rcases h with h | h
  · rw [if_pos h, if_pos h]
  · have : ¬ d.Kind = 1 := by omega
    rw [if_neg this, if_pos h, if_neg this]
theorem rest_cases (d : Dd) (h : d.Kind = 1 ∨ d.Kind = 2) : (deedRest d = 0 ∧ d.Kind = 1 ∧ d.Many = 0 ∧ textOk d.Text = true) ∨ (deedRest d = 4 ∧ d.Kind = 1 ∧ d.Many = 0 ∧ textOk d.Text = false) ∨ (deedRest d = 3 ∧ d.Kind = 1 ∧ (d.Many != 0) = true) ∨
    (deedRest d = 3 ∧ d.Kind = 2 ∧ ¬ d.Text.size = 0) ∨ (deedRest d = 1 ∧ d.Kind = 2 ∧ d.Text.size = 0 ∧ d.Many < 1) ∨ (deedRest d = 1 ∧ d.Kind = 2 ∧ d.Text.size = 0 ∧ 1 ≤ d.Many ∧ 200 < d.Many) ∨ (deedRest d = 0 ∧ d.Kind = 2 ∧ d.Text.size = 0 ∧ 1 ≤ d.Many ∧ d.Many ≤ 200) := by
  unfold deedRest
  rcases h with h | h
  · rw [if_pos h]
    by_cases hm : d.Many = 0
    · cases ht : textOk d.Text <;> simp [h, hm]
    · simp [h, hm]
  · have h1 : ¬ d.Kind = 1 := by omega
    rw [if_neg h1]
    by_cases ht : d.Text.size = 0
    · rw [if_pos ht]
      by_cases h2 : d.Many < 1 ∨ 200 < d.Many
      · rw [if_pos h2]; simp [h, ht]; omega
      · rw [if_neg h2]; simp [h, ht]; omega
    · rw [if_neg ht]; simp [h, ht]



set_option maxRecDepth 100000 in
set_option maxHeartbeats 1000000 in
theorem DCheck_c (d : Dd) (w : World) (hs : d.Text.size ≤ maxLen) :
    Calls Tryz.prog 93 #[.agg #[.int .i64 d.Kind, .int .i64 d.By, .int .i64 d.No, .int .i64 d.Seen, .int .i64 d.At, .int .i64 d.Many, .string d.Text]] w fun e w' => e = .returned (.int .i64 (deedFault d)) ∧ Below w.heap.size w w' := by
  have HB := Lib.hid ((Below.refl w.heap.size w).alloc (Nat.le_refl _) (.cells #[.int .i64 d.Kind, .int .i64 d.By, .int .i64 d.No, .int .i64 d.Seen, .int .i64 d.At, .int .i64 d.Many, .string d.Text] 89))
  have HT := Lib.hid hs; clear hs
  by_cases hk : d.Kind = 1 ∨ d.Kind = 2
  case neg =>
    have Hf := Lib.hid (show deedFault d = 2 by unfold deedFault; rw [if_neg (by omega), if_neg (by omega)])
    have h1 : (d.Kind != 1) = true := by rw [bne_iff_ne]; omega
    have h2 : (d.Kind != 2) = true := by rw [bne_iff_ne]; omega
    clear hk
    go_enter Tryz.func93, Tryz.ntmps93
    go_wp2
    go_ret
    exact ⟨by rw [Hf.out]; rfl, HB.out⟩
  case pos =>
  have HS := Lib.hid (deedFault_split d hk)
  have HC := Lib.hid (rest_cases d hk)
  have HR := Lib.hid (range_cases d)
  obtain ⟨R, hR⟩ : ∃ R, R = deedRange d := ⟨_, rfl⟩
  rw [← hR] at HS HR; clear hR
  obtain ⟨kind, by_, no, seen, at_, many, text⟩ := d
  simp only at *
  rcases hk with rfl | rfl
  · go_enter Tryz.func93, Tryz.ntmps93
    go_upto_region 3 with fail
    go_cut [12] (fun s12 wx => s12 = .bool R ∧ wx = w.alloc (.cells #[.int .i64 1, .int .i64 by_, .int .i64 no, .int .i64 seen, .int .i64 at_, .int .i64 many, .string text] 89))
    case first =>
      rcases HR.out with ⟨hx, h⟩ | ⟨hx, h, h1⟩ | ⟨hx, h, h1, h2⟩ | ⟨hx, h, h1, h2, h3⟩ | ⟨hx, h, h1, h2, h3, h4⟩ | ⟨hx, h, h1, h2, h3, h4, h5⟩ | ⟨hx, h, h1, h2, h3, h4, h5, h6⟩ | ⟨hx, h, h1, h2, h3, h4, h5, h6⟩
      all_goals
        have HX := Lib.hid hx; clear hx
        go_wp2_with (go_at_call 82; refine (Writer_c _ _).mono ?_; rintro e w' ⟨rfl, rfl⟩)
        go_meet
        exact ⟨by (try rw [HX.out]); first | done | rfl | (congr 1; simp; omega), rfl⟩
    case rest =>
      obtain ⟨rfl, rfl⟩ := hcut
      cases R
      case true =>
        have Hf := Lib.hid (show deedFault _ = 1 from HS.out)
        clear HS HC HR
        go_wp2
        go_ret
        exact ⟨by rw [Hf.out]; rfl, HB.out⟩
      case false =>
      rcases HC.out with ⟨hr, k1, k2, k3⟩ | ⟨hr, k1, k2, k3⟩ | ⟨hr, k1, k2⟩ | ⟨hr, k1, k2⟩ | ⟨hr, k1, k2, k3⟩ | ⟨hr, k1, k2, k3, k4⟩ | ⟨hr, k1, k2, k3, k4⟩
      all_goals first | exact absurd k1 (by decide) | skip
      all_goals
        have Hf := Lib.hid (show deedFault _ = _ from (show _ = _ from HS.out).trans hr)
        clear HS HC HR hr k1
        try subst k2
        try (have z1 : text.toList = [] := toList_nil (by assumption))
        try (have z2 : ¬ text.toList = [] := toList_ne (by assumption))
        try (have z3 : (!text.toList.isEmpty) = true := toList_ne' (by assumption))
        go_wp2_with (go_at_call 113; refine (text_c _ _ HT.out).mono ?_; rintro e w' ⟨rfl, rfl⟩)
        go_ret
        exact ⟨by rw [Hf.out]; rfl, HB.out⟩
  · go_enter Tryz.func93, Tryz.ntmps93
    go_upto_region 3 with fail
    go_cut [12] (fun s12 wx => s12 = .bool R ∧ wx = w.alloc (.cells #[.int .i64 2, .int .i64 by_, .int .i64 no, .int .i64 seen, .int .i64 at_, .int .i64 many, .string text] 89))
    case first =>
      rcases HR.out with ⟨hx, h⟩ | ⟨hx, h, h1⟩ | ⟨hx, h, h1, h2⟩ | ⟨hx, h, h1, h2, h3⟩ | ⟨hx, h, h1, h2, h3, h4⟩ | ⟨hx, h, h1, h2, h3, h4, h5⟩ | ⟨hx, h, h1, h2, h3, h4, h5, h6⟩ | ⟨hx, h, h1, h2, h3, h4, h5, h6⟩
      all_goals
        have HX := Lib.hid hx; clear hx
        go_wp2_with (go_at_call 82; refine (Writer_c _ _).mono ?_; rintro e w' ⟨rfl, rfl⟩)
        go_meet
        exact ⟨by (try rw [HX.out]); first | done | rfl | (congr 1; simp; omega), rfl⟩
    case rest =>
      obtain ⟨rfl, rfl⟩ := hcut
      cases R
      case true =>
        have Hf := Lib.hid (show deedFault _ = 1 from HS.out)
        clear HS HC HR
        go_wp2
        go_ret
        exact ⟨by rw [Hf.out]; rfl, HB.out⟩
      case false =>
      rcases HC.out with ⟨hr, k1, k2, k3⟩ | ⟨hr, k1, k2, k3⟩ | ⟨hr, k1, k2⟩ | ⟨hr, k1, k2⟩ | ⟨hr, k1, k2, k3⟩ | ⟨hr, k1, k2, k3, k4⟩ | ⟨hr, k1, k2, k3, k4⟩
      all_goals first | exact absurd k1 (by decide) | skip
      all_goals
        have Hf := Lib.hid (show deedFault _ = _ from (show _ = _ from HS.out).trans hr)
        clear HS HC HR hr k1
        try subst k2
        try (have z1 : text.toList = [] := toList_nil (by assumption))
        try (have z2 : ¬ text.toList = [] := toList_ne (by assumption))
        try (have z3 : (!text.toList.isEmpty) = true := toList_ne' (by assumption))
        go_wp2_with (go_at_call 113; refine (text_c _ _ HT.out).mono ?_; rintro e w' ⟨rfl, rfl⟩)
        go_ret
        exact ⟨by rw [Hf.out]; rfl, HB.out⟩
structure DdAt (w : World) (b : Nat) (d : Dd) : Prop where
  lt : b < w.heap.size
  c0 : w.cell? ⟨b, 0, none⟩ = some (.int .i64 d.Kind)
  c1 : w.cell? ⟨b, 1, none⟩ = some (.int .i64 d.By)
  c2 : w.cell? ⟨b, 2, none⟩ = some (.int .i64 d.No)
  c3 : w.cell? ⟨b, 3, none⟩ = some (.int .i64 d.Seen)
  c4 : w.cell? ⟨b, 4, none⟩ = some (.int .i64 d.At)
  c5 : w.cell? ⟨b, 5, none⟩ = some (.int .i64 d.Many)
  c6 : w.cell? ⟨b, 6, none⟩ = some (.string d.Text)
theorem DdAt.new (w : World) (d : Dd) : DdAt (w.alloc (.cells #[.int .i64 d.Kind, .int .i64 d.By, .int .i64 d.No, .int .i64 d.Seen, .int .i64 d.At, .int .i64 d.Many, .string d.Text] 89)) w.heap.size d := by
  refine ⟨by simp, ?_, ?_, ?_, ?_, ?_, ?_, ?_⟩ <;> simp
theorem DdAt.of_block {w w' : World} {b : Nat} {d : Dd} (h : DdAt w b d) (hs : w.heap.size ≤ w'.heap.size) (hb : w'.heap[b]? = w.heap[b]?) : DdAt w' b d := by
  have k : ∀ o, w'.cell? ⟨b, o, none⟩ = w.cell? ⟨b, o, none⟩ := fun o => World.cell?_of_block (w := w) hb
  exact ⟨Nat.lt_of_lt_of_le h.lt hs, (k _).trans h.c0, (k _).trans h.c1, (k _).trans h.c2, (k _).trans h.c3, (k _).trans h.c4, (k _).trans h.c5, (k _).trans h.c6⟩
theorem DdAt.later {w w' : World} {b : Nat} {d : Dd} (h : DdAt w b d) (hl : Below w.heap.size w w') : DdAt w' b d := h.of_block hl.size (hl.block b h.lt)


def BadRel (text : ByteArray) (s3 s4 : Value) : Prop := ∃ (k : Nat) (B : Bool), k ≤ text.size ∧ s4 = .int .i64 k ∧ s3 = .bool B ∧ Hid (B = true → textOk text = false) ∧ Hid (B = false → 0 < text.size ∧ text.size ≤ 20) ∧ Hid (((bytesOf text).take k).all (fun x => !badByte x) = true ∨ B = true)

end DB
end Go.Proofs.YtneoeokfffnonabGreatDoor

/- The walks of the reference's MayDo, Do where nothing is done, and a text that comes in. -/
namespace Go.Proofs.YtneoeokfffnonabGreatDoor
namespace DB
open Go.RowKit

theorem guard_DeedW : Tryz.prog.eqGuardType Tryz.prog.depth 89 = false := by kernel_rfl
theorem neq_Deed (x y : Dd) (w : World) : (binOp .neq 89 (.agg #[.int .i64 x.Kind, .int .i64 x.By, .int .i64 x.No, .int .i64 x.Seen, .int .i64 x.At, .int .i64 x.Many, .string x.Text]) (.agg #[.int .i64 y.Kind, .int .i64 y.By, .int .i64 y.No, .int .i64 y.Seen, .int .i64 y.At, .int .i64 y.Many, .string y.Text])).run Tryz.prog w = .ok (.bool (!decide (x = y))) w := by
  have u3 := Tryz.underlying3
  have a3 := Tryz.isAgg3
  have z3 := Tryz.sizeOf3
  have u5 := Tryz.underlying9
  have a5 := Tryz.isAgg9
  have z5 := Tryz.sizeOf9
  have hS : Tryz.prog.underlying 89 = some (.struct (Tryz.prog.fieldsOf 89)) := by kernel_rfl
  have hp : Tryz.prog.stoodInHeld 89 = false := by kernel_rfl
  rw [run_neq_struct, show (10000 : Nat) = 9999 + 1 from rfl, run_equalIn_agg w 9999 89 _ _ hS hp]
  simp only [Program.fieldsOf, Tryz.underlying89]
  obtain ⟨k, b, n, s, a, m, t⟩ := x
  obtain ⟨k', b', n', s', a', m', t'⟩ := y
  have e : decide ((⟨k, b, n, s, a, m, t⟩ : Dd) = ⟨k', b', n', s', a', m', t'⟩) = (decide (k = k') && decide (b = b') && decide (n = n') && decide (s = s') && decide (a = a') && decide (m = m') && decide (t = t')) := by
    simp only [Dd.mk.injEq, Bool.decide_and, Bool.and_assoc]
  rw [e]
  have ht : (t.toList = t'.toList) ↔ t = t' := ⟨fun h => ba_ext (by rwa [ByteArray.toList_eq, ByteArray.toList_eq] at h), fun h => by rw [h]⟩
  go_simp
  try simp only [ht]
  repeat' split
  all_goals simp_all

theorem eql_Deed (x y : Dd) (w : World) : (binOp .eql 89 (.agg #[.int .i64 x.Kind, .int .i64 x.By, .int .i64 x.No, .int .i64 x.Seen, .int .i64 x.At, .int .i64 x.Many, .string x.Text]) (.agg #[.int .i64 y.Kind, .int .i64 y.By, .int .i64 y.No, .int .i64 y.Seen, .int .i64 y.At, .int .i64 y.Many, .string y.Text])).run Tryz.prog w = .ok (.bool (decide (x = y))) w := by
  have u3 := Tryz.underlying3
  have a3 := Tryz.isAgg3
  have z3 := Tryz.sizeOf3
  have u5 := Tryz.underlying9
  have a5 := Tryz.isAgg9
  have z5 := Tryz.sizeOf9
  have hS : Tryz.prog.underlying 89 = some (.struct (Tryz.prog.fieldsOf 89)) := by kernel_rfl
  have hp : Tryz.prog.stoodInHeld 89 = false := by kernel_rfl
  rw [run_eql_struct, show (10000 : Nat) = 9999 + 1 from rfl, run_equalIn_agg w 9999 89 _ _ hS hp]
  simp only [Program.fieldsOf, Tryz.underlying89]
  obtain ⟨k, b, n, s, a, m, t⟩ := x
  obtain ⟨k', b', n', s', a', m', t'⟩ := y
  have e : decide ((⟨k, b, n, s, a, m, t⟩ : Dd) = ⟨k', b', n', s', a', m', t'⟩) = (decide (k = k') && decide (b = b') && decide (n = n') && decide (s = s') && decide (a = a') && decide (m = m') && decide (t = t')) := by
    simp only [Dd.mk.injEq, Bool.decide_and, Bool.and_assoc]
  rw [e]
  have ht : (t.toList = t'.toList) ↔ t = t' := ⟨fun h => ba_ext (by rwa [ByteArray.toList_eq, ByteArray.toList_eq] at h), fun h => by rw [h]⟩
  go_simp
  try simp only [ht]
  repeat' split
  all_goals simp_all

end DB
end Go.Proofs.YtneoeokfffnonabGreatDoor
