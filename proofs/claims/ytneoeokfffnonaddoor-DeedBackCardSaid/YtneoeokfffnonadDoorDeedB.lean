/- Printed by gendeed.py: what the walks of deeds need (the same texts as elsewhere). -/
import Derived.Test.YtneoeokfffnonadDoorProg
import Derived.Test.YtneoeokfffnonadDoorPlainE
import Derived.Shelf.Abstract
import Derived.StillTailTactics
import Derived.Deep.DeepCutAuto
import Derived.WalkSpells
import Derived.Laws.StructEq
set_option linter.unusedVariables false
set_option linter.unusedSimpArgs false
namespace Go.Proofs.YtneoeokfffnonadDoor
open Go.RowKit
theorem Writer_c (x : Int) (w : World) :
    Calls Tryd.prog 20 #[.int .i64 x] w fun e w' => e = .returned (.bool (isWriter x)) ∧ w' = w := by
  go_enter Tryd.func20, Tryd.ntmps20
  by_cases h1 : 0 ≤ x <;> by_cases h2 : x < 4
  all_goals (go_wp2; go_ret; exact ⟨by simp [isWriter, h1, h2], rfl⟩)

theorem toList_nil {s : ByteArray} (h : s.size = 0) : s.toList = [] := by
  rw [ByteArray.toList_eq]; exact List.eq_nil_of_length_eq_zero (by simpa using h)
theorem toList_ne {s : ByteArray} (h : ¬ s.size = 0) : ¬ s.toList = [] := by
  rw [ByteArray.toList_eq]; intro e; apply h; simpa using congrArg List.length e

theorem toList_ne' {s : ByteArray} (h : ¬ s.size = 0) : (!s.toList.isEmpty) = true := by
  have := toList_ne h
  simpa [List.isEmpty_iff] using this

theorem bytesOf_get (s : ByteArray) (k : Nat) (h : k < s.size) : (bytesOf s)[k]? = some (s[k].toNat : Int) := by
  unfold bytesOf
  rw [List.getElem?_map]
  have e : s.data.toList[k]? = some s[k] := by
    rw [List.getElem?_eq_getElem (by simpa using h)]; rfl
  rw [e]; rfl

theorem all_snoc (s : ByteArray) (k : Nat) (h : k < s.size) : ((bytesOf s).take (k + 1)).all (fun x => !badByte x) = (((bytesOf s).take k).all (fun x => !badByte x) && !badByte (s[k].toNat : Int)) := by
  have hl : k < (bytesOf s).length := by rw [bytesOf_length]; exact h
  have e : (bytesOf s)[k] = (s[k].toNat : Int) := by
    have := bytesOf_get s k h; rw [List.getElem?_eq_getElem hl] at this; exact Option.some.inj this
  rw [List.take_succ_eq_append_getElem hl, List.all_append, e]; simp

theorem all_no (s : ByteArray) (k : Nat) (h : k < s.size) (hb : badByte (s[k].toNat : Int) = true) : textOk s = false := by
  have : (bytesOf s).all (fun x => !badByte x) = false := by
    rw [List.all_eq_false]
    refine ⟨_, List.mem_of_getElem? (bytesOf_get s k h), by simp [hb]⟩
  unfold textOk; rw [this]; simp

set_option maxHeartbeats 400000 in
theorem text_c (s : ByteArray) (w : World) (hs : s.size ≤ maxLen) :
    Calls Tryd.prog 21 #[.string s] w fun e w' => e = .returned (.bool (textOk s)) ∧ w' = w := by
  unfold maxLen at hs
  go_enter Tryd.func21, Tryd.ntmps21
  go_wp2
  go_loop [3, 6] (fun i j => ∃ k : Nat, k ≤ s.size ∧ j = .int .i64 k ∧ Hid (((bytesOf s).take k).all (fun x => !badByte x) = true)) (fun _ j => s.size - (intOf j).toNat)
  case atStart => exact ⟨0, Nat.zero_le _, rfl, Lib.hid rfl⟩
  case round =>
    obtain ⟨k, hk, rfl, HE⟩ := hrel
    by_cases hlt : k < s.size
    · have HS := Lib.hid (all_snoc s k hlt)
      have HN := Lib.hid (all_no s k hlt)
      by_cases h1 : (s[k].toNat : Int) < 32
      · have HN2 := Lib.hid (HN.out (by simp [badByte, h1]))
        go_wp2
        go_ret
        exact ⟨by rw [HN2.out]; rfl, rfl⟩
      · by_cases h2 : 126 < (s[k].toNat : Int)
        · have HN2 := Lib.hid (HN.out (by simp [badByte, h2]))
          go_wp2
          go_ret
          exact ⟨by rw [HN2.out]; rfl, rfl⟩
        · have HS2 := Lib.hid (show ((bytesOf s).take (k + 1)).all (fun x => !badByte x) = true by rw [HS.out, HE.out]; simp [badByte, h1, h2])
          clear HS HN HE
          go_wp2
          go_round
          case rel => exact ⟨k + 1, by omega, by go_num, HS2⟩
          case measure => simp [intOf]; omega
    · obtain rfl : k = s.size := by omega
      have HA := Lib.hid (show (bytesOf s).all (fun x => !badByte x) = true by have := HE.out; rwa [List.take_of_length_le (by rw [bytesOf_length]; omega)] at this)
      clear HE
      by_cases hz : s.size = 0
      · have Hf := Lib.hid (show textOk s = false by unfold textOk; simp [hz])
        have hz2 : s.toList = [] := toList_nil hz
        clear hz HA
        go_wp2
        go_ret
        exact ⟨by rw [Hf.out]; rfl, rfl⟩
      · have Hf := Lib.hid (show textOk s = decide ((s.size : Int) ≤ 20) by
          have : 0 < s.size := by omega
          unfold textOk; rw [HA.out]; simp [this]; omega)
        have hz3 : s.toList.isEmpty = false := by rw [List.isEmpty_eq_false_iff]; exact toList_ne hz
        have HZ3 := Lib.hid hz3; clear hz3
        have hz2 : ¬ s.toList = [] := toList_ne hz
        clear HA
        go_wp2
        go_ret
        exact ⟨by rw [Hf.out]; show Ending.returned (Value.bool (!s.toList.isEmpty && _)) = _; rw [HZ3.out]; rfl, rfl⟩

theorem range_cases (d : Dd) : (deedRange d = true ∧ isWriter d.By = false) ∨ (deedRange d = true ∧ isWriter d.By = true ∧ d.No < 1) ∨ (deedRange d = true ∧ isWriter d.By = true ∧ 1 ≤ d.No ∧ 120 < d.No) ∨
    (deedRange d = true ∧ isWriter d.By = true ∧ 1 ≤ d.No ∧ d.No ≤ 120 ∧ d.Seen < 0) ∨ (deedRange d = true ∧ isWriter d.By = true ∧ 1 ≤ d.No ∧ d.No ≤ 120 ∧ 0 ≤ d.Seen ∧ 120 < d.Seen) ∨
    (deedRange d = true ∧ isWriter d.By = true ∧ 1 ≤ d.No ∧ d.No ≤ 120 ∧ 0 ≤ d.Seen ∧ d.Seen ≤ 120 ∧ d.At < 0) ∨ (deedRange d = true ∧ isWriter d.By = true ∧ 1 ≤ d.No ∧ d.No ≤ 120 ∧ 0 ≤ d.Seen ∧ d.Seen ≤ 120 ∧ 0 ≤ d.At ∧ 200 < d.At) ∨
    (deedRange d = false ∧ isWriter d.By = true ∧ 1 ≤ d.No ∧ d.No ≤ 120 ∧ 0 ≤ d.Seen ∧ d.Seen ≤ 120 ∧ 0 ≤ d.At ∧ d.At ≤ 200) := by
  unfold deedRange
  cases isWriter d.By <;> simp <;> omega

def deedRest (d : Dd) : Int := if d.Kind = 1 then (if d.Many = 0 then (if textOk d.Text then 0 else 4) else 3) else if d.Text.size = 0 then (if d.Many < 1 ∨ 200 < d.Many then 1 else 0) else 3
theorem deedFault_split (d : Dd) (h : d.Kind = 1 ∨ d.Kind = 2) : deedFault d = if deedRange d then 1 else deedRest d := by
  unfold deedFault deedRest
  rcases h with h | h
  · rw [if_pos h, if_pos h]
  · have : ¬ d.Kind = 1 := by omega
    rw [if_neg this, if_pos h, if_neg this]
theorem rest_cases (d : Dd) (h : d.Kind = 1 ∨ d.Kind = 2) : (deedRest d = 0 ∧ d.Kind = 1 ∧ d.Many = 0 ∧ textOk d.Text = true) ∨ (deedRest d = 4 ∧ d.Kind = 1 ∧ d.Many = 0 ∧ textOk d.Text = false) ∨ (deedRest d = 3 ∧ d.Kind = 1 ∧ (d.Many != 0) = true) ∨
    (deedRest d = 3 ∧ d.Kind = 2 ∧ ¬ d.Text.size = 0) ∨ (deedRest d = 1 ∧ d.Kind = 2 ∧ d.Text.size = 0 ∧ d.Many < 1) ∨ (deedRest d = 1 ∧ d.Kind = 2 ∧ d.Text.size = 0 ∧ 1 ≤ d.Many ∧ 200 < d.Many) ∨ (deedRest d = 0 ∧ d.Kind = 2 ∧ d.Text.size = 0 ∧ 1 ≤ d.Many ∧ d.Many ≤ 200) := by
  unfold deedRest
  rcases h with h | h
  · rw [if_pos h]
    by_cases hm : d.Many = 0
    · cases ht : textOk d.Text <;> simp [h, hm]
    · simp [h, hm]
  · have h1 : ¬ d.Kind = 1 := by omega
    rw [if_neg h1]
    by_cases ht : d.Text.size = 0
    · rw [if_pos ht]
      by_cases h2 : d.Many < 1 ∨ 200 < d.Many
      · rw [if_pos h2]; simp [h, ht]; omega
      · rw [if_neg h2]; simp [h, ht]; omega
    · rw [if_neg ht]; simp [h, ht]



set_option maxRecDepth 100000 in
set_option maxHeartbeats 1000000 in
theorem DCheck_c (d : Dd) (w : World) (hs : d.Text.size ≤ maxLen) :
    Calls Tryd.prog 11 #[.agg #[.int .i64 d.Kind, .int .i64 d.By, .int .i64 d.No, .int .i64 d.Seen, .int .i64 d.At, .int .i64 d.Many, .string d.Text]] w fun e w' => e = .returned (.int .i64 (deedFault d)) ∧ Below w.heap.size w w' := by
  have HB := Lib.hid ((Below.refl w.heap.size w).alloc (Nat.le_refl _) (.cells #[.int .i64 d.Kind, .int .i64 d.By, .int .i64 d.No, .int .i64 d.Seen, .int .i64 d.At, .int .i64 d.Many, .string d.Text] 23))
  have HT := Lib.hid hs; clear hs
  by_cases hk : d.Kind = 1 ∨ d.Kind = 2
  case neg =>
    have Hf := Lib.hid (show deedFault d = 2 by unfold deedFault; rw [if_neg (by omega), if_neg (by omega)])
    have h1 : (d.Kind != 1) = true := by rw [bne_iff_ne]; omega
    have h2 : (d.Kind != 2) = true := by rw [bne_iff_ne]; omega
    clear hk
    go_enter Tryd.func11, Tryd.ntmps11
    go_wp2
    go_ret
    exact ⟨by rw [Hf.out]; rfl, HB.out⟩
  case pos =>
  have HS := Lib.hid (deedFault_split d hk)
  have HC := Lib.hid (rest_cases d hk)
  have HR := Lib.hid (range_cases d)
  obtain ⟨R, hR⟩ : ∃ R, R = deedRange d := ⟨_, rfl⟩
  rw [← hR] at HS HR; clear hR
  obtain ⟨kind, by_, no, seen, at_, many, text⟩ := d
  simp only at *
  rcases hk with rfl | rfl
  · go_enter Tryd.func11, Tryd.ntmps11
    go_upto_region 3 with fail
    go_cut [12] (fun s12 wx => s12 = .bool R ∧ wx = w.alloc (.cells #[.int .i64 1, .int .i64 by_, .int .i64 no, .int .i64 seen, .int .i64 at_, .int .i64 many, .string text] 23))
    case first =>
      rcases HR.out with ⟨hx, h⟩ | ⟨hx, h, h1⟩ | ⟨hx, h, h1, h2⟩ | ⟨hx, h, h1, h2, h3⟩ | ⟨hx, h, h1, h2, h3, h4⟩ | ⟨hx, h, h1, h2, h3, h4, h5⟩ | ⟨hx, h, h1, h2, h3, h4, h5, h6⟩ | ⟨hx, h, h1, h2, h3, h4, h5, h6⟩
      all_goals
        have HX := Lib.hid hx; clear hx
        go_wp2_with (go_at_call 20; refine (Writer_c _ _).mono ?_; rintro e w' ⟨rfl, rfl⟩)
        go_meet
        exact ⟨by (try rw [HX.out]); first | done | rfl | (congr 1; simp; omega), rfl⟩
    case rest =>
      obtain ⟨rfl, rfl⟩ := hcut
      cases R
      case true =>
        have Hf := Lib.hid (show deedFault _ = 1 from HS.out)
        clear HS HC HR
        go_wp2
        go_ret
        exact ⟨by rw [Hf.out]; rfl, HB.out⟩
      case false =>
      rcases HC.out with ⟨hr, k1, k2, k3⟩ | ⟨hr, k1, k2, k3⟩ | ⟨hr, k1, k2⟩ | ⟨hr, k1, k2⟩ | ⟨hr, k1, k2, k3⟩ | ⟨hr, k1, k2, k3, k4⟩ | ⟨hr, k1, k2, k3, k4⟩
      all_goals first | exact absurd k1 (by decide) | skip
      all_goals
        have Hf := Lib.hid (show deedFault _ = _ from (show _ = _ from HS.out).trans hr)
        clear HS HC HR hr k1
        try subst k2
        try (have z1 : text.toList = [] := toList_nil (by assumption))
        try (have z2 : ¬ text.toList = [] := toList_ne (by assumption))
        try (have z3 : (!text.toList.isEmpty) = true := toList_ne' (by assumption))
        go_wp2_with (go_at_call 21; refine (text_c _ _ HT.out).mono ?_; rintro e w' ⟨rfl, rfl⟩)
        go_ret
        exact ⟨by rw [Hf.out]; rfl, HB.out⟩
  · go_enter Tryd.func11, Tryd.ntmps11
    go_upto_region 3 with fail
    go_cut [12] (fun s12 wx => s12 = .bool R ∧ wx = w.alloc (.cells #[.int .i64 2, .int .i64 by_, .int .i64 no, .int .i64 seen, .int .i64 at_, .int .i64 many, .string text] 23))
    case first =>
      rcases HR.out with ⟨hx, h⟩ | ⟨hx, h, h1⟩ | ⟨hx, h, h1, h2⟩ | ⟨hx, h, h1, h2, h3⟩ | ⟨hx, h, h1, h2, h3, h4⟩ | ⟨hx, h, h1, h2, h3, h4, h5⟩ | ⟨hx, h, h1, h2, h3, h4, h5, h6⟩ | ⟨hx, h, h1, h2, h3, h4, h5, h6⟩
      all_goals
        have HX := Lib.hid hx; clear hx
        go_wp2_with (go_at_call 20; refine (Writer_c _ _).mono ?_; rintro e w' ⟨rfl, rfl⟩)
        go_meet
        exact ⟨by (try rw [HX.out]); first | done | rfl | (congr 1; simp; omega), rfl⟩
    case rest =>
      obtain ⟨rfl, rfl⟩ := hcut
      cases R
      case true =>
        have Hf := Lib.hid (show deedFault _ = 1 from HS.out)
        clear HS HC HR
        go_wp2
        go_ret
        exact ⟨by rw [Hf.out]; rfl, HB.out⟩
      case false =>
      rcases HC.out with ⟨hr, k1, k2, k3⟩ | ⟨hr, k1, k2, k3⟩ | ⟨hr, k1, k2⟩ | ⟨hr, k1, k2⟩ | ⟨hr, k1, k2, k3⟩ | ⟨hr, k1, k2, k3, k4⟩ | ⟨hr, k1, k2, k3, k4⟩
      all_goals first | exact absurd k1 (by decide) | skip
      all_goals
        have Hf := Lib.hid (show deedFault _ = _ from (show _ = _ from HS.out).trans hr)
        clear HS HC HR hr k1
        try subst k2
        try (have z1 : text.toList = [] := toList_nil (by assumption))
        try (have z2 : ¬ text.toList = [] := toList_ne (by assumption))
        try (have z3 : (!text.toList.isEmpty) = true := toList_ne' (by assumption))
        go_wp2_with (go_at_call 21; refine (text_c _ _ HT.out).mono ?_; rintro e w' ⟨rfl, rfl⟩)
        go_ret
        exact ⟨by rw [Hf.out]; rfl, HB.out⟩
structure DdAt (w : World) (b : Nat) (d : Dd) : Prop where
  lt : b < w.heap.size
  c0 : w.cell? ⟨b, 0, none⟩ = some (.int .i64 d.Kind)
  c1 : w.cell? ⟨b, 1, none⟩ = some (.int .i64 d.By)
  c2 : w.cell? ⟨b, 2, none⟩ = some (.int .i64 d.No)
  c3 : w.cell? ⟨b, 3, none⟩ = some (.int .i64 d.Seen)
  c4 : w.cell? ⟨b, 4, none⟩ = some (.int .i64 d.At)
  c5 : w.cell? ⟨b, 5, none⟩ = some (.int .i64 d.Many)
  c6 : w.cell? ⟨b, 6, none⟩ = some (.string d.Text)
theorem DdAt.new (w : World) (d : Dd) : DdAt (w.alloc (.cells #[.int .i64 d.Kind, .int .i64 d.By, .int .i64 d.No, .int .i64 d.Seen, .int .i64 d.At, .int .i64 d.Many, .string d.Text] 23)) w.heap.size d := by
  refine ⟨by simp, ?_, ?_, ?_, ?_, ?_, ?_, ?_⟩ <;> simp
theorem DdAt.of_block {w w' : World} {b : Nat} {d : Dd} (h : DdAt w b d) (hs : w.heap.size ≤ w'.heap.size) (hb : w'.heap[b]? = w.heap[b]?) : DdAt w' b d := by
  have k : ∀ o, w'.cell? ⟨b, o, none⟩ = w.cell? ⟨b, o, none⟩ := fun o => World.cell?_of_block (w := w) hb
  exact ⟨Nat.lt_of_lt_of_le h.lt hs, (k _).trans h.c0, (k _).trans h.c1, (k _).trans h.c2, (k _).trans h.c3, (k _).trans h.c4, (k _).trans h.c5, (k _).trans h.c6⟩
theorem DdAt.later {w w' : World} {b : Nat} {d : Dd} (h : DdAt w b d) (hl : Below w.heap.size w w') : DdAt w' b d := h.of_block hl.size (hl.block b h.lt)

theorem IsWriter_c (x : Int) (w : World) :
    Calls Tryd.prog 22 #[.int .i64 x] w fun e w' => e = .returned (.bool (isWriter x)) ∧ w' = w := by
  go_enter Tryd.func22, Tryd.ntmps22
  by_cases h1 : 0 ≤ x <;> by_cases h2 : x < 4
  all_goals (go_wp2; go_ret; exact ⟨by simp [isWriter, h1, h2], rfl⟩)

def BadRel (text : ByteArray) (s3 s4 : Value) : Prop := ∃ (k : Nat) (B : Bool), k ≤ text.size ∧ s4 = .int .i64 k ∧ s3 = .bool B ∧ Hid (B = true → textOk text = false) ∧ Hid (B = false → 0 < text.size ∧ text.size ≤ 20) ∧ Hid (((bytesOf text).take k).all (fun x => !badByte x) = true ∨ B = true)

set_option maxRecDepth 100000 in
set_option maxHeartbeats 2000000 in
theorem DeedFault_c (d : Dd) (w : World) (hs : d.Text.size ≤ maxLen) :
    Calls Tryd.prog 12 #[.agg #[.int .i64 d.Kind, .int .i64 d.By, .int .i64 d.No, .int .i64 d.Seen, .int .i64 d.At, .int .i64 d.Many, .string d.Text]] w fun e w' => e = .returned (.int .i64 (deedFault d)) ∧ Below w.heap.size w w' := by
  have HB := Lib.hid ((Below.refl w.heap.size w).alloc (Nat.le_refl _) (.cells #[.int .i64 d.Kind, .int .i64 d.By, .int .i64 d.No, .int .i64 d.Seen, .int .i64 d.At, .int .i64 d.Many, .string d.Text] 23))
  have HT := Lib.hid hs
  by_cases hk : d.Kind = 1 ∨ d.Kind = 2
  case neg =>
    have Hf := Lib.hid (show deedFault d = 2 by unfold deedFault; rw [if_neg (by omega), if_neg (by omega)])
    have h1 : (d.Kind != 1) = true := by rw [bne_iff_ne]; omega
    have h2 : (d.Kind != 2) = true := by rw [bne_iff_ne]; omega
    clear hk hs
    go_enter Tryd.func12, Tryd.ntmps12
    go_wp2
    go_ret
    exact ⟨by rw [Hf.out]; rfl, HB.out⟩
  case pos =>
  have HS := Lib.hid (deedFault_split d hk)
  have HC := Lib.hid (rest_cases d hk)
  have HR := Lib.hid (range_cases d)
  obtain ⟨R, hR⟩ : ∃ R, R = deedRange d := ⟨_, rfl⟩
  rw [← hR] at HS HR; clear hR
  obtain ⟨kind, by_, no, seen, at_, many, text⟩ := d
  simp only at *
  have HMX := Lib.hid hs; clear hs
  rcases hk with rfl | rfl
  · go_enter Tryd.func12, Tryd.ntmps12
    go_upto_region 3 with fail
    go_cut [46] (fun s46 wx => s46 = .bool R ∧ wx = w.alloc (.cells #[.int .i64 1, .int .i64 by_, .int .i64 no, .int .i64 seen, .int .i64 at_, .int .i64 many, .string text] 23))
    case first =>
      rcases HR.out with ⟨hx, h⟩ | ⟨hx, h, h1⟩ | ⟨hx, h, h1, h2⟩ | ⟨hx, h, h1, h2, h3⟩ | ⟨hx, h, h1, h2, h3, h4⟩ | ⟨hx, h, h1, h2, h3, h4, h5⟩ | ⟨hx, h, h1, h2, h3, h4, h5, h6⟩ | ⟨hx, h, h1, h2, h3, h4, h5, h6⟩
      all_goals
        have HX := Lib.hid hx; clear hx
        go_wp2_with (go_at_call 22; refine (IsWriter_c _ _).mono ?_; rintro e w' ⟨rfl, rfl⟩)
        go_meet
        exact ⟨by (try rw [HX.out]); first | done | rfl | (congr 1; simp; omega), rfl⟩
    case rest =>
    obtain ⟨rfl, rfl⟩ := hcut
    cases R
    case true =>
      have Hf := Lib.hid (show deedFault _ = 1 from HS.out)
      clear HS HC HR
      go_wp2
      go_ret
      exact ⟨by rw [Hf.out]; rfl, HB.out⟩
    case false =>
    have htm : text.size ≤ 9223372036854775807 := by have := HMX.out; unfold maxLen at this; omega
    by_cases hm : many = 0
    case neg =>
      have hmB : (many != 0) = true := by simpa using hm
      have Hf := Lib.hid (show deedFault _ = 3 from (show _ = _ from HS.out).trans (by rcases HC.out with ⟨hr, _, h, _⟩ | ⟨hr, _, h, _⟩ | ⟨hr, _⟩ | ⟨hr, _⟩ | ⟨_, h, _⟩ | ⟨_, h, _⟩ | ⟨_, h, _⟩ <;> first | exact hr | exact absurd h hm | exact absurd h (by decide)))
      clear HS HC HR hm
      go_wp2
      go_ret
      exact ⟨by rw [Hf.out]; rfl, HB.out⟩
    subst hm
    have HTX := Lib.hid (show ∀ b, textOk text = b → deedFault _ = (if b then 0 else 4) from fun b hb => (show _ = _ from HS.out).trans (by
      rcases HC.out with ⟨hr, _, _, h⟩ | ⟨hr, _, _, h⟩ | ⟨_, _, h⟩ | ⟨_, h, _⟩ | ⟨_, h, _⟩ | ⟨_, h, _⟩ | ⟨_, h, _⟩
      · rw [hr, ← hb, h]; rfl
      · rw [hr, ← hb, h]; rfl
      · cases h
      · exact absurd h (by decide)
      · exact absurd h (by decide)
      · exact absurd h (by decide)
      · exact absurd h (by decide)))
    clear HS HC HR
    have hall : ∀ B0 : Bool, B0 = (decide ((text.size : Int) < 1) || decide (20 < (text.size : Int))) → (B0 = true → textOk text = false) ∧ (B0 = false → 0 < text.size ∧ text.size ≤ 20) := by
      intro B0 hB
      subst hB
      constructor
      · intro h; unfold textOk; simp at h; rcases h with h | h <;> simp <;> omega
      · intro h; simp at h; omega
    go_upto_region 8 with fail
    go_cut [3] (fun s3 wx => (∃ B0 : Bool, s3 = .bool B0 ∧ (B0 = true → textOk text = false) ∧ (B0 = false → 0 < text.size ∧ text.size ≤ 20)) ∧ wx = w.alloc (.cells #[.int .i64 1, .int .i64 by_, .int .i64 no, .int .i64 seen, .int .i64 at_, .int .i64 0, .string text] 23))
    case first =>
      by_cases hs1 : text.size < 1
      · have hh := (hall true (by simp; omega)).1
        go_wp2
        go_meet
        exact ⟨⟨true, rfl, fun _ => hh trivial, fun h => by cases h⟩, rfl⟩
      · have hd1 : decide ((text.size : Int) < 1) = false := by simp; omega
        by_cases hs2 : 20 < text.size
        · have hd2 : decide (20 < (text.size : Int)) = true := by simp; omega
          have hh := (hall true (by rw [hd1, hd2]; rfl)).1
          go_wp2
          go_meet
          exact ⟨⟨true, rfl, fun _ => hh trivial, fun h => by cases h⟩, rfl⟩
        · have hd2 : decide (20 < (text.size : Int)) = false := by simp; omega
          have hh := (hall false (by rw [hd1, hd2]; rfl)).2
          go_wp2
          go_meet
          exact ⟨⟨false, rfl, fun h => (by cases h), fun _ => hh trivial⟩, rfl⟩
    case rest =>
      obtain ⟨⟨B0, rfl, hbA, hbB⟩, rfl⟩ := hcut
      have HBA := Lib.hid hbA; have HBB := Lib.hid hbB
      clear hall hbA hbB
      go_wp2
      clear htm
      go_loop [3, 4] (fun s3 s4 => BadRel text s3 s4) (fun s3 s4 => text.size - (intOf s4).toNat)
      case atStart => exact ⟨0, B0, Nat.zero_le _, rfl, rfl, HBA, HBB, Lib.hid (.inl rfl)⟩
      case round =>
        obtain ⟨k, B, hk, rfl, rfl, HA, HBb, HE⟩ := hrel
        cases B
        case true =>
          have Hf := Lib.hid (HTX.out false (HA.out rfl))
          clear HE HA
          go_wp2
          all_goals
            go_ret
            exact ⟨by rw [Hf.out]; rfl, HB.out⟩
        case false =>
          have hq20 : text.size ≤ 20 := (HBb.out rfl).2
          have HE1 := Lib.hid (show ((bytesOf text).take k).all (fun x => !badByte x) = true from HE.out.resolve_right (by simp))
          by_cases hlt : k < text.size
          · have HS := Lib.hid (all_snoc text k hlt)
            have HN := Lib.hid (all_no text k hlt)
            have hltB : decide ((k : Int) < text.size) = true := by simp; omega
            by_cases h1 : (text[k].toNat : Int) < 32
            · have HN2 := Lib.hid (HN.out (by simp [badByte, h1]))
              clear HS HN HE HE1 HA
              go_wp2
              exact ⟨by unfold BadRel; exact ⟨k + 1, true, by omega, by go_num, rfl, Lib.hid (fun _ => HN2.out), Lib.hid (fun h => by cases h), Lib.hid (.inr rfl)⟩, by simp [intOf]; omega⟩
            · by_cases h2 : 126 < (text[k].toNat : Int)
              · have HN2 := Lib.hid (HN.out (by simp [badByte, h2]))
                have h1B : decide ((text[k].toNat : Int) < 32) = false := by simpa using h1
                have h2B : decide (126 < (text[k].toNat : Int)) = true := by simpa using h2
                clear HS HN HE HE1 HA
                go_wp2
                exact ⟨by unfold BadRel; exact ⟨k + 1, true, by omega, by go_num, by first | rfl | simp [h2], Lib.hid (fun _ => HN2.out), Lib.hid (fun h => by cases h), Lib.hid (.inr rfl)⟩, by simp [intOf]; omega⟩
              · have HS2 := Lib.hid (show ((bytesOf text).take (k + 1)).all (fun x => !badByte x) = true by rw [HS.out, HE1.out]; simp [badByte, h1, h2])
                have h2B : decide (126 < (text[k].toNat : Int)) = false := by simpa using h2
                have h1B : decide ((text[k].toNat : Int) < 32) = false := by simpa using h1
                clear HS HN HE HE1
                go_wp2
                exact ⟨by unfold BadRel; exact ⟨k + 1, false, by omega, by go_num, by first | rfl | simp [h2], HA, HBb, Lib.hid (.inl HS2.out)⟩, by simp [intOf]; omega⟩
          · have hltB : decide ((k : Int) < text.size) = false := by simp; omega
            have hok : textOk text = true := by
              obtain ⟨q1, q2⟩ := HBb.out rfl
              have := HE1.out
              rw [List.take_of_length_le (by rw [bytesOf_length]; omega)] at this
              unfold textOk; rw [this]; simp; omega
            have Hf := Lib.hid (HTX.out true hok)
            clear hok HE HE1 HA
            go_wp2
            go_ret
            exact ⟨by rw [Hf.out]; rfl, HB.out⟩
  · go_enter Tryd.func12, Tryd.ntmps12
    go_upto_region 3 with fail
    go_cut [46] (fun s46 wx => s46 = .bool R ∧ wx = w.alloc (.cells #[.int .i64 2, .int .i64 by_, .int .i64 no, .int .i64 seen, .int .i64 at_, .int .i64 many, .string text] 23))
    case first =>
      rcases HR.out with ⟨hx, h⟩ | ⟨hx, h, h1⟩ | ⟨hx, h, h1, h2⟩ | ⟨hx, h, h1, h2, h3⟩ | ⟨hx, h, h1, h2, h3, h4⟩ | ⟨hx, h, h1, h2, h3, h4, h5⟩ | ⟨hx, h, h1, h2, h3, h4, h5, h6⟩ | ⟨hx, h, h1, h2, h3, h4, h5, h6⟩
      all_goals
        have HX := Lib.hid hx; clear hx
        go_wp2_with (go_at_call 22; refine (IsWriter_c _ _).mono ?_; rintro e w' ⟨rfl, rfl⟩)
        go_meet
        exact ⟨by (try rw [HX.out]); first | done | rfl | (congr 1; simp; omega), rfl⟩
    case rest =>
    obtain ⟨rfl, rfl⟩ := hcut
    cases R
    case true =>
      have Hf := Lib.hid (show deedFault _ = 1 from HS.out)
      clear HS HC HR
      go_wp2
      go_ret
      exact ⟨by rw [Hf.out]; rfl, HB.out⟩
    case false =>
    rcases HC.out with ⟨hr, k1, k2, k3⟩ | ⟨hr, k1, k2, k3⟩ | ⟨hr, k1, k2⟩ | ⟨hr, k1, k2⟩ | ⟨hr, k1, k2, k3⟩ | ⟨hr, k1, k2, k3, k4⟩ | ⟨hr, k1, k2, k3, k4⟩
    all_goals first | exact absurd k1 (by decide) | skip
    all_goals
      have Hf := Lib.hid (show deedFault _ = _ from (show _ = _ from HS.out).trans hr)
      clear HS HC HR hr k1
      try (have z1 : text.toList = [] := toList_nil (by assumption))
      try (have z2 : ¬ text.toList = [] := toList_ne (by assumption))
      try (have z3 : (!text.toList.isEmpty) = true := toList_ne' (by assumption))
      go_wp2
      go_ret
      exact ⟨by rw [Hf.out]; rfl, HB.out⟩
end Go.Proofs.YtneoeokfffnonadDoor

/- The walks of the reference's MayDo, Do where nothing is done, and a text that comes in. -/
namespace Go.Proofs.YtneoeokfffnonadDoor
open Go.RowKit

theorem guard_DeedW : Tryd.prog.eqGuardType Tryd.prog.depth 23 = false := by kernel_rfl
theorem neq_Deed (x y : Dd) (w : World) : (binOp .neq 23 (.agg #[.int .i64 x.Kind, .int .i64 x.By, .int .i64 x.No, .int .i64 x.Seen, .int .i64 x.At, .int .i64 x.Many, .string x.Text]) (.agg #[.int .i64 y.Kind, .int .i64 y.By, .int .i64 y.No, .int .i64 y.Seen, .int .i64 y.At, .int .i64 y.Many, .string y.Text])).run Tryd.prog w = .ok (.bool (!decide (x = y))) w := by
  have u3 := Tryd.underlying3
  have a3 := Tryd.isAgg3
  have z3 := Tryd.sizeOf3
  have u5 := Tryd.underlying9
  have a5 := Tryd.isAgg9
  have z5 := Tryd.sizeOf9
  have hS : Tryd.prog.underlying 23 = some (.struct (Tryd.prog.fieldsOf 23)) := by kernel_rfl
  have hp : Tryd.prog.stoodInHeld 23 = false := by kernel_rfl
  rw [run_neq_struct, show (10000 : Nat) = 9999 + 1 from rfl, run_equalIn_agg w 9999 23 _ _ hS hp]
  simp only [Program.fieldsOf, Tryd.underlying23]
  obtain ⟨k, b, n, s, a, m, t⟩ := x
  obtain ⟨k', b', n', s', a', m', t'⟩ := y
  have e : decide ((⟨k, b, n, s, a, m, t⟩ : Dd) = ⟨k', b', n', s', a', m', t'⟩) = (decide (k = k') && decide (b = b') && decide (n = n') && decide (s = s') && decide (a = a') && decide (m = m') && decide (t = t')) := by
    simp only [Dd.mk.injEq, Bool.decide_and, Bool.and_assoc]
  rw [e]
  have ht : (t.toList = t'.toList) ↔ t = t' := ⟨fun h => ba_ext (by rwa [ByteArray.toList_eq, ByteArray.toList_eq] at h), fun h => by rw [h]⟩
  go_simp
  try simp only [ht]
  repeat' split
  all_goals simp_all

theorem eql_Deed (x y : Dd) (w : World) : (binOp .eql 23 (.agg #[.int .i64 x.Kind, .int .i64 x.By, .int .i64 x.No, .int .i64 x.Seen, .int .i64 x.At, .int .i64 x.Many, .string x.Text]) (.agg #[.int .i64 y.Kind, .int .i64 y.By, .int .i64 y.No, .int .i64 y.Seen, .int .i64 y.At, .int .i64 y.Many, .string y.Text])).run Tryd.prog w = .ok (.bool (decide (x = y))) w := by
  have u3 := Tryd.underlying3
  have a3 := Tryd.isAgg3
  have z3 := Tryd.sizeOf3
  have u5 := Tryd.underlying9
  have a5 := Tryd.isAgg9
  have z5 := Tryd.sizeOf9
  have hS : Tryd.prog.underlying 23 = some (.struct (Tryd.prog.fieldsOf 23)) := by kernel_rfl
  have hp : Tryd.prog.stoodInHeld 23 = false := by kernel_rfl
  rw [run_eql_struct, show (10000 : Nat) = 9999 + 1 from rfl, run_equalIn_agg w 9999 23 _ _ hS hp]
  simp only [Program.fieldsOf, Tryd.underlying23]
  obtain ⟨k, b, n, s, a, m, t⟩ := x
  obtain ⟨k', b', n', s', a', m', t'⟩ := y
  have e : decide ((⟨k, b, n, s, a, m, t⟩ : Dd) = ⟨k', b', n', s', a', m', t'⟩) = (decide (k = k') && decide (b = b') && decide (n = n') && decide (s = s') && decide (a = a') && decide (m = m') && decide (t = t')) := by
    simp only [Dd.mk.injEq, Bool.decide_and, Bool.and_assoc]
  rw [e]
  have ht : (t.toList = t'.toList) ↔ t = t' := ⟨fun h => ba_ext (by rwa [ByteArray.toList_eq, ByteArray.toList_eq] at h), fun h => by rw [h]⟩
  go_simp
  try simp only [ht]
  repeat' split
  all_goals simp_all

end Go.Proofs.YtneoeokfffnonadDoor
