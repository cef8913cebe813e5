/- The walk of the reference's DeedFault. -/
import Derived.Test.YtneoeokfffnonacRefW
import Derived.Test.YtneoeokfffnonacDeedW
set_option linter.unusedVariables false
set_option linter.unusedSimpArgs false
namespace Go.Proofs.Ytneoeokfffnonac
open Go.RowKit

/-- What the loop over the text knows. -/
def BadRel (text : ByteArray) (s3 s4 : Value) : Prop := ∃ (k : Nat) (B : Bool), k ≤ text.size ∧ s4 = .int .i64 k ∧ s3 = .bool B ∧ Hid (B = true → textOk text = false) ∧ Hid (B = false → 0 < text.size ∧ text.size ≤ 20) ∧ Hid (((bytesOf text).take k).all (fun x => !badByte x) = true ∨ B = true)

set_option maxRecDepth 100000 in
set_option maxHeartbeats 2000000 in
theorem DeedFault_c (d : Dd) (w : World) (hs : d.Text.size ≤ maxLen) :
    Calls Try.prog 122 #[.agg #[.int .i64 d.Kind, .int .i64 d.By, .int .i64 d.No, .int .i64 d.Seen, .int .i64 d.At, .int .i64 d.Many, .string d.Text]] w fun e w' => e = .returned (.int .i64 (deedFault d)) ∧ Below w.heap.size w w' := by
  have HB := Lib.hid ((Below.refl w.heap.size w).alloc (Nat.le_refl _) (.cells #[.int .i64 d.Kind, .int .i64 d.By, .int .i64 d.No, .int .i64 d.Seen, .int .i64 d.At, .int .i64 d.Many, .string d.Text] 24))
  have HT := Lib.hid hs
  by_cases hk : d.Kind = 1 ∨ d.Kind = 2
  case neg =>
    have Hf := Lib.hid (show deedFault d = 2 by unfold deedFault; rw [if_neg (by omega), if_neg (by omega)])
    have h1 : (d.Kind != 1) = true := by rw [bne_iff_ne]; omega
    have h2 : (d.Kind != 2) = true := by rw [bne_iff_ne]; omega
    clear hk hs
    go_enter Try.func122, Try.ntmps122
    go_wp2
    go_ret
    exact ⟨by rw [Hf.out]; rfl, HB.out⟩
  case pos =>
  have HS := Lib.hid (deedFault_split d hk)
  have HC := Lib.hid (rest_cases d hk)
  have HR := Lib.hid (range_cases d)
  obtain ⟨R, hR⟩ : ∃ R, R = deedRange d := ⟨_, rfl⟩
  rw [← hR] at HS HR; clear hR
  obtain ⟨kind, by_, no, seen, at_, many, text⟩ := d
  simp only at *
  have HMX := Lib.hid hs; clear hs
  rcases hk with rfl | rfl
  · go_enter Try.func122, Try.ntmps122
    go_upto_region 3 with fail
    go_cut [46] (fun s46 wx => s46 = .bool R ∧ wx = w.alloc (.cells #[.int .i64 1, .int .i64 by_, .int .i64 no, .int .i64 seen, .int .i64 at_, .int .i64 many, .string text] 24))
    case first =>
      rcases HR.out with ⟨hx, h⟩ | ⟨hx, h, h1⟩ | ⟨hx, h, h1, h2⟩ | ⟨hx, h, h1, h2, h3⟩ | ⟨hx, h, h1, h2, h3, h4⟩ | ⟨hx, h, h1, h2, h3, h4, h5⟩ | ⟨hx, h, h1, h2, h3, h4, h5, h6⟩ | ⟨hx, h, h1, h2, h3, h4, h5, h6⟩
      all_goals
        have HX := Lib.hid hx; clear hx
        go_wp2_with (go_at_call 63; refine (IsWriter_c _ _).mono ?_; rintro e w' ⟨rfl, rfl⟩)
        go_meet
        exact ⟨by (try rw [HX.out]); first | done | rfl | (congr 1; simp; omega), rfl⟩
    case rest =>
    obtain ⟨rfl, rfl⟩ := hcut
    cases R
    case true =>
      have Hf := Lib.hid (show deedFault _ = 1 from HS.out)
      clear HS HC HR
      go_wp2
      go_ret
      exact ⟨by rw [Hf.out]; rfl, HB.out⟩
    case false =>
    have htm : text.size ≤ 9223372036854775807 := by have := HMX.out; unfold maxLen at this; omega
    by_cases hm : many = 0
    case neg =>
      have hmB : (many != 0) = true := by simpa using hm
      have Hf := Lib.hid (show deedFault _ = 3 from (show _ = _ from HS.out).trans (by rcases HC.out with ⟨hr, _, h, _⟩ | ⟨hr, _, h, _⟩ | ⟨hr, _⟩ | ⟨hr, _⟩ | ⟨_, h, _⟩ | ⟨_, h, _⟩ | ⟨_, h, _⟩ <;> first | exact hr | exact absurd h hm | exact absurd h (by decide)))
      clear HS HC HR hm
      go_wp2
      go_ret
      exact ⟨by rw [Hf.out]; rfl, HB.out⟩
    subst hm
    have HTX := Lib.hid (show ∀ b, textOk text = b → deedFault _ = (if b then 0 else 4) from fun b hb => (show _ = _ from HS.out).trans (by
      rcases HC.out with ⟨hr, _, _, h⟩ | ⟨hr, _, _, h⟩ | ⟨_, _, h⟩ | ⟨_, h, _⟩ | ⟨_, h, _⟩ | ⟨_, h, _⟩ | ⟨_, h, _⟩
      · rw [hr, ← hb, h]; rfl
      · rw [hr, ← hb, h]; rfl
      · cases h
      · exact absurd h (by decide)
      · exact absurd h (by decide)
      · exact absurd h (by decide)
      · exact absurd h (by decide)))
    clear HS HC HR
    have hall : ∀ B0 : Bool, B0 = (decide ((text.size : Int) < 1) || decide (20 < (text.size : Int))) → (B0 = true → textOk text = false) ∧ (B0 = false → 0 < text.size ∧ text.size ≤ 20) := by
      intro B0 hB
      subst hB
      constructor
      · intro h; unfold textOk; simp at h; rcases h with h | h <;> simp <;> omega
      · intro h; simp at h; omega
    go_upto_region 8 with fail
    go_cut [3] (fun s3 wx => (∃ B0 : Bool, s3 = .bool B0 ∧ (B0 = true → textOk text = false) ∧ (B0 = false → 0 < text.size ∧ text.size ≤ 20)) ∧ wx = w.alloc (.cells #[.int .i64 1, .int .i64 by_, .int .i64 no, .int .i64 seen, .int .i64 at_, .int .i64 0, .string text] 24))
    case first =>
      by_cases hs1 : text.size < 1
      · have hh := (hall true (by simp; omega)).1
        go_wp2
        go_meet
        exact ⟨⟨true, rfl, fun _ => hh trivial, fun h => by cases h⟩, rfl⟩
      · have hd1 : decide ((text.size : Int) < 1) = false := by simp; omega
        by_cases hs2 : 20 < text.size
        · have hd2 : decide (20 < (text.size : Int)) = true := by simp; omega
          have hh := (hall true (by rw [hd1, hd2]; rfl)).1
          go_wp2
          go_meet
          exact ⟨⟨true, rfl, fun _ => hh trivial, fun h => by cases h⟩, rfl⟩
        · have hd2 : decide (20 < (text.size : Int)) = false := by simp; omega
          have hh := (hall false (by rw [hd1, hd2]; rfl)).2
          go_wp2
          go_meet
          exact ⟨⟨false, rfl, fun h => (by cases h), fun _ => hh trivial⟩, rfl⟩
    case rest =>
      obtain ⟨⟨B0, rfl, hbA, hbB⟩, rfl⟩ := hcut
      have HBA := Lib.hid hbA; have HBB := Lib.hid hbB
      clear hall hbA hbB
      go_wp2
      clear htm
      go_loop [3, 4] (fun s3 s4 => BadRel text s3 s4) (fun s3 s4 => text.size - (intOf s4).toNat)
      case atStart => exact ⟨0, B0, Nat.zero_le _, rfl, rfl, HBA, HBB, Lib.hid (.inl rfl)⟩
      case round =>
        obtain ⟨k, B, hk, rfl, rfl, HA, HBb, HE⟩ := hrel
        cases B
        case true =>
          have Hf := Lib.hid (HTX.out false (HA.out rfl))
          clear HE HA
          go_wp2
          all_goals
            go_ret
            exact ⟨by rw [Hf.out]; rfl, HB.out⟩
        case false =>
          have hq20 : text.size ≤ 20 := (HBb.out rfl).2
          have HE1 := Lib.hid (show ((bytesOf text).take k).all (fun x => !badByte x) = true from HE.out.resolve_right (by simp))
          by_cases hlt : k < text.size
          · have HS := Lib.hid (all_snoc text k hlt)
            have HN := Lib.hid (all_no text k hlt)
            have hltB : decide ((k : Int) < text.size) = true := by simp; omega
            by_cases h1 : (text[k].toNat : Int) < 32
            · have HN2 := Lib.hid (HN.out (by simp [badByte, h1]))
              clear HS HN HE HE1 HA
              go_wp2
              exact ⟨by unfold BadRel; exact ⟨k + 1, true, by omega, by go_num, rfl, Lib.hid (fun _ => HN2.out), Lib.hid (fun h => by cases h), Lib.hid (.inr rfl)⟩, by simp [intOf]; omega⟩
            · by_cases h2 : 126 < (text[k].toNat : Int)
              · have HN2 := Lib.hid (HN.out (by simp [badByte, h2]))
                have h1B : decide ((text[k].toNat : Int) < 32) = false := by simpa using h1
                have h2B : decide (126 < (text[k].toNat : Int)) = true := by simpa using h2
                clear HS HN HE HE1 HA
                go_wp2
                exact ⟨by unfold BadRel; exact ⟨k + 1, true, by omega, by go_num, by first | rfl | simp [h2], Lib.hid (fun _ => HN2.out), Lib.hid (fun h => by cases h), Lib.hid (.inr rfl)⟩, by simp [intOf]; omega⟩
              · have HS2 := Lib.hid (show ((bytesOf text).take (k + 1)).all (fun x => !badByte x) = true by rw [HS.out, HE1.out]; simp [badByte, h1, h2])
                have h2B : decide (126 < (text[k].toNat : Int)) = false := by simpa using h2
                have h1B : decide ((text[k].toNat : Int) < 32) = false := by simpa using h1
                clear HS HN HE HE1
                go_wp2
                exact ⟨by unfold BadRel; exact ⟨k + 1, false, by omega, by go_num, by first | rfl | simp [h2], HA, HBb, Lib.hid (.inl HS2.out)⟩, by simp [intOf]; omega⟩
          · have hltB : decide ((k : Int) < text.size) = false := by simp; omega
            have hok : textOk text = true := by
              obtain ⟨q1, q2⟩ := HBb.out rfl
              have := HE1.out
              rw [List.take_of_length_le (by rw [bytesOf_length]; omega)] at this
              unfold textOk; rw [this]; simp; omega
            have Hf := Lib.hid (HTX.out true hok)
            clear hok HE HE1 HA
            go_wp2
            go_ret
            exact ⟨by rw [Hf.out]; rfl, HB.out⟩
  · go_enter Try.func122, Try.ntmps122
    go_upto_region 3 with fail
    go_cut [46] (fun s46 wx => s46 = .bool R ∧ wx = w.alloc (.cells #[.int .i64 2, .int .i64 by_, .int .i64 no, .int .i64 seen, .int .i64 at_, .int .i64 many, .string text] 24))
    case first =>
      rcases HR.out with ⟨hx, h⟩ | ⟨hx, h, h1⟩ | ⟨hx, h, h1, h2⟩ | ⟨hx, h, h1, h2, h3⟩ | ⟨hx, h, h1, h2, h3, h4⟩ | ⟨hx, h, h1, h2, h3, h4, h5⟩ | ⟨hx, h, h1, h2, h3, h4, h5, h6⟩ | ⟨hx, h, h1, h2, h3, h4, h5, h6⟩
      all_goals
        have HX := Lib.hid hx; clear hx
        go_wp2_with (go_at_call 63; refine (IsWriter_c _ _).mono ?_; rintro e w' ⟨rfl, rfl⟩)
        go_meet
        exact ⟨by (try rw [HX.out]); first | done | rfl | (congr 1; simp; omega), rfl⟩
    case rest =>
    obtain ⟨rfl, rfl⟩ := hcut
    cases R
    case true =>
      have Hf := Lib.hid (show deedFault _ = 1 from HS.out)
      clear HS HC HR
      go_wp2
      go_ret
      exact ⟨by rw [Hf.out]; rfl, HB.out⟩
    case false =>
    rcases HC.out with ⟨hr, k1, k2, k3⟩ | ⟨hr, k1, k2, k3⟩ | ⟨hr, k1, k2⟩ | ⟨hr, k1, k2⟩ | ⟨hr, k1, k2, k3⟩ | ⟨hr, k1, k2, k3, k4⟩ | ⟨hr, k1, k2, k3, k4⟩
    all_goals first | exact absurd k1 (by decide) | skip
    all_goals
      have Hf := Lib.hid (show deedFault _ = _ from (show _ = _ from HS.out).trans hr)
      clear HS HC HR hr k1
      try (have z1 : text.toList = [] := toList_nil (by assumption))
      try (have z2 : ¬ text.toList = [] := toList_ne (by assumption))
      try (have z3 : (!text.toList.isEmpty) = true := toList_ne' (by assumption))
      go_wp2
      go_ret
      exact ⟨by rw [Hf.out]; rfl, HB.out⟩
end Go.Proofs.Ytneoeokfffnonac
