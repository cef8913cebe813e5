/- The walks of layer 2: deed.text, deed.Check and the reference's DeedFault. -/
import Derived.Test.YtneoeokfffnonacCharsW
import Derived.Test.YtneoeokfffnonacPlain
import Derived.Test.YtneoeokfffnonacDeedW0
import Derived.Deep.DeepCutAuto
import Derived.WalkSpells
set_option linter.unusedVariables false
set_option linter.unusedSimpArgs false
namespace Go.Proofs.Ytneoeokfffnonac
open Go.RowKit


set_option maxRecDepth 100000 in
set_option maxHeartbeats 1000000 in
theorem DCheck_c (d : Dd) (w : World) (hs : d.Text.size ≤ maxLen) :
    Calls Try.prog 110 #[.agg #[.int .i64 d.Kind, .int .i64 d.By, .int .i64 d.No, .int .i64 d.Seen, .int .i64 d.At, .int .i64 d.Many, .string d.Text]] w fun e w' => e = .returned (.int .i64 (deedFault d)) ∧ Below w.heap.size w w' := by
  have HB := Lib.hid ((Below.refl w.heap.size w).alloc (Nat.le_refl _) (.cells #[.int .i64 d.Kind, .int .i64 d.By, .int .i64 d.No, .int .i64 d.Seen, .int .i64 d.At, .int .i64 d.Many, .string d.Text] 24))
  have HT := Lib.hid hs; clear hs
  by_cases hk : d.Kind = 1 ∨ d.Kind = 2
  case neg =>
    have Hf := Lib.hid (show deedFault d = 2 by unfold deedFault; rw [if_neg (by omega), if_neg (by omega)])
    have h1 : (d.Kind != 1) = true := by rw [bne_iff_ne]; omega
    have h2 : (d.Kind != 2) = true := by rw [bne_iff_ne]; omega
    clear hk
    go_enter Try.func110, Try.ntmps110
    go_wp2
    go_ret
    exact ⟨by rw [Hf.out]; rfl, HB.out⟩
  case pos =>
  have HS := Lib.hid (deedFault_split d hk)
  have HC := Lib.hid (rest_cases d hk)
  have HR := Lib.hid (range_cases d)
  obtain ⟨R, hR⟩ : ∃ R, R = deedRange d := ⟨_, rfl⟩
  rw [← hR] at HS HR; clear hR
  obtain ⟨kind, by_, no, seen, at_, many, text⟩ := d
  simp only at *
  rcases hk with rfl | rfl
  · go_enter Try.func110, Try.ntmps110
    go_upto_region 3 with fail
    go_cut [12] (fun s12 wx => s12 = .bool R ∧ wx = w.alloc (.cells #[.int .i64 1, .int .i64 by_, .int .i64 no, .int .i64 seen, .int .i64 at_, .int .i64 many, .string text] 24))
    case first =>
      rcases HR.out with ⟨hx, h⟩ | ⟨hx, h, h1⟩ | ⟨hx, h, h1, h2⟩ | ⟨hx, h, h1, h2, h3⟩ | ⟨hx, h, h1, h2, h3, h4⟩ | ⟨hx, h, h1, h2, h3, h4, h5⟩ | ⟨hx, h, h1, h2, h3, h4, h5, h6⟩ | ⟨hx, h, h1, h2, h3, h4, h5, h6⟩
      all_goals
        have HX := Lib.hid hx; clear hx
        go_wp2_with (go_at_call 96; refine (Writer_c _ _).mono ?_; rintro e w' ⟨rfl, rfl⟩)
        go_meet
        exact ⟨by (try rw [HX.out]); first | done | rfl | (congr 1; simp; omega), rfl⟩
    case rest =>
      obtain ⟨rfl, rfl⟩ := hcut
      cases R
      case true =>
        have Hf := Lib.hid (show deedFault _ = 1 from HS.out)
        clear HS HC HR
        go_wp2
        go_ret
        exact ⟨by rw [Hf.out]; rfl, HB.out⟩
      case false =>
      rcases HC.out with ⟨hr, k1, k2, k3⟩ | ⟨hr, k1, k2, k3⟩ | ⟨hr, k1, k2⟩ | ⟨hr, k1, k2⟩ | ⟨hr, k1, k2, k3⟩ | ⟨hr, k1, k2, k3, k4⟩ | ⟨hr, k1, k2, k3, k4⟩
      all_goals first | exact absurd k1 (by decide) | skip
      all_goals
        have Hf := Lib.hid (show deedFault _ = _ from (show _ = _ from HS.out).trans hr)
        clear HS HC HR hr k1
        try subst k2
        try (have z1 : text.toList = [] := toList_nil (by assumption))
        try (have z2 : ¬ text.toList = [] := toList_ne (by assumption))
        try (have z3 : (!text.toList.isEmpty) = true := toList_ne' (by assumption))
        go_wp2_with (go_at_call 123; refine (text_c _ _ HT.out).mono ?_; rintro e w' ⟨rfl, rfl⟩)
        go_ret
        exact ⟨by rw [Hf.out]; rfl, HB.out⟩
  · go_enter Try.func110, Try.ntmps110
    go_upto_region 3 with fail
    go_cut [12] (fun s12 wx => s12 = .bool R ∧ wx = w.alloc (.cells #[.int .i64 2, .int .i64 by_, .int .i64 no, .int .i64 seen, .int .i64 at_, .int .i64 many, .string text] 24))
    case first =>
      rcases HR.out with ⟨hx, h⟩ | ⟨hx, h, h1⟩ | ⟨hx, h, h1, h2⟩ | ⟨hx, h, h1, h2, h3⟩ | ⟨hx, h, h1, h2, h3, h4⟩ | ⟨hx, h, h1, h2, h3, h4, h5⟩ | ⟨hx, h, h1, h2, h3, h4, h5, h6⟩ | ⟨hx, h, h1, h2, h3, h4, h5, h6⟩
      all_goals
        have HX := Lib.hid hx; clear hx
        go_wp2_with (go_at_call 96; refine (Writer_c _ _).mono ?_; rintro e w' ⟨rfl, rfl⟩)
        go_meet
        exact ⟨by (try rw [HX.out]); first | done | rfl | (congr 1; simp; omega), rfl⟩
    case rest =>
      obtain ⟨rfl, rfl⟩ := hcut
      cases R
      case true =>
        have Hf := Lib.hid (show deedFault _ = 1 from HS.out)
        clear HS HC HR
        go_wp2
        go_ret
        exact ⟨by rw [Hf.out]; rfl, HB.out⟩
      case false =>
      rcases HC.out with ⟨hr, k1, k2, k3⟩ | ⟨hr, k1, k2, k3⟩ | ⟨hr, k1, k2⟩ | ⟨hr, k1, k2⟩ | ⟨hr, k1, k2, k3⟩ | ⟨hr, k1, k2, k3, k4⟩ | ⟨hr, k1, k2, k3, k4⟩
      all_goals first | exact absurd k1 (by decide) | skip
      all_goals
        have Hf := Lib.hid (show deedFault _ = _ from (show _ = _ from HS.out).trans hr)
        clear HS HC HR hr k1
        try subst k2
        try (have z1 : text.toList = [] := toList_nil (by assumption))
        try (have z2 : ¬ text.toList = [] := toList_ne (by assumption))
        try (have z3 : (!text.toList.isEmpty) = true := toList_ne' (by assumption))
        go_wp2_with (go_at_call 123; refine (text_c _ _ HT.out).mono ?_; rintro e w' ⟨rfl, rfl⟩)
        go_ret
        exact ⟨by rw [Hf.out]; rfl, HB.out⟩
end Go.Proofs.Ytneoeokfffnonac
