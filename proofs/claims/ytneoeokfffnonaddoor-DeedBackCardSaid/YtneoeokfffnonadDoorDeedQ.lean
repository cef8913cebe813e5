/- The walk of the document's reading of a line. -/
import Derived.Test.YtneoeokfffnonadDoorDeedP
set_option linter.unusedVariables false
set_option linter.unusedSimpArgs false
namespace Go.Proofs.YtneoeokfffnonadDoor
open Go.RowKit Go

theorem ArN.new4 (w : World) : ArN 4 (w.alloc (.cells #[.int .i64 0, .int .i64 0, .int .i64 0, .int .i64 0] 44)) w.heap.size (fun _ => 0) := by
  refine ⟨by simp, fun j hj => ?_, fun j hj => by simp⟩
  obtain rfl | rfl | rfl | rfl : j = 0 ∨ j = 1 ∨ j = 2 ∨ j = 3 := by omega
  all_goals simp
theorem parse_none {s : Str} (h : wordsF 5 s = none) : parseF s = (zDd, 3) := by
  unfold parseF; rw [h]
theorem parse_badM {s k r w : Str} {l : List Str} (h : wordsF 5 s = some (k :: l, r)) (hw : w ∈ l) (hn : numOf w = none) : parseF s = (zDd, 3) := by
  have hl := (wordsF_len 5 s _ r h).2
  match l, hl with
  | [a, b, c, e], _ =>
    simp only [List.mem_cons, List.not_mem_nil, or_false] at hw
    rcases hw with rfl | rfl | rfl | rfl
    · exact parse_bad h (.inl hn)
    · exact parse_bad h (.inr (.inl hn))
    · exact parse_bad h (.inr (.inr (.inl hn)))
    · exact parse_bad h (.inr (.inr (.inr hn)))
theorem parse_kindM {s k r : Str} {o : Option (List Str × Str)} (h : wordsF 5 s = o.map fun q => (k :: q.1, q.2)) (hk : k ≠ putB) (ht : k ≠ takeB) : parseF s = (zDd, 3) := by
  cases o with
  | none => exact parse_none h
  | some q =>
    obtain ⟨l, r⟩ := q
    have hl := (wordsF_len 5 s _ r h).2
    match l, hl with
    | [a, b, c, e], _ => exact parse_kind h hk ht
/-- What is known of a line while its words are cut. -/
structure QInv (s k : Str) (j : Nat) (R : Str) (ws : List Str) (V : Nat → Int) : Prop where
  len : ws.length = j
  j4 : j ≤ 4
  wd : wordsF 5 s = (wordsF (4 - j) R).map fun q => (k :: (ws ++ q.1), q.2)
  nums : ∀ i x, ws[i]? = some x → numOf x = some (V i)
  rl : R.length ≤ s.length
theorem QInv.start {s k r : Str} (h : wordF s = some (k, r)) : QInv s k 0 r [] (fun _ => 0) := by
  refine ⟨rfl, by omega, ?_, fun i x hx => by simp at hx, ?_⟩
  · show wordsF (4 + 1) s = _
    rw [wordsF, h]
    rfl
  · rw [(wordF_some h).1]; simp; omega
theorem QInv.stop {s k R : Str} {j : Nat} {ws : List Str} {V : Nat → Int} (h : QInv s k j R ws V) (hj : j < 4) (hw : wordF R = none) : parseF s = (zDd, 3) := by
  apply parse_none
  rw [h.wd, show 4 - j = (3 - j) + 1 by omega, wordsF, hw]
  rfl
theorem words_step {R a R' : Str} {j : Nat} (hj : j < 4) (hw : wordF R = some (a, R')) : wordsF (4 - j) R = (wordsF (3 - j) R').map fun q => (a :: q.1, q.2) := by
  rw [show 4 - j = (3 - j) + 1 by omega, wordsF, hw]
theorem QInv.bad {s k R a R' : Str} {j : Nat} {ws : List Str} {V : Nat → Int} (h : QInv s k j R ws V) (hj : j < 4) (hw : wordF R = some (a, R')) (hn : numOf a = none) : parseF s = (zDd, 3) := by
  have e := h.wd
  rw [words_step hj hw] at e
  cases hq : wordsF (3 - j) R' with
  | none => rw [hq] at e; exact parse_none e
  | some q => rw [hq] at e; exact parse_badM (k := k) (r := q.2) (l := ws ++ (a :: q.1)) e (by simp) hn
theorem QInv.next {s k R a R' : Str} {j : Nat} {ws : List Str} {V : Nat → Int} {v : Int} (h : QInv s k j R ws V) (hj : j < 4) (hw : wordF R = some (a, R')) (hn : numOf a = some v) : QInv s k (j + 1) R' (ws ++ [a]) (fun i => if i = j then v else V i) := by
  have e := h.wd
  rw [words_step hj hw] at e
  refine ⟨by rw [List.length_append, h.len]; rfl, by omega, ?_, fun i x hx => ?_, ?_⟩
  · rw [e, show 4 - (j + 1) = 3 - j by omega]
    cases wordsF (3 - j) R' with
    | none => rfl
    | some q => simp
  · by_cases hi : i = j
    · subst hi
      rw [if_pos rfl]
      rw [← h.len, List.getElem?_append_right (Nat.le_refl _)] at hx
      simp at hx
      subst hx; exact hn
    · rw [if_neg hi]
      by_cases hl : i < ws.length
      · rw [List.getElem?_append_left hl] at hx
        exact h.nums i x hx
      · rw [List.getElem?_append_right (by omega)] at hx
        have : i - ws.length ≠ 0 := by have := h.len; omega
        exfalso
        cases hc : i - ws.length with
        | zero => exact this hc
        | succ n => rw [hc] at hx; simp at hx
  · have h1 := congrArg List.length (wordF_some hw).1
    have h2 := h.rl
    simp at h1
    omega
theorem QInv.stop4 {s k R : Str} {ws : List Str} {V : Nat → Int} (h : QInv s k 4 R ws V) : ∃ a b c e, wordsF 5 s = some ([k, a, b, c, e], R) ∧ numOf a = some (V 0) ∧ numOf b = some (V 1) ∧ numOf c = some (V 2) ∧ numOf e = some (V 3) := by
  have hl := h.len
  match ws, hl with
  | [a, b, c, e], _ =>
    refine ⟨a, b, c, e, ?_, h.nums 0 a rfl, h.nums 1 b rfl, h.nums 2 c rfl, h.nums 3 e rfl⟩
    rw [h.wd]
    rfl

set_option maxRecDepth 100000 in
set_option maxHeartbeats 1000000 in
theorem DeedOf_c (s : ByteArray) (hs : s.size ≤ 1000000) (w : World) (hk : LibK w) :
    Calls Tryd.prog 10 #[.string s] w fun e w' => e = .returned (.tuple #[.agg #[.int .i64 ((parseF s.data.toList).1).Kind, .int .i64 ((parseF s.data.toList).1).By, .int .i64 ((parseF s.data.toList).1).No, .int .i64 ((parseF s.data.toList).1).Seen, .int .i64 ((parseF s.data.toList).1).At, .int .i64 ((parseF s.data.toList).1).Many, .string ((parseF s.data.toList).1).Text], .int .i64 (parseF s.data.toList).2]) ∧ Below w.heap.size w w' := by
  have hb0 := (Below.refl w.heap.size w).alloc (Nat.le_refl _) (.cells #[.int .i64 0, .int .i64 0, .int .i64 0, .int .i64 0, .int .i64 0, .int .i64 0, .string ⟨#[]⟩] 23)
  have HB0 := Lib.hid hb0
  have HX0 := Lib.hid (DdB.new w)
  have HK := Lib.hid hk
  have HS := Lib.hid hs
  clear hk hb0 hs
  go_enter Tryd.func10, Tryd.ntmps10
  go_upto_region 1 with fail
  generalize hw0 : w.alloc _ = w0
  have hw0' : w.alloc (.cells #[.int .i64 0, .int .i64 0, .int .i64 0, .int .i64 0, .int .i64 0, .int .i64 0, .string ⟨#[]⟩] 23) = w0 := hw0
  rw [hw0'] at HB0 HX0
  clear hw0 hw0'
  obtain ⟨X, hX⟩ : ∃ X, X = w.heap.size := ⟨_, rfl⟩
  rw [← hX] at HX0 ⊢
  have HXW := Lib.hid (show w.heap.size ≤ X from Nat.le_of_eq hX.symm)
  clear hX
  go_wp2_with fail
  refine (word_c s HS.out w0).mono ?_
  rintro e w1 ⟨he, hb1⟩
  have HB1 := Lib.hid (HB0.out.trans (hb1.mono HB0.out.size))
  have HX1 := Lib.hid (HX0.out.later hb1)
  clear hb1 HB0 HX0
  rcases he with ⟨hw, rfl⟩ | ⟨k, r, hw, rfl⟩
  · have HR := Lib.hid (show parseF s.data.toList = (zDd, 3) from parse_none (by show wordsF (4 + 1) _ = _; rw [wordsF, hw]))
    clear hw
    have hfz := HX1.out.fz
    obtain ⟨_, ⟨_, x0, x1, x2, x3, x4, x5, x6⟩, _⟩ := HX1.out
    have f0 := hfz 0
    have f1 := hfz 1
    have f2 := hfz 2
    have f3 := hfz 3
    have f4 := hfz 4
    have f5 := hfz 5
    have f6 := hfz 6
    clear hfz
    go_wp2
    (have hp := DdB.put7 HX1.out zDd; have hq := put7_below HB1.out HXW.out zDd; unfold put7 zDd at hp hq; (try simp only at hp hq); generalize World.setCell _ _ _ = wf at hp hq ⊢; (try clear x0 x1 x2 x3 x4 x5 x6); obtain ⟨_, ⟨_, x0, x1, x2, x3, x4, x5, x6⟩, _⟩ := hp; (try simp only at x0 x1 x2 x3 x4 x5 x6); (try simp only [Exit.inBlock, Exit.then]); refine bodyPost_ret (v := .tuple #[.agg #[.int .i64 0, .int .i64 0, .int .i64 0, .int .i64 0, .int .i64 0, .int .i64 0, .string ⟨#[]⟩], .int .i64 3]) ?_ rfl ⟨by rw [HR.out]; rfl, hq⟩; rw [results_cell_tmp rfl]; go_simp)
  · have HQ := Lib.hid (QInv.start hw)
    clear hw
    obtain ⟨kk, hkk⟩ : ∃ kk : ByteArray, kk = ⟨k.toArray⟩ := ⟨_, rfl⟩
    have HKK := Lib.hid (show kk.data.toList = k from by rw [hkk])
    rw [← hkk]
    clear hkk
    obtain ⟨ok, hok⟩ : ∃ ok : Bool, ok = decide (kk = ⟨#[112, 117, 116]⟩ ∨ kk = ⟨#[116, 97, 107, 101]⟩) := ⟨_, rfl⟩
    go_upto_region 2 with fail
    go_cut [33] (fun s33 wx => s33 = .bool (!ok) ∧ wx = w1)
    case first =>
      by_cases hp : kk = ⟨#[112, 117, 116]⟩
      · have HOK := Lib.hid (show ok = true from by rw [hok]; simp [hp])
        clear hok
        subst hp
        go_wp2
        go_meet
        exact ⟨by rw [HOK.out]; rfl, rfl⟩
      · have e4 := put_beq hp
        by_cases ht : kk = ⟨#[116, 97, 107, 101]⟩
        · have HOK := Lib.hid (show ok = true from by rw [hok]; simp [ht])
          clear hok
          subst ht
          go_wp2
          go_meet
          exact ⟨by rw [HOK.out]; rfl, rfl⟩
        · have e5 := take_beq ht
          have HOK := Lib.hid (show ok = false from by rw [hok]; simp [hp, ht])
          clear hok
          go_wp2
          go_meet
          exact ⟨by rw [HOK.out]; rfl, rfl⟩
    case rest =>
      obtain ⟨rfl, rfl⟩ := hcut
      generalize wc = w1 at *
      cases ok with
      | false =>
        have hno : kk ≠ ⟨#[112, 117, 116]⟩ ∧ kk ≠ ⟨#[116, 97, 107, 101]⟩ := by
          have h := hok.symm
          rw [decide_eq_false_iff_not] at h
          exact ⟨fun e => h (.inl e), fun e => h (.inr e)⟩
        have HR := Lib.hid (show parseF s.data.toList = (zDd, 3) from parse_kindM (r := r) (o := wordsF 4 r) (k := k) (by rw [HQ.out.wd]; rfl) (fun e => hno.1 ((put_iff kk).2 (HKK.out.trans e))) (fun e => hno.2 ((take_iff kk).2 (HKK.out.trans e))))
        clear hok hno
        have hfz := HX1.out.fz
        obtain ⟨_, ⟨_, x0, x1, x2, x3, x4, x5, x6⟩, _⟩ := HX1.out
        have f0 := hfz 0
        have f1 := hfz 1
        have f2 := hfz 2
        have f3 := hfz 3
        have f4 := hfz 4
        have f5 := hfz 5
        have f6 := hfz 6
        clear hfz
        go_wp2
        (have hp := DdB.put7 HX1.out zDd; have hq := put7_below HB1.out HXW.out zDd; unfold put7 zDd at hp hq; (try simp only at hp hq); generalize World.setCell _ _ _ = wf at hp hq ⊢; (try clear x0 x1 x2 x3 x4 x5 x6); obtain ⟨_, ⟨_, x0, x1, x2, x3, x4, x5, x6⟩, _⟩ := hp; (try simp only at x0 x1 x2 x3 x4 x5 x6); (try simp only [Exit.inBlock, Exit.then]); refine bodyPost_ret (v := .tuple #[.agg #[.int .i64 0, .int .i64 0, .int .i64 0, .int .i64 0, .int .i64 0, .int .i64 0, .string ⟨#[]⟩], .int .i64 3]) ?_ rfl ⟨by rw [HR.out]; rfl, hq⟩; rw [results_cell_tmp rfl]; go_simp)
      | true =>
        have HOK := Lib.hid (show kk = ⟨#[112, 117, 116]⟩ ∨ kk = ⟨#[116, 97, 107, 101]⟩ from by simpa using hok.symm)
        clear hok
        go_upto_region 5 with fail
        generalize hw2 : w1.alloc _ = w2
        have hw2' : w1.alloc (.cells #[.int .i64 0, .int .i64 0, .int .i64 0, .int .i64 0] 44) = w2 := hw2
        have hb2 : Below w1.heap.size w1 w2 := by rw [← hw2']; exact (Below.refl w1.heap.size w1).alloc (Nat.le_refl _) _
        have HY2 := Lib.hid (show ArN 4 w2 w1.heap.size (fun _ => 0) from by rw [← hw2']; exact ArN.new4 w1)
        have HX2 := Lib.hid (HX1.out.later hb2)
        have HB2 := Lib.hid (HB1.out.trans (hb2.mono HB1.out.size))
        have HXY := Lib.hid (show X ≠ w1.heap.size from by have := HX1.out.lt; omega)
        have HYW := Lib.hid (show w.heap.size ≤ w1.heap.size from HB1.out.size)
        clear hw2 hw2' hb2 HX1 HB1
        generalize w1.heap.size = Y at HY2 HXY HYW ⊢
        have HI0 := Lib.hid (show QInv s.data.toList k 0 r [] (fun _ => 0) ∧ ArN 4 w2 Y (fun _ => 0) ∧ DdB w2 X zDd ∧ Below w.heap.size w w2 from ⟨HQ.out, HY2.out, HX2.out, HB2.out⟩)
        clear HY2 HX2 HB2 HQ
        go_wp2
        go_loopw [5, 8] (fun s5 s8 wr => ∃ (j : Nat) (R : Str) (ws : List Str) (V : Nat → Int), j ≤ 4 ∧ s8 = (.int .i64 (j : Int)) ∧ s5 = .string ⟨R.toArray⟩ ∧ Hid (QInv s.data.toList k j R ws V ∧ ArN 4 wr Y V ∧ DdB wr X zDd ∧ Below w.heap.size w wr)) (fun _ s8 _ => 4 - (intOf s8).toNat)
        case atStart => exact ⟨0, r, [], fun _ => 0, by omega, rfl, rfl, HI0⟩
        case round =>
          obtain ⟨j, R, ws, V, hj, rfl, rfl, HI⟩ := hrel
          rename World => wr
          clear HI0
          have HRL := Lib.hid (show (⟨R.toArray⟩ : ByteArray).size ≤ 1000000 from by
            have h1 := HI.out.1.rl
            have h2 := HS.out
            have h3 : s.data.toList.length = s.size := by simp
            show R.toArray.size ≤ _
            simp only [List.size_toArray]; omega)
          by_cases hlt : j < 4
          · have hlt' : (j : Int) < 4 := by omega
            have hj0 : (0 : Int) ≤ (j : Int) := by omega
            go_wp2_with fail
            refine (word_c ⟨R.toArray⟩ HRL.out wr).mono ?_
            rintro e w3 ⟨he, hb3⟩
            have HI3 := Lib.hid (show ArN 4 w3 Y V ∧ DdB w3 X zDd ∧ Below w.heap.size w w3 from ⟨HI.out.2.1.later hb3, HI.out.2.2.1.later hb3, HI.out.2.2.2.trans (hb3.mono HI.out.2.2.2.size)⟩)
            have HQ := Lib.hid HI.out.1
            clear hb3 HI
            rcases he with ⟨hw, rfl⟩ | ⟨a, R', hw, rfl⟩
            · have HR := Lib.hid (HQ.out.stop hlt hw)
              clear hw
              go_wp2_with fail
              refine (number_c ⟨R.toArray⟩ HRL.out w3 (HK.out.later HI3.out.2.2)).mono ?_
              rintro e w4 ⟨v, rfl, _, hb4⟩
              have HX4 := Lib.hid (HI3.out.2.1.later hb4)
              have HB4 := Lib.hid (HI3.out.2.2.trans (hb4.mono HI3.out.2.2.size))
              clear hb4 HI3
              generalize (numOf _).isSome = bn
              have hfz := HX4.out.fz
              obtain ⟨_, ⟨_, x0, x1, x2, x3, x4, x5, x6⟩, _⟩ := HX4.out
              have f0 := hfz 0
              have f1 := hfz 1
              have f2 := hfz 2
              have f3 := hfz 3
              have f4 := hfz 4
              have f5 := hfz 5
              have f6 := hfz 6
              clear hfz
              go_wp2
              (have hp := DdB.put7 HX4.out zDd; have hq := put7_below HB4.out HXW.out zDd; unfold put7 zDd at hp hq; (try simp only at hp hq); generalize World.setCell _ _ _ = wf at hp hq ⊢; (try clear x0 x1 x2 x3 x4 x5 x6); obtain ⟨_, ⟨_, x0, x1, x2, x3, x4, x5, x6⟩, _⟩ := hp; (try simp only at x0 x1 x2 x3 x4 x5 x6); (try simp only [Exit.inBlock, Exit.then]); refine bodyPost_ret (v := .tuple #[.agg #[.int .i64 0, .int .i64 0, .int .i64 0, .int .i64 0, .int .i64 0, .int .i64 0, .string ⟨#[]⟩], .int .i64 3]) ?_ rfl ⟨by rw [HR.out]; rfl, hq⟩; rw [results_cell_tmp rfl]; go_simp)
            · have hal : (⟨a.toArray⟩ : ByteArray).size ≤ 1000000 := by
                have h1 := congrArg List.length (wordF_some hw).1
                have h2 := HRL.out
                change R.toArray.size ≤ _ at h2
                show a.toArray.size ≤ _
                simp at h1 h2 ⊢
                omega
              have HAL := Lib.hid hal
              have HW := Lib.hid hw
              clear hw hal
              go_wp2_with fail
              refine (number_c ⟨a.toArray⟩ HAL.out w3 (HK.out.later HI3.out.2.2)).mono ?_
              rintro e w4 ⟨v, rfl, hv, hb4⟩
              have HL4 := Lib.hid hb4
              have HI4 := Lib.hid (show ArN 4 w4 Y V ∧ DdB w4 X zDd ∧ Below w.heap.size w w4 from ⟨HI3.out.1.later hb4, HI3.out.2.1.later hb4, HI3.out.2.2.trans (hb4.mono HI3.out.2.2.size)⟩)
              clear hb4 HI3 HL4
              cases hn : numOf a with
              | none =>
                have HR := Lib.hid (HQ.out.bad hlt HW.out hn)
                clear hn hv
                rw [Option.isSome_none]
                have hfz := HI4.out.2.1.fz
                obtain ⟨_, ⟨_, x0, x1, x2, x3, x4, x5, x6⟩, _⟩ := HI4.out.2.1
                have f0 := hfz 0
                have f1 := hfz 1
                have f2 := hfz 2
                have f3 := hfz 3
                have f4 := hfz 4
                have f5 := hfz 5
                have f6 := hfz 6
                clear hfz
                have HX4 := Lib.hid HI4.out.2.1
                have HB4 := Lib.hid HI4.out.2.2
                go_wp2
                (have hp := DdB.put7 HX4.out zDd; have hq := put7_below HB4.out HXW.out zDd; unfold put7 zDd at hp hq; (try simp only at hp hq); generalize World.setCell _ _ _ = wf at hp hq ⊢; (try clear x0 x1 x2 x3 x4 x5 x6); obtain ⟨_, ⟨_, x0, x1, x2, x3, x4, x5, x6⟩, _⟩ := hp; (try simp only at x0 x1 x2 x3 x4 x5 x6); (try simp only [Exit.inBlock, Exit.then]); refine bodyPost_ret (v := .tuple #[.agg #[.int .i64 0, .int .i64 0, .int .i64 0, .int .i64 0, .int .i64 0, .int .i64 0, .string ⟨#[]⟩], .int .i64 3]) ?_ rfl ⟨by rw [HR.out]; rfl, hq⟩; rw [results_cell_tmp rfl]; go_simp)
              | some v' =>
                obtain rfl : v = v' := hv v' hn
                have HQ' := Lib.hid (HQ.out.next hlt HW.out hn)
                clear hn hv
                rw [Option.isSome_some]
                have y1 := HI4.out.1.c j hlt
                have y2 := HI4.out.1.fz j hlt
                have HI5 := Lib.hid (show QInv s.data.toList k (j + 1) R' (ws ++ [a]) (fun i => if i = j then v else V i) ∧ ArN 4 (w4.setCell ⟨Y, j, none⟩ (.int .i64 v)) Y (fun i => if i = j then v else V i) ∧ DdB (w4.setCell ⟨Y, j, none⟩ (.int .i64 v)) X zDd ∧ Below w.heap.size w (w4.setCell ⟨Y, j, none⟩ (.int .i64 v)) from ⟨HQ'.out, HI4.out.1.set hlt v, HI4.out.2.1.other HXY.out, HI4.out.2.2.setCell HYW.out _⟩)
                clear HI4 HQ HQ'
                go_wp2
                exact ⟨⟨j + 1, R', _, _, by omega, by go_num, rfl, HI5⟩, by simp [intOf]; omega⟩
          · obtain rfl : j = 4 := by omega
            obtain ⟨a, b, c, e, h5, n1, n2, n3, n4⟩ := HI.out.1.stop4
            have HWS := Lib.hid h5
            have HNU := Lib.hid (show numOf a = some (V 0) ∧ numOf b = some (V 1) ∧ numOf c = some (V 2) ∧ numOf e = some (V 3) from ⟨n1, n2, n3, n4⟩)
            clear h5 n1 n2 n3 n4
            have y0 := HI.out.2.1.c 0 (by omega)
            have y1 := HI.out.2.1.c 1 (by omega)
            have y2 := HI.out.2.1.c 2 (by omega)
            have y3 := HI.out.2.1.c 3 (by omega)
            have HXr := Lib.hid HI.out.2.2.1
            have HBr := Lib.hid HI.out.2.2.2
            clear HI
            generalize V 0 = v0 at HNU y0
            generalize V 1 = v1 at HNU y1
            generalize V 2 = v2 at HNU y2
            generalize V 3 = v3 at HNU y3
            go_upto_region 14 with fail
            generalize hw5 : wr.alloc _ = w5
            have hw5' : wr.alloc (.cells #[.int .i64 (⟨1, v0, v1, v2, v3, 0, ⟨R.toArray⟩⟩ : Dd).Kind, .int .i64 (⟨1, v0, v1, v2, v3, 0, ⟨R.toArray⟩⟩ : Dd).By, .int .i64 (⟨1, v0, v1, v2, v3, 0, ⟨R.toArray⟩⟩ : Dd).No, .int .i64 (⟨1, v0, v1, v2, v3, 0, ⟨R.toArray⟩⟩ : Dd).Seen, .int .i64 (⟨1, v0, v1, v2, v3, 0, ⟨R.toArray⟩⟩ : Dd).At, .int .i64 (⟨1, v0, v1, v2, v3, 0, ⟨R.toArray⟩⟩ : Dd).Many, .string (⟨1, v0, v1, v2, v3, 0, ⟨R.toArray⟩⟩ : Dd).Text] 23) = w5 := hw5
            have hb5 : Below wr.heap.size wr w5 := by rw [← hw5']; exact (Below.refl wr.heap.size wr).alloc (Nat.le_refl _) _
            have HZ5 := Lib.hid (show DdB w5 wr.heap.size ⟨1, v0, v1, v2, v3, 0, ⟨R.toArray⟩⟩ from by rw [← hw5']; exact DdB.newD wr _)
            have HX5 := Lib.hid (HXr.out.later hb5)
            have HB5 := Lib.hid (HBr.out.trans (hb5.mono HBr.out.size))
            have HXZ := Lib.hid (show X ≠ wr.heap.size from by have := HXr.out.lt; omega)
            have HZW := Lib.hid (show w.heap.size ≤ wr.heap.size from HBr.out.size)
            clear hw5 hw5' hb5 HXr HBr y0 y1 y2 y3
            generalize wr.heap.size = Z at HZ5 HXZ HZW ⊢
            rcases HOK.out with hkp | hkt
            · have HKP := Lib.hid (show k = putB from by rw [← HKK.out, hkp]; rfl)
              subst hkp
              have HD := Lib.hid (show parseF s.data.toList = chkD (⟨1, v0, v1, v2, v3, 0, ⟨R.toArray⟩⟩ : Dd) from (parse_put HWS.out HKP.out HNU.out.1 HNU.out.2.1 HNU.out.2.2.1 HNU.out.2.2.2))
              obtain ⟨hZl, ⟨_, z0, z1, z2, z3, z4, z5, z6⟩, _⟩ := HZ5.out
              go_wp2_with fail
              refine (DeedFault_c (⟨1, v0, v1, v2, v3, 0, ⟨R.toArray⟩⟩ : Dd) w5 (by show ByteArray.size _ ≤ maxLen; have h := HRL.out; have h2 : maxLen = 9223372036854775807 := rfl; simp only at h ⊢; omega)).mono ?_
              rintro e w8 ⟨rfl, hb8⟩
              have HZ8 := Lib.hid (HZ5.out.later hb8)
              have HX8 := Lib.hid (HX5.out.later hb8)
              have HB8 := Lib.hid (HB5.out.trans (hb8.mono HB5.out.size))
              clear hb8 HZ5 HX5 HB5 z0 z1 z2 z3 z4 z5 z6
              obtain ⟨dd, hdd⟩ : ∃ dd : Dd, dd = (⟨1, v0, v1, v2, v3, 0, ⟨R.toArray⟩⟩ : Dd) := ⟨_, rfl⟩
              rw [← hdd] at HD HZ8 ⊢
              clear hdd
              by_cases hf : deedFault dd = 0
              · have HR := Lib.hid (show parseF s.data.toList = (dd, 0) from by rw [HD.out]; unfold chkD; rw [if_pos hf])
                rw [hf]
                obtain ⟨_, ⟨_, z0, z1, z2, z3, z4, z5, z6⟩, _⟩ := HZ8.out
                have hfz := HX8.out.fz
                obtain ⟨_, ⟨_, x0, x1, x2, x3, x4, x5, x6⟩, _⟩ := HX8.out
                have f0 := hfz 0
                have f1 := hfz 1
                have f2 := hfz 2
                have f3 := hfz 3
                have f4 := hfz 4
                have f5 := hfz 5
                have f6 := hfz 6
                clear hfz
                go_wp2
                (have hp := DdB.put7 HX8.out dd; have hq := put7_below HB8.out HXW.out dd; unfold put7 at hp hq; generalize World.setCell _ _ _ = wf at hp hq ⊢; (try clear x0 x1 x2 x3 x4 x5 x6); obtain ⟨_, ⟨_, x0, x1, x2, x3, x4, x5, x6⟩, _⟩ := hp; (try simp only [Exit.inBlock, Exit.then]); refine bodyPost_ret (v := .tuple #[.agg #[.int .i64 dd.Kind, .int .i64 dd.By, .int .i64 dd.No, .int .i64 dd.Seen, .int .i64 dd.At, .int .i64 dd.Many, .string dd.Text], .int .i64 0]) ?_ rfl ⟨by rw [HR.out], hq⟩; rw [results_cell_tmp rfl]; go_simp)
              · have HR := Lib.hid (show parseF s.data.toList = (zDd, deedFault dd) from by rw [HD.out]; unfold chkD; rw [if_neg hf])
                have hfB : decide (deedFault dd = 0) = false := decide_eq_false hf
                have hfN : (deedFault dd != 0) = true := by simpa using hf
                generalize deedFault dd = cf at *
                have hfz := HX8.out.fz
                obtain ⟨_, ⟨_, x0, x1, x2, x3, x4, x5, x6⟩, _⟩ := HX8.out
                have f0 := hfz 0
                have f1 := hfz 1
                have f2 := hfz 2
                have f3 := hfz 3
                have f4 := hfz 4
                have f5 := hfz 5
                have f6 := hfz 6
                clear hfz
                go_wp2
                (have hp := DdB.put7 HX8.out zDd; have hq := put7_below HB8.out HXW.out zDd; unfold put7 zDd at hp hq; (try simp only at hp hq); generalize World.setCell _ _ _ = wf at hp hq ⊢; (try clear x0 x1 x2 x3 x4 x5 x6); obtain ⟨_, ⟨_, x0, x1, x2, x3, x4, x5, x6⟩, _⟩ := hp; (try simp only at x0 x1 x2 x3 x4 x5 x6); (try simp only [Exit.inBlock, Exit.then]); refine bodyPost_ret (v := .tuple #[.agg #[.int .i64 0, .int .i64 0, .int .i64 0, .int .i64 0, .int .i64 0, .int .i64 0, .string ⟨#[]⟩], .int .i64 cf]) ?_ rfl ⟨by rw [HR.out]; rfl, hq⟩; rw [results_cell_tmp rfl]; go_simp)
            · have HKP := Lib.hid (show k = takeB from by rw [← HKK.out, hkt]; rfl)
              subst hkt
              go_wp2_with fail
              refine (number_c ⟨R.toArray⟩ HRL.out w5 (HK.out.later HB5.out)).mono ?_
              rintro e w6 ⟨v, rfl, hv, hb6⟩
              have HZ6 := Lib.hid (HZ5.out.later hb6)
              have HX6 := Lib.hid (HX5.out.later hb6)
              have HB6 := Lib.hid (HB5.out.trans (hb6.mono HB5.out.size))
              clear hb6 HZ5 HX5 HB5
              cases hn : numOf R with
              | none =>
                have HR := Lib.hid (show parseF s.data.toList = (zDd, 3) from parse_bad5 HWS.out (by rw [HKP.out]; decide) hn)
                clear hn hv
                rw [Option.isSome_none]
                have hfz := HX6.out.fz
                obtain ⟨_, ⟨_, x0, x1, x2, x3, x4, x5, x6⟩, _⟩ := HX6.out
                have f0 := hfz 0
                have f1 := hfz 1
                have f2 := hfz 2
                have f3 := hfz 3
                have f4 := hfz 4
                have f5 := hfz 5
                have f6 := hfz 6
                clear hfz
                go_wp2
                (have hp := DdB.put7 HX6.out zDd; have hq := put7_below HB6.out HXW.out zDd; unfold put7 zDd at hp hq; (try simp only at hp hq); generalize World.setCell _ _ _ = wf at hp hq ⊢; (try clear x0 x1 x2 x3 x4 x5 x6); obtain ⟨_, ⟨_, x0, x1, x2, x3, x4, x5, x6⟩, _⟩ := hp; (try simp only at x0 x1 x2 x3 x4 x5 x6); (try simp only [Exit.inBlock, Exit.then]); refine bodyPost_ret (v := .tuple #[.agg #[.int .i64 0, .int .i64 0, .int .i64 0, .int .i64 0, .int .i64 0, .int .i64 0, .string ⟨#[]⟩], .int .i64 3]) ?_ rfl ⟨by rw [HR.out]; rfl, hq⟩; rw [results_cell_tmp rfl]; go_simp)
              | some v' =>
                obtain rfl : v = v' := hv v' hn
                have HN5 := Lib.hid hn
                clear hn hv
                rw [Option.isSome_some]
                have HZ7 := Lib.hid (show DdB (((w6.setCell ⟨Z, 0, none⟩ (.int .i64 2)).setCell ⟨Z, 6, none⟩ (.string ⟨#[]⟩)).setCell ⟨Z, 5, none⟩ (.int .i64 v)) Z ⟨2, v0, v1, v2, v3, v, ⟨#[]⟩⟩ from ((HZ6.out.kind 2).text ⟨#[]⟩).many v)
                have HX7 := Lib.hid (show DdB (((w6.setCell ⟨Z, 0, none⟩ (.int .i64 2)).setCell ⟨Z, 6, none⟩ (.string ⟨#[]⟩)).setCell ⟨Z, 5, none⟩ (.int .i64 v)) X zDd from ((HX6.out.other HXZ.out).other HXZ.out).other HXZ.out)
                have HB7 := Lib.hid (show Below w.heap.size w (((w6.setCell ⟨Z, 0, none⟩ (.int .i64 2)).setCell ⟨Z, 6, none⟩ (.string ⟨#[]⟩)).setCell ⟨Z, 5, none⟩ (.int .i64 v)) from ((HB6.out.setCell HZW.out _).setCell HZW.out _).setCell HZW.out _)
                have g0 := HZ6.out.fz 0
                have g5 := HZ6.out.fz 5
                have g6 := HZ6.out.fz 6
                obtain ⟨_, ⟨_, z0, z1, z2, z3, z4, z5, z6⟩, _⟩ := HZ6.out
                clear HZ6 HX6 HB6
                go_upto_region 19 with fail
                clear g0 g5 g6 z0 z1 z2 z3 z4 z5 z6
                generalize World.setCell _ _ _ = w7 at HZ7 HX7 HB7 ⊢
                have HD := Lib.hid (show parseF s.data.toList = chkD (⟨2, v0, v1, v2, v3, v, ⟨#[]⟩⟩ : Dd) from (parse_take HWS.out HKP.out HNU.out.1 HNU.out.2.1 HNU.out.2.2.1 HNU.out.2.2.2 HN5.out))
                obtain ⟨hZl, ⟨_, z0, z1, z2, z3, z4, z5, z6⟩, _⟩ := HZ7.out
                go_wp2_with fail
                refine (DeedFault_c (⟨2, v0, v1, v2, v3, v, ⟨#[]⟩⟩ : Dd) w7 (Nat.zero_le _)).mono ?_
                rintro e w8 ⟨rfl, hb8⟩
                have HZ8 := Lib.hid (HZ7.out.later hb8)
                have HX8 := Lib.hid (HX7.out.later hb8)
                have HB8 := Lib.hid (HB7.out.trans (hb8.mono HB7.out.size))
                clear hb8 HZ7 HX7 HB7 z0 z1 z2 z3 z4 z5 z6
                obtain ⟨dd, hdd⟩ : ∃ dd : Dd, dd = (⟨2, v0, v1, v2, v3, v, ⟨#[]⟩⟩ : Dd) := ⟨_, rfl⟩
                rw [← hdd] at HD HZ8 ⊢
                clear hdd
                by_cases hf : deedFault dd = 0
                · have HR := Lib.hid (show parseF s.data.toList = (dd, 0) from by rw [HD.out]; unfold chkD; rw [if_pos hf])
                  rw [hf]
                  obtain ⟨_, ⟨_, z0, z1, z2, z3, z4, z5, z6⟩, _⟩ := HZ8.out
                  have hfz := HX8.out.fz
                  obtain ⟨_, ⟨_, x0, x1, x2, x3, x4, x5, x6⟩, _⟩ := HX8.out
                  have f0 := hfz 0
                  have f1 := hfz 1
                  have f2 := hfz 2
                  have f3 := hfz 3
                  have f4 := hfz 4
                  have f5 := hfz 5
                  have f6 := hfz 6
                  clear hfz
                  go_wp2
                  (have hp := DdB.put7 HX8.out dd; have hq := put7_below HB8.out HXW.out dd; unfold put7 at hp hq; generalize World.setCell _ _ _ = wf at hp hq ⊢; (try clear x0 x1 x2 x3 x4 x5 x6); obtain ⟨_, ⟨_, x0, x1, x2, x3, x4, x5, x6⟩, _⟩ := hp; (try simp only [Exit.inBlock, Exit.then]); refine bodyPost_ret (v := .tuple #[.agg #[.int .i64 dd.Kind, .int .i64 dd.By, .int .i64 dd.No, .int .i64 dd.Seen, .int .i64 dd.At, .int .i64 dd.Many, .string dd.Text], .int .i64 0]) ?_ rfl ⟨by rw [HR.out], hq⟩; rw [results_cell_tmp rfl]; go_simp)
                · have HR := Lib.hid (show parseF s.data.toList = (zDd, deedFault dd) from by rw [HD.out]; unfold chkD; rw [if_neg hf])
                  have hfB : decide (deedFault dd = 0) = false := decide_eq_false hf
                  have hfN : (deedFault dd != 0) = true := by simpa using hf
                  generalize deedFault dd = cf at *
                  have hfz := HX8.out.fz
                  obtain ⟨_, ⟨_, x0, x1, x2, x3, x4, x5, x6⟩, _⟩ := HX8.out
                  have f0 := hfz 0
                  have f1 := hfz 1
                  have f2 := hfz 2
                  have f3 := hfz 3
                  have f4 := hfz 4
                  have f5 := hfz 5
                  have f6 := hfz 6
                  clear hfz
                  go_wp2
                  (have hp := DdB.put7 HX8.out zDd; have hq := put7_below HB8.out HXW.out zDd; unfold put7 zDd at hp hq; (try simp only at hp hq); generalize World.setCell _ _ _ = wf at hp hq ⊢; (try clear x0 x1 x2 x3 x4 x5 x6); obtain ⟨_, ⟨_, x0, x1, x2, x3, x4, x5, x6⟩, _⟩ := hp; (try simp only at x0 x1 x2 x3 x4 x5 x6); (try simp only [Exit.inBlock, Exit.then]); refine bodyPost_ret (v := .tuple #[.agg #[.int .i64 0, .int .i64 0, .int .i64 0, .int .i64 0, .int .i64 0, .int .i64 0, .string ⟨#[]⟩], .int .i64 cf]) ?_ rfl ⟨by rw [HR.out]; rfl, hq⟩; rw [results_cell_tmp rfl]; go_simp)
end Go.Proofs.YtneoeokfffnonadDoor
