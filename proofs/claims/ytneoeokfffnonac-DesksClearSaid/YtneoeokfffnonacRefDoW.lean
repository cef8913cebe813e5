/- The walk of the reference's Do, a text that comes in. -/
import Derived.Test.YtneoeokfffnonacRefFoldW
set_option linter.unusedVariables false
set_option linter.unusedSimpArgs false
namespace Go.Proofs.Ytneoeokfffnonac
open Go.RowKit

set_option maxRecDepth 100000 in
set_option maxHeartbeats 2000000 in
/-- A text comes in. -/
theorem RDo_put (a : Option Addr) (cap : Nat) (l : List Ch) (d : Dd) (number : Int) (w : World) (hs : SlCh w a cap l) (hnil : a = none → cap = 0) (hG : ∀ c ∈ l, i64ok c.Gone) (hmay : mayDo l d = 0) (hn : 1 ≤ number) (hk : d.Kind = 1) :
    Calls Try.prog 78 #[.slice a l.length cap, .agg #[.int .i64 d.Kind, .int .i64 d.By, .int .i64 d.No, .int .i64 d.Seen, .int .i64 d.At, .int .i64 d.Many, .string d.Text], .int .i64 number] w fun e w' => ∃ a' cap', e = .returned (.tuple #[.slice a' (doF l d number).1.length cap', .int .i64 (doF l d number).2]) ∧
      OwnRow w' w.heap.size 86 7 a' (doF l d number).1.length cap' (flat (doF l d number).1) ∧ Below w.heap.size w w' := by
  obtain ⟨hf, hcnt, hlen⟩ := mayDo_zero hmay
  obtain ⟨_, _, _, _, hse, hat, hat2, hq⟩ := deedFault_zero hf
  have hm0 : d.Many = 0 := by rcases hq with ⟨_, h, _⟩ | ⟨h, _⟩ <;> omega
  have hput := putAt_le l d
  have hres : doF l d number = (l.take (putAt l d) ++ newOf d number ++ l.drop (putAt l d), 0) := by
    rcases doF_cases l d number with ⟨h1, e⟩ | ⟨_, hn, e⟩ | ⟨h1, hn, hk, e⟩ | ⟨h1, hn, hk2, e⟩
    · exact absurd hmay h1
    · omega
    · exact e
    · omega
  have hrl : (l.take (putAt l d) ++ newOf d number ++ l.drop (putAt l d)).length = l.length + (newOf d number).length := by
    simp only [List.length_append, List.length_take, List.length_drop]; omega
  have hnl := newOf_length d number
  obtain ⟨b, hbe, hbl⟩ := behind_nonneg d.Seen d.By l d.At hat (by omega)
  have HPB := Lib.hid (show putAt l d = skip d.By l b by unfold putAt; rw [hbe]; rfl)
  have HBH := Lib.hid (fun (W : World) (h : SlCh W a cap l) => show Calls Try.prog 107 #[.slice a l.length cap, .int .i64 d.Seen, .int .i64 d.By, .int .i64 d.At] W fun e w' => e = .returned (.int .i64 (b : Int)) ∧ Below W.heap.size W w' by
    rw [← hbe]; exact BehindOf_c a cap l _ _ _ W h hG)
  have hb0 := (Below.refl w.heap.size w).alloc (Nat.le_refl _) (.cells #[.int .i64 d.Kind, .int .i64 d.By, .int .i64 d.No, .int .i64 d.Seen, .int .i64 d.At, .int .i64 d.Many, .string d.Text] 24)
  have hd0 := DdAt.new w d
  have hs0 := hs.below hb0
  have hkB : (d.Kind == 1) = true := by rw [hk]; rfl
  have HR := Lib.hid hres; have HRL := Lib.hid hrl; have HM := Lib.hid hmay; have HG := Lib.hid hG; have HNL := Lib.hid hnil
  have HW := Lib.hid (fun (W : World) => show Calls Try.prog 108 #[.agg #[.int .i64 d.Kind, .int .i64 d.By, .int .i64 d.No, .int .i64 d.Seen, .int .i64 d.At, .int .i64 d.Many, .string d.Text], .int .i64 number] W fun e w' => ∃ a' cap', e = .returned (.slice a' (newOf d number).length cap') ∧
      OwnRow w' W.heap.size 86 7 a' (newOf d number).length cap' (flat (newOf d number)) ∧ Below W.heap.size W w' from BytesOf_c d number W (by omega))
  have hNS : (newOf d number).length ≤ 200 := by omega
  have HTI := Lib.hid (show d.Text.size ≤ maxLen by unfold maxLen; omega)
  clear hs hres hrl hmay hcnt hf hnil hse hat hat2 hq hm0 hnl hk hG hbe
  generalize newOf d number = NW at *
  generalize hat' : putAt l d = at' at *
  clear hat'
  go_enter Try.func78, Try.ntmps78
  go_upto_region 1 with fail
  generalize hw0 : w.alloc (.cells #[.int .i64 d.Kind, .int .i64 d.By, .int .i64 d.No, .int .i64 d.Seen, .int .i64 d.At, .int .i64 d.Many, .string d.Text] 24) = w0 at *
  clear hw0
  obtain ⟨dlt, d0, d1, d2, d3, d4, d5, d6⟩ := hd0
  have hd0 : DdAt w0 w.heap.size d := ⟨dlt, d0, d1, d2, d3, d4, d5, d6⟩
  go_wp2_with fail
  refine (MayDo_c a cap l d _ hs0 (by omega) HTI.out HG.out).mono ?_
  rintro e w1 ⟨rfl, hb1⟩
  rw [HM.out]
  have hd1 := hd0.later hb1
  have hx1 := hb0.trans (hb1.mono hb0.size)
  have hs1 := hs0.below hb1
  have hlt1 : w.heap.size < w1.heap.size := Nat.lt_of_lt_of_le dlt hb1.size
  clear hb1 hd0 d0 d1 d2 d3 d4 d5 d6 dlt hs0 hb0 HM HG HTI
  obtain ⟨dl, d0, d1, d2, d3, d4, d5, d6⟩ := hd1
  have hd1 : DdAt w1 w.heap.size d := ⟨dl, d0, d1, d2, d3, d4, d5, d6⟩
  go_wp2_with fail
  refine (HBH.out _ hs1).mono ?_
  rintro e w2 ⟨rfl, hb2⟩
  have HD2 := Lib.hid (hd1.later hb2)
  have hs2 := hs1.below hb2
  have hx2 := hx1.trans (hb2.mono hx1.size)
  have hlt2 : w.heap.size < w2.heap.size := Nat.lt_of_lt_of_le hlt1 hb2.size
  clear hb2 hd1 d0 d1 d2 d3 d4 d5 d6 dl hs1 hx1 HBH hlt1
  have hlc := hs2.1
  go_wp2
  go_loopw [10] (fun s10 wr => ∃ k : Nat, k ≤ l.length ∧ s10 = .int .i64 k ∧ Hid (skip d.By l k = skip d.By l b) ∧ Below w2.heap.size w2 wr) (fun s10 _ => l.length - (intOf s10).toNat)
  case atStart => exact ⟨b, hbl, rfl, Lib.hid rfl, Below.refl _ _⟩
  case round =>
    obtain ⟨k, hk, rfl, HS, hb⟩ := hrel
    obtain ⟨dl, d0, d1, d2, d3, d4, d5, d6⟩ := HD2.out.later hb
    have HX := Lib.hid (hx2.trans (hb.mono hx2.size))
    have HSr := Lib.hid (hs2.below hb)
    have HDr := Lib.hid (HD2.out.later hb)
    clear d0 d2 d3 d4 d5 d6
    have hk0 : (0 : Int) ≤ (k : Int) := by omega
    have HLast := Lib.hid (fun (h : ∀ h1 : k < l.length, openOther d.By l[k] = false) => show k = at' from by
      rw [HPB.out, ← HS.out]
      rcases Nat.lt_or_ge k l.length with h1 | h1
      · rw [skip_step _ _ _ h1, if_neg]
        rw [h h1]; simp
      · rw [skip_end _ _ _ h1])
    go_upto_region 9 with fail
    go_cut [56] (fun s56 wx => (∃ B : Bool, s56 = .bool B ∧ (B = true → k < l.length ∧ skip d.By l (k + 1) = skip d.By l b) ∧ (B = false → k = at')) ∧ Below wr.heap.size wr wx)
    case first =>
      have HBr := Lib.hid (fun n => bl_drewN (Below.refl wr.heap.size wr) n)
      by_cases hlt : k < l.length
      · obtain ⟨bb, off, rfl, hc⟩ := HSr.out.nth hlt
        obtain ⟨q0, q1, q2, q3, q4, q5, q6⟩ := hc
        clear q0 q2 q3 q5 q6
        have HK := Lib.hid (skip_step d.By l k hlt)
        have HLT := Lib.hid hlt
        have hlt' : (k : Int) < l.length := by omega
        have hltB : decide ((k : Int) < (l.length : Int)) = true := by simp; omega
        have HL2 := Lib.hid (fun (h : openOther d.By l[k] = false) => HLast.out (fun _ => h))
        have HS2 := Lib.hid (fun (h : openOther d.By l[k] = true) => show skip d.By l (k + 1) = skip d.By l b from (HK.out.trans (if_pos h)).symm.trans HS.out)
        clear HK HLast
        generalize l[k] = x at *
        cases h1 : (x.In == 1073741824)
        · have HE := Lib.hid (HL2.out (by unfold openOther; rw [h1]; rfl))
          clear HL2 HS2
          go_quiet (fail)
          go_wp2
          go_meet
          exact ⟨⟨false, rfl, fun h => (by cases h), fun _ => HE.out⟩, HBr.out _⟩
        · have HE := Lib.hid (fun (h : (x.By != d.By) = false) => HL2.out (by unfold openOther; rw [h1, h]; rfl))
          have HE2 := Lib.hid (fun (h : (x.By != d.By) = true) => HS2.out (by unfold openOther; rw [h1, h]; rfl))
          clear HL2 HS2
          go_quiet (fail)
          go_wp2
          go_meet
          exact ⟨⟨x.By != d.By, rfl, fun h => ⟨HLT.out, HE2.out h⟩, fun h => HE.out h⟩, HBr.out _⟩
      · have hltB : decide ((k : Int) < (l.length : Int)) = false := by simp; omega
        have hltN : decide (k < l.length) = false := by simp; omega
        have HE := Lib.hid (HLast.out (fun h => absurd h hlt))
        clear HLast hlt
        go_quiet (fail)
        go_wp2
        go_meet
        exact ⟨⟨false, rfl, fun h => (by cases h), fun _ => HE.out⟩, HBr.out _⟩
    case rest =>
      obtain ⟨⟨B, rfl, hBt, hBf⟩, hbx⟩ := hcut
      have hbr := hb.trans (hbx.mono hb.size)
      cases B
      case true =>
        obtain ⟨h1, h2⟩ := hBt rfl
        clear hBt hBf d1
        go_wp2
        exact ⟨⟨k + 1, by omega, by go_num, Lib.hid h2, hbr⟩, by simp [intOf]; omega⟩
      case false =>
        obtain rfl := hBf rfl
        clear hBt hBf d1 HLast hb
        have HSx := Lib.hid (hs2.below hbr)
        have HDx := Lib.hid (HD2.out.later hbr)
        go_upto_region 11 with fail
        have hkl := hk
        have hbW := hx2.trans (hbr.mono hx2.size)
        have hsz := hbW.size
        obtain ⟨dl, d0, d1, d2, d3, d4, d5, d6⟩ := HDx.out
        have hcap := HSx.out.1
        have hkc : (k : Int) ≤ (cap : Int) := by omega
        have HNB := Lib.hid hNS
        cases a with
        | none =>
          have HCK := Lib.hid (show cap = k from by have : cap = 0 := HNL.out rfl; omega)
          have HXC := Lib.hid (show k = 0 ∨ ∃ ad', (none : Option Addr) = some ad' ∧ ∀ j u, (flat (l.take k))[j]? = some u → wc.drew.cell? (ad'.add j) = some u from by
            rcases HSx.out.take_cells k with h | h | ⟨x, hx, hc⟩
            · exact .inl h
            · exact .inl (by omega)
            · exact .inr ⟨x, hx, hc⟩)
          have hfl : (flat (l.take k)).length = k * 7 := by rw [flat_length, List.length_take]; congr 1; omega
          have HFL := Lib.hid hfl
          clear hfl hNS
          have HSV := Lib.hid (show ∀ W, Below wc.heap.size wc W → DdAt W w.heap.size d from fun W hW => HDx.out.later hW)
          have HWC := Lib.hid (Below.refl wc.heap.size wc)
          go_region_held3 (fun w' => (w'.cell? ⟨w.heap.size, 0, none⟩ = some (.int .i64 d.Kind) ∧ w'.cell? ⟨w.heap.size, 1, none⟩ = some (.int .i64 d.By) ∧ w'.cell? ⟨w.heap.size, 2, none⟩ = some (.int .i64 d.No) ∧ w'.cell? ⟨w.heap.size, 3, none⟩ = some (.int .i64 d.Seen) ∧ w'.cell? ⟨w.heap.size, 4, none⟩ = some (.int .i64 d.At) ∧ w'.cell? ⟨w.heap.size, 5, none⟩ = some (.int .i64 d.Many) ∧ w'.cell? ⟨w.heap.size, 6, none⟩ = some (.string d.Text)))
            (first
              | go_keep
              | exact ⟨d0, d1, d2, d3, d4, d5, d6⟩
              | (refine ⟨(HSV.out _ ?_).c0, (HSV.out _ ?_).c1, (HSV.out _ ?_).c2, (HSV.out _ ?_).c3, (HSV.out _ ?_).c4, (HSV.out _ ?_).c5, (HSV.out _ ?_).c6⟩ <;> assumption))
            ((first
              | (refine step_append_row wc.drew rfl _ _ 41 rfl wc.heap.size 86 7 56 Try.underlying41 ti_Char none 0 0 [] rfl (OwnRow.nil _ _ _ _ _) none k cap (flat (l.take k)) rfl HFL.out HXC.out (flat_one _) (by omega) (Nat.le_refl _) ?_
                 intro a3 cap3 w3 hown3 hg3
                 have hl3 : Below wc.heap.size wc w3 := (bl_drewN (Below.refl wc.heap.size wc) 1).trans (below_grownBy hg3 (Nat.le_refl _) (fun k hk => by simp [ownB] at hk))
                 have hown3 : OwnRow w3 wc.heap.size 86 7 a3 k cap3 (flat (l.take k)) := by simpa using hown3)
              | (go_at_call 108; refine (HW.out _).mono ?_; rintro e w4 ⟨a4, cap4, rfl, ho4, hb4⟩
                 have hl4 : Below wc.heap.size wc w4 := hl3.trans (hb4.mono hl3.size)
                 have ho3 := hown3.below hb4)
              | (refine step_append_row w4 rfl _ _ 41 rfl wc.heap.size 86 7 56 Try.underlying41 ti_Char a3 k cap3 (flat (l.take k)) rfl ho3 a4 NW.length cap4 (flat NW) rfl (flat_length _) (by
                   rcases ho4.slCh.take_cells NW.length with h | h | ⟨x, hx, hc⟩
                   · exact .inl h
                   · exact .inl h
                   · exact .inr ⟨x, hx, by rw [List.take_length] at hc; exact hc⟩) (flat_one _) (by have := HNB.out; omega) hl4.size ?_
                 intro a5 cap5 w5 ho5 hg5
                 have hl5 : Below wc.heap.size wc w5 := hl4.trans (below_grownBy hg5 hl4.size (fun k hk => (ho3.base_le k hk).1)))))
          have HO5 := Lib.hid ho5
          have HL5 := Lib.hid hl5
          clear ho5 hl5 hg5
          have hck := HCK.out
          clear HCK
          subst hck
          have hlk : l.length - cap = 0 := by omega
          go_wp2_with (at_builtin; refine wpList_append_row w5 rfl (.tmp 68) (.tmp 71) 41 rfl wc.heap.size 86 7 56 Try.underlying41 ti_Char a5 (cap + NW.length) cap5 _ rfl HO5.out none 0 0 [] rfl rfl (.inl rfl) (fun u hu => by cases hu) (by have := HNB.out; omega) HL5.out.size ?_)
          intro a6 cap6 w6 ho6 hg6
          intros
          have hl6 := HL5.out.trans (below_grownBy hg6 HL5.out.size (fun j hj => (HO5.out.base_le j hj).1))
          have HX6 := Lib.hid (hbW.trans (hl6.mono hbW.size))
          have HO6 := Lib.hid ho6
          clear ho6 hg6 hl6
          go_wp2
          go_ret2
          refine ⟨a6, cap6, ?_, ?_, HX6.out⟩
          · rw [HR.out]
            simp only
            rw [HRL.out, show l.length + NW.length = cap + NW.length by omega]
            rfl
          · rw [HR.out]
            simp only
            rw [HRL.out, show l.length + NW.length = cap + NW.length by omega, flat_append, flat_append]
            have := HO6.out.mono (base' := w.heap.size) hsz
            rw [List.drop_of_length_le (by omega)]
            simpa [flat] using this
        | some ad =>
          have HXC := Lib.hid (show k = 0 ∨ ∃ ad', (some ad : Option Addr) = some ad' ∧ ∀ j u, (flat (l.take k))[j]? = some u → wc.drew.cell? (ad'.add j) = some u from by
            rcases HSx.out.take_cells k with h | h | ⟨x, hx, hc⟩
            · exact .inl h
            · exact .inl (by omega)
            · exact .inr ⟨x, hx, hc⟩)
          have hfl : (flat (l.take k)).length = k * 7 := by rw [flat_length, List.length_take]; congr 1; omega
          have HFL := Lib.hid hfl
          clear hfl hNS
          have HSV := Lib.hid (show ∀ W, Below wc.heap.size wc W → DdAt W w.heap.size d from fun W hW => HDx.out.later hW)
          have HWC := Lib.hid (Below.refl wc.heap.size wc)
          go_region_held3 (fun w' => (w'.cell? ⟨w.heap.size, 0, none⟩ = some (.int .i64 d.Kind) ∧ w'.cell? ⟨w.heap.size, 1, none⟩ = some (.int .i64 d.By) ∧ w'.cell? ⟨w.heap.size, 2, none⟩ = some (.int .i64 d.No) ∧ w'.cell? ⟨w.heap.size, 3, none⟩ = some (.int .i64 d.Seen) ∧ w'.cell? ⟨w.heap.size, 4, none⟩ = some (.int .i64 d.At) ∧ w'.cell? ⟨w.heap.size, 5, none⟩ = some (.int .i64 d.Many) ∧ w'.cell? ⟨w.heap.size, 6, none⟩ = some (.string d.Text)))
            (first
              | go_keep
              | exact ⟨d0, d1, d2, d3, d4, d5, d6⟩
              | (refine ⟨(HSV.out _ ?_).c0, (HSV.out _ ?_).c1, (HSV.out _ ?_).c2, (HSV.out _ ?_).c3, (HSV.out _ ?_).c4, (HSV.out _ ?_).c5, (HSV.out _ ?_).c6⟩ <;> assumption))
            ((first
              | (refine step_append_row wc.drew rfl _ _ 41 rfl wc.heap.size 86 7 56 Try.underlying41 ti_Char none 0 0 [] rfl (OwnRow.nil _ _ _ _ _) (some ad) k cap (flat (l.take k)) rfl HFL.out HXC.out (flat_one _) (by omega) (Nat.le_refl _) ?_
                 intro a3 cap3 w3 hown3 hg3
                 have hl3 : Below wc.heap.size wc w3 := (bl_drewN (Below.refl wc.heap.size wc) 1).trans (below_grownBy hg3 (Nat.le_refl _) (fun k hk => by simp [ownB] at hk))
                 have hown3 : OwnRow w3 wc.heap.size 86 7 a3 k cap3 (flat (l.take k)) := by simpa using hown3)
              | (go_at_call 108; refine (HW.out _).mono ?_; rintro e w4 ⟨a4, cap4, rfl, ho4, hb4⟩
                 have hl4 : Below wc.heap.size wc w4 := hl3.trans (hb4.mono hl3.size)
                 have ho3 := hown3.below hb4)
              | (refine step_append_row w4 rfl _ _ 41 rfl wc.heap.size 86 7 56 Try.underlying41 ti_Char a3 k cap3 (flat (l.take k)) rfl ho3 a4 NW.length cap4 (flat NW) rfl (flat_length _) (by
                   rcases ho4.slCh.take_cells NW.length with h | h | ⟨x, hx, hc⟩
                   · exact .inl h
                   · exact .inl h
                   · exact .inr ⟨x, hx, by rw [List.take_length] at hc; exact hc⟩) (flat_one _) (by have := HNB.out; omega) hl4.size ?_
                 intro a5 cap5 w5 ho5 hg5
                 have hl5 : Below wc.heap.size wc w5 := hl4.trans (below_grownBy hg5 hl4.size (fun k hk => (ho3.base_le k hk).1)))))
          have HO5 := Lib.hid ho5
          have HL5 := Lib.hid hl5
          clear ho5 hl5 hg5
          have HDN := Lib.hid (show ∀ (xa : Option Addr), (k < l.length → xa = some (ad.add (k * 7))) → l.length - k = 0 ∨ ∃ ad', xa = some ad' ∧ ∀ j u, (flat (l.drop k))[j]? = some u → w5.cell? (ad'.add j) = some u from fun xa hxa => by
            rcases Nat.lt_or_ge k l.length with h | h
            · right
              obtain ⟨bb, off, e, _⟩ := HSx.out.nth h
              cases e
              exact ⟨_, hxa h, by rw [Addr.add_lit]; exact SlCh.drop_cells (HSx.out.below HL5.out) k⟩
            · exact .inl (by omega))
          by_cases hck : cap = k
          · subst hck
            have hlk : l.length - cap = 0 := by omega
            go_wp2_with (at_builtin; refine wpList_append_row w5 rfl (.tmp 68) (.tmp 71) 41 rfl wc.heap.size 86 7 56 Try.underlying41 ti_Char a5 (cap + NW.length) cap5 _ rfl HO5.out (some ad) 0 0 [] rfl rfl (.inl rfl) (fun u hu => by cases hu) (by have := HNB.out; omega) HL5.out.size ?_)
            intro a6 cap6 w6 ho6 hg6
            intros
            have hl6 := HL5.out.trans (below_grownBy hg6 HL5.out.size (fun j hj => (HO5.out.base_le j hj).1))
            have HX6 := Lib.hid (hbW.trans (hl6.mono hbW.size))
            have HO6 := Lib.hid ho6
            clear ho6 hg6 hl6
            go_wp2
            go_ret2
            refine ⟨a6, cap6, ?_, ?_, HX6.out⟩
            · rw [HR.out]
              simp only
              rw [HRL.out, show l.length + NW.length = cap + NW.length by omega]
              rfl
            · rw [HR.out]
              simp only
              rw [HRL.out, show l.length + NW.length = cap + NW.length by omega, flat_append, flat_append]
              have := HO6.out.mono (base' := w.heap.size) hsz
              rw [List.drop_of_length_le (by omega)]
              simpa [flat] using this
          · rcases Nat.eq_zero_or_pos l.length with hl0 | hl0
            · obtain rfl : k = 0 := by omega
              have hck2 : (cap = 0) = False := by simpa using hck
              have HO5' := Lib.hid (show OwnRow w5 wc.heap.size 86 7 a5 NW.length cap5 (flat NW) from by simpa [flat] using HO5.out)
              go_wp2_with (at_builtin; (refine wpList_append_row w5 rfl (.tmp 68) (.tmp 71) 41 rfl wc.heap.size 86 7 56 Try.underlying41 ti_Char a5 (0 + NW.length) cap5 _ rfl HO5.out _ _ _ [] rfl (by simp <;> omega) (.inl (by omega)) (fun u hu => by cases hu) (by have := HNB.out; omega) HL5.out.size ?_))
              intro a6 cap6 w6 ho6 hg6
              intros
              have hl6 := HL5.out.trans (below_grownBy hg6 HL5.out.size (fun j hj => (HO5.out.base_le j hj).1))
              have HX6 := Lib.hid (hbW.trans (hl6.mono hbW.size))
              have HO6 := Lib.hid ho6
              clear ho6 hg6 hl6
              go_wp2
              go_ret2
              refine ⟨a6, cap6, ?_, ?_, HX6.out⟩
              · rw [HR.out]
                simp only
                rw [HRL.out, show l.length + NW.length = NW.length + 0 by omega]
                rfl
              · rw [HR.out]
                simp only
                rw [HRL.out, show l.length + NW.length = NW.length + 0 by omega, flat_append, flat_append]
                have := HO6.out.mono (base' := w.heap.size) hsz
                rw [List.drop_of_length_le (by omega)]
                simpa [flat] using this
            · obtain ⟨bb, off, rfl⟩ : ∃ bb off, ad = ⟨bb, off, none⟩ := by
                obtain ⟨bb, off, e, _⟩ := HSx.out.nth hl0; cases e; exact ⟨_, _, rfl⟩
              have hck2 : (cap = k) = False := by simpa using hck
              go_wp2_with (at_builtin; refine wpList_append_row w5 rfl (.tmp 68) (.tmp 71) 41 rfl wc.heap.size 86 7 56 Try.underlying41 ti_Char a5 (k + NW.length) cap5 _ rfl HO5.out (some ⟨bb, off + k * 7, none⟩) (l.length - k) (cap - k) (flat (l.drop k)) rfl (by rw [flat_length, List.length_drop]) (HDN.out _ (fun h => by rw [Addr.add_lit])) (flat_one _) (by have := HNB.out; omega) HL5.out.size ?_)
              intro a6 cap6 w6 ho6 hg6
              intros
              have hl6 := HL5.out.trans (below_grownBy hg6 HL5.out.size (fun j hj => (HO5.out.base_le j hj).1))
              have HX6 := Lib.hid (hbW.trans (hl6.mono hbW.size))
              have HO6 := Lib.hid ho6
              clear ho6 hg6 hl6
              go_wp2
              go_ret2
              refine ⟨a6, cap6, ?_, ?_, HX6.out⟩
              · rw [HR.out]
                simp only
                rw [HRL.out, show l.length + NW.length = k + NW.length + (l.length - k) by omega]
                rfl
              · rw [HR.out]
                simp only
                rw [HRL.out, show l.length + NW.length = k + NW.length + (l.length - k) by omega, flat_append, flat_append]
                have := HO6.out.mono (base' := w.heap.size) hsz
                simpa using this
end Go.Proofs.Ytneoeokfffnonac
