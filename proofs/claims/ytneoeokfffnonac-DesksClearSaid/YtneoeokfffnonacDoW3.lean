/- The walk of layer 3's Do, bytes that go. -/
import Derived.Test.YtneoeokfffnonacDoW2
set_option linter.unusedVariables false
set_option linter.unusedSimpArgs false
namespace Go.Proofs.Ytneoeokfffnonac
open Go.RowKit

theorem idxV_get (T : List Nat) (j : Nat) (h : j < T.length) : (idxV T)[j]? = some (.int .i64 (T[j] : Int)) := by
  unfold idxV; rw [List.getElem?_map, List.getElem?_eq_getElem h]; rfl
theorem idxV_length (T : List Nat) : (idxV T).length = T.length := by simp [idxV]

set_option maxRecDepth 100000 in
set_option maxHeartbeats 4000000 in
/-- Bytes go. -/
theorem Do_take (a : Option Addr) (cap : Nat) (l : List Ch) (d : Dd) (number : Int) (w : World) (hs : SlCh w a cap l) (hnil : a = none → cap = 0) (hG : ∀ c ∈ l, i64ok c.Gone) (hmay : mayDo l d = 0) (hn : 1 ≤ number) (hk : d.Kind = 2) :
    Calls Try.prog 37 #[.slice a l.length cap, .agg #[.int .i64 d.Kind, .int .i64 d.By, .int .i64 d.No, .int .i64 d.Seen, .int .i64 d.At, .int .i64 d.Many, .string d.Text], .int .i64 number] w fun e w' => ∃ a' cap', e = .returned (.tuple #[.slice a' (doF l d number).1.length cap', .int .i64 (doF l d number).2]) ∧
      OwnRow w' w.heap.size 86 7 a' (doF l d number).1.length cap' (flat (doF l d number).1) ∧ Below w.heap.size w w' := by
  obtain ⟨hf, hcnt, hlen⟩ := mayDo_zero hmay
  obtain ⟨hw, _, _, _, hse, hat, hat2, hq⟩ := deedFault_zero hf
  have hm0 : 1 ≤ d.Many ∧ d.Many ≤ 200 := by rcases hq with ⟨h, _⟩ | ⟨_, h1, h2, _⟩ <;> omega
  have hres : doF l d number = (takeGo d.Seen d.By d.At (d.At + d.Many) number l 0, 0) := by
    rcases doF_cases l d number with ⟨h1, e⟩ | ⟨_, hn, e⟩ | ⟨h1, hn, hk, e⟩ | ⟨h1, hn, hk2, e⟩
    · exact absurd hmay h1
    · omega
    · omega
    · exact e
  have hkB : (d.Kind == 1) = false := by rw [hk]; rfl
  have hrl := takeGo_length d.Seen d.By d.At (d.At + d.Many) number l 0
  have hall := marked_all l d number
  have hb0 := (Below.refl w.heap.size w).alloc (Nat.le_refl _) (.cells #[.int .i64 d.Kind, .int .i64 d.By, .int .i64 d.No, .int .i64 d.Seen, .int .i64 d.At, .int .i64 d.Many, .string d.Text] 24)
  have hd0 := DdAt.new w d
  have hs0 := hs.below hb0
  have HR := Lib.hid hres; have HRL := Lib.hid hrl; have HM := Lib.hid hmay; have HN := Lib.hid hnil; have HALL := Lib.hid hall
  have hT : ∀ W, SlCh W a cap l → Calls Try.prog 89 #[.slice a l.length cap, .agg #[.int .i64 d.Kind, .int .i64 d.By, .int .i64 d.No, .int .i64 d.Seen, .int .i64 d.At, .int .i64 d.Many, .string d.Text]] W fun e w' => ∃ a' cap', e = .returned (.slice a' (takenTo l d l.length).length cap') ∧
      OwnRow w' W.heap.size 3 1 a' (takenTo l d l.length).length cap' (idxV (takenTo l d l.length)) ∧ Below W.heap.size W w' := fun W h => taken_c a cap l d W h (by omega) (by omega) (by omega)
  have HT := Lib.hid hT
  have HND := Lib.hid (takenTo_nodup l d l.length)
  have HMEM := Lib.hid (fun j (h : j < (takenTo l d l.length).length) => takenTo_mem h)
  have hTL := takenTo_le l d l.length
  have hll : l.length ≤ 200 := by omega
  have HG := Lib.hid hG
  have HW := Lib.hid hw
  clear hs hres hrl hmay hnil hT hcnt hf hse hat hat2 hq hm0 hall hG hw hlen hk
  generalize takenTo l d l.length = T at *
  go_enter Try.func37, Try.ntmps37
  go_upto_region 1 with fail
  generalize hw0 : w.alloc (.cells #[.int .i64 d.Kind, .int .i64 d.By, .int .i64 d.No, .int .i64 d.Seen, .int .i64 d.At, .int .i64 d.Many, .string d.Text] 24) = w0 at *
  clear hw0
  obtain ⟨dlt, d0, d1, d2, d3, d4, d5, d6⟩ := hd0
  have hd0 : DdAt w0 w.heap.size d := ⟨dlt, d0, d1, d2, d3, d4, d5, d6⟩
  go_wp2_with fail
  refine (May_c a cap l d _ hs0 (by omega) (by have := (mayDo_zero HM.out).2.2; unfold maxLen; omega) (by have := deedFault_zero (mayDo_zero HM.out).1; unfold i64ok; omega)).mono ?_
  rintro e w1 ⟨rfl, hb1⟩
  rw [HM.out]
  have hd1 := hd0.later hb1
  have hx1 := hb0.trans (hb1.mono hb0.size)
  have hs1 := hs0.below hb1
  clear hb1 hd0 d0 d1 d2 d3 d4 d5 d6 dlt hs0 hb0 HM
  obtain ⟨dl, d0, d1, d2, d3, d4, d5, d6⟩ := hd1
  have hd1 : DdAt w1 w.heap.size d := ⟨dl, d0, d1, d2, d3, d4, d5, d6⟩
  go_wp2_with fail
  refine (Clone_c a cap l _ hs1 (by omega) HN.out).mono ?_
  rintro e w2 ⟨a2, cap2, rfl, ho2, hb2⟩
  have hd2 := hd1.later hb2
  have hs2 := hs1.below hb2
  have hx2 := hx1.trans (hb2.mono hx1.size)
  have HO2 := Lib.hid ho2
  clear hd1 d0 d1 d2 d3 d4 d5 d6 hs1 HN ho2
  have hlt1 : w.heap.size < w1.heap.size := dl
  clear dl
  obtain ⟨dl, d0, d1, d2, d3, d4, d5, d6⟩ := hd2
  have hd2 : DdAt w2 w.heap.size d := ⟨dl, d0, d1, d2, d3, d4, d5, d6⟩
  go_wp2_with fail
  refine (HT.out _ hs2).mono ?_
  rintro e w3 ⟨aT, capT, rfl, hoT, hb3⟩
  have hd3 := hd2.later hb3
  have hx3 := hx2.trans (hb3.mono hx2.size)
  have HO3 := Lib.hid (HO2.out.below hb3)
  have HOT := Lib.hid hoT
  have hne : ∀ q, ownB aT capT = some q → ownB a2 cap2 ≠ some q := fun q hq he => by
    have h1 := (hoT.base_le q hq).1
    have h2 := (HO2.out.base_le q he).2
    omega
  have HNE := Lib.hid hne
  have hsz3 := Nat.le_trans hb2.size hb3.size
  have hbase : ∀ q, ownB a2 cap2 = some q → w1.heap.size ≤ q := fun q hq => (HO2.out.base_le q hq).1
  have HBS := Lib.hid hbase
  have HX3 := Lib.hid hx3
  have HD3 := Lib.hid hd3
  clear hd2 d0 d1 d2 d3 d4 d5 d6 dl hs2 HT hoT hne HO2 hb3 hb2 hx2 hx1 hbase hx3 hd3 hkB
  go_wp2
  go_loopw [11, 37] (fun s11 s37 wr => ∃ j : Nat, j ≤ T.length ∧ s37 = .int .i64 j ∧ Hid (OwnRow wr w1.heap.size 86 7 a2 l.length cap2 (flat (marked l d number T j))) ∧ Hid (w3.grownBy wr (ownB a2 cap2))) (fun _ s37 _ => T.length - (intOf s37).toNat)
  case atStart => exact ⟨0, Nat.zero_le _, rfl, Lib.hid (by rw [marked_zero]; exact HO3.out), Lib.hid (grownBy_refl _ _)⟩
  case round =>
    obtain ⟨j, hj, rfl, HO, HGR⟩ := hrel
    by_cases hlt : j < T.length
    · obtain ⟨hil, htk⟩ := HMEM.out j hlt
      obtain ⟨hms, hmg⟩ := marked_step l d number T HND.out j hlt hil
      have hoTr := HOT.out.of_block (w' := wr) (fun q hq _ hql => HGR.out.block q hql (fun e => HNE.out q hq e.symm))
      obtain ⟨gT, offT, haT, _, _, hcT⟩ := hoTr.cell (by rw [idxV_length]; omega)
      have t0 := hcT j _ (idxV_get T j hlt)
      have hcapT : j < capT := by have := HOT.out.le; omega
      have hgl := HG.out l[T[j]] (List.getElem_mem hil)
      rw [isTaken_at l d T[j] hil] at htk
      have hsee : l[T[j]].sees d.Seen d.By = true := by
        cases h : l[T[j]].sees d.Seen d.By
        · rw [h] at htk; cases htk
        · rfl
      have hL : T[j] < (marked l d number T j).length := by rw [marked_length]; exact hil
      have hLe : (marked l d number T j)[T[j]] = l[T[j]] := by
        rw [List.getElem?_eq_getElem hL] at hmg; exact Option.some.inj hmg
      have hor := gone_or l[T[j]].Gone d.By HW.out (sees_took hsee) hgl
      obtain ⟨b, off, ha2, hc⟩ := (OwnRow.slCh (l := marked l d number T j) (by rw [marked_length]; exact HO.out)).nth hL
      rw [hLe] at hc
      have HMS := Lib.hid hms
      have HLL := Lib.hid (marked_length l d number T j)
      have HLE := Lib.hid hLe
      have HL := Lib.hid hL
      subst ha2
      subst haT
      have hcap0 : cap2 ≠ 0 := by have := HO.out.le; omega
      have hob : ownB (some ⟨b, off, none⟩) cap2 = some b := by simp [ownB, hcap0]
      have hbw : w1.heap.size ≤ b := HBS.out b hob
      obtain ⟨_, _, d1, _, _, _, _, _⟩ := HD3.out.of_block (HGR.out.size) (HGR.out.block w.heap.size HD3.out.lt (by rw [hob]; intro e; cases e; omega))
      have HOB := Lib.hid hob
      generalize hLm : marked l d number T j = L at *
      generalize hi : T[j] = i at *
      generalize hx : l[i] = x at *
      have HOR := Lib.hid hor
      clear hms hmg hoTr hcT hgl htk hsee hLe hor hLm hob hi
      obtain ⟨q0, q1, q2, q3, q4, q5, q6⟩ := hc
      have q5' := q5
      clear q0 q1 q2 q3 q4 q5
      have HO' := Lib.hid HO.out.drew
      have HGR' := Lib.hid (grownBy_trans HGR.out (show wr.grownBy wr.drew (ownB (some ⟨b, off, none⟩) cap2) from ⟨rfl, rfl, rfl, Nat.le_refl _, fun _ _ _ => rfl⟩))
      have hmark : mark d.By number x = ⟨x.C, x.By, x.No, x.K, x.In, if number ≠ 1073741824 ∧ (x.Out = 0 ∨ number < x.Out) then number else x.Out, x.Gone + bitOf d.By⟩ := rfl
      have HMARK := Lib.hid hmark; clear hmark
      have hi200 : i < 200 := by omega
      have hil' : (i : Int) < l.length := by omega
      have hic : (i : Int) < cap2 := by have := HO.out.le; omega
      clear HO HGR
      rcases isWriter_cases HW.out with hb | hb | hb | hb
      all_goals
        have HOR2 := Lib.hid (show bits .or .i64 x.Gone (bitOf d.By) = x.Gone + bitOf d.By from HOR.out)
        rw [hb] at d1
        have HBY := Lib.hid hb
        have HBO := Lib.hid (show bitOf d.By = _ by rw [hb])
        clear hb HOR
        go_upto_region 12 with fail
        go_still_tail 11, (by kernel_rfl)
        change wpList _ _ _ _ _ wr.drew
        generalize wr.drew = wd at *
        refine wpList_store_own1 (cap := cap2) (n := l.length) (base := w1.heap.size) rfl 3 (.tmp 51) (.tmp 49) rfl HO'.out rfl (i * 7 + 6) (.int .i64 (x.Gone + bitOf d.By)) _ rfl (by omega) (by rw [← HOR2.out, HBO.out]; rfl) rfl size_int (by rw [flat_length, HLL.out]; omega) rfl ?_
        intro w4 ho4 hg4
        have hLE := HLE.out
        have HX1 := Lib.hid (flat_set_cell L i 6 hL (by omega) (.int .i64 (x.Gone + bitOf d.By)) ⟨x.C, x.By, x.No, x.K, x.In, x.Out, x.Gone + bitOf d.By⟩ (by rw [hLE]; rfl))
        rw [HX1.out] at ho4
        have HO4 := Lib.hid ho4
        have HGR4 := Lib.hid (grownBy_trans HGR'.out (show wd.grownBy w4 (ownB (some ⟨b, off, none⟩) cap2) by rw [HOB.out]; exact hg4))
        have hL4 : i < (L.set i ⟨x.C, x.By, x.No, x.K, x.In, x.Out, x.Gone + bitOf d.By⟩).length := by rw [List.length_set]; exact hL
        obtain ⟨b4, off4, he4, hc4⟩ := (OwnRow.slCh (l := L.set i ⟨x.C, x.By, x.No, x.K, x.In, x.Out, x.Gone + bitOf d.By⟩) (by rw [List.length_set, HLL.out]; exact HO4.out)).nth hL4
        cases he4
        rw [List.getElem_set_self] at hc4
        obtain ⟨_, _, _, _, _, p5, _⟩ := hc4
        simp only at p5
        clear ho4 hg4 hLE q5' q6 HO' HGR' d1 t0 HOR2 HBY HBO HX1
        cases h1 : (number != 1073741824)
        · have HM2 := Lib.hid (show mark d.By number x = ⟨x.C, x.By, x.No, x.K, x.In, x.Out, x.Gone + bitOf d.By⟩ by
            rw [HMARK.out, if_neg]; intro h; simp only [bne_eq_false_iff_eq] at h1; exact h.1 h1)
          have HF := Lib.hid (show OwnRow w4 w1.heap.size 86 7 (some ⟨b, off, none⟩) l.length cap2 (flat (marked l d number T (j + 1))) by rw [HMS.out, HM2.out]; exact HO4.out)
          clear HM2 HMARK HMS HO4
          go_wp2
          exact ⟨⟨j + 1, by omega, by go_num, HF, HGR4⟩, by simp [intOf]; omega⟩
        · cases h2 : (x.Out == 0)
          · by_cases h3 : number < x.Out
            · have HM2 := Lib.hid (show mark d.By number x = ⟨x.C, x.By, x.No, x.K, x.In, number, x.Gone + bitOf d.By⟩ by
                rw [HMARK.out, if_pos]; exact ⟨by simpa using h1, .inr h3⟩)
              have HX2 := Lib.hid (flat_set_cell (L.set i ⟨x.C, x.By, x.No, x.K, x.In, x.Out, x.Gone + bitOf d.By⟩) i 5 hL4 (by omega) (.int .i64 number) ⟨x.C, x.By, x.No, x.K, x.In, number, x.Gone + bitOf d.By⟩ (by rw [List.getElem_set_self]; rfl))
              go_wp2_with (refine wpList_store_own1 (cap := cap2) (n := l.length) (base := w1.heap.size) rfl 3 (.tmp 75) (.tmp 73) rfl HO4.out rfl (i * 7 + 5) (.int .i64 number) _ rfl (by omega) rfl rfl size_int (by rw [flat_length, List.length_set, HLL.out]; omega) rfl ?_)
              intro w5 ho5 hg5
              rw [HX2.out, List.set_set] at ho5
              have HF := Lib.hid (show OwnRow w5 w1.heap.size 86 7 (some ⟨b, off, none⟩) l.length cap2 (flat (marked l d number T (j + 1))) by rw [HMS.out, HM2.out]; exact ho5)
              have HG5 := Lib.hid (grownBy_trans HGR4.out (show w4.grownBy w5 (ownB (some ⟨b, off, none⟩) cap2) by rw [HOB.out]; exact hg5))
              clear HM2 HMARK HMS HO4 ho5 hg5 HX2
              go_wp2
              exact ⟨⟨j + 1, by omega, by go_num, HF, HG5⟩, by simp [intOf]; omega⟩
            · have HM2 := Lib.hid (show mark d.By number x = ⟨x.C, x.By, x.No, x.K, x.In, x.Out, x.Gone + bitOf d.By⟩ by
                rw [HMARK.out, if_neg]; intro h; rcases h.2 with h | h
                · simp [h] at h2
                · exact h3 h)
              have HF := Lib.hid (show OwnRow w4 w1.heap.size 86 7 (some ⟨b, off, none⟩) l.length cap2 (flat (marked l d number T (j + 1))) by rw [HMS.out, HM2.out]; exact HO4.out)
              have h3' : decide (number < x.Out) = false := by simpa using h3
              clear HM2 HMARK HMS HO4
              go_wp2
              exact ⟨⟨j + 1, by omega, by go_num, HF, HGR4⟩, by simp [intOf]; omega⟩
          · have HM2 := Lib.hid (show mark d.By number x = ⟨x.C, x.By, x.No, x.K, x.In, number, x.Gone + bitOf d.By⟩ by
              rw [HMARK.out, if_pos]; exact ⟨by simpa using h1, .inl (by simpa using h2)⟩)
            have HX2 := Lib.hid (flat_set_cell (L.set i ⟨x.C, x.By, x.No, x.K, x.In, x.Out, x.Gone + bitOf d.By⟩) i 5 hL4 (by omega) (.int .i64 number) ⟨x.C, x.By, x.No, x.K, x.In, number, x.Gone + bitOf d.By⟩ (by rw [List.getElem_set_self]; rfl))
            go_wp2_with (refine wpList_store_own1 (cap := cap2) (n := l.length) (base := w1.heap.size) rfl 3 (.tmp 75) (.tmp 73) rfl HO4.out rfl (i * 7 + 5) (.int .i64 number) _ rfl (by omega) rfl rfl size_int (by rw [flat_length, List.length_set, HLL.out]; omega) rfl ?_)
            intro w5 ho5 hg5
            rw [HX2.out, List.set_set] at ho5
            have HF := Lib.hid (show OwnRow w5 w1.heap.size 86 7 (some ⟨b, off, none⟩) l.length cap2 (flat (marked l d number T (j + 1))) by rw [HMS.out, HM2.out]; exact ho5)
            have HG5 := Lib.hid (grownBy_trans HGR4.out (show w4.grownBy w5 (ownB (some ⟨b, off, none⟩) cap2) by rw [HOB.out]; exact hg5))
            clear HM2 HMARK HMS HO4 ho5 hg5 HX2
            go_wp2
            exact ⟨⟨j + 1, by omega, by go_num, HF, HG5⟩, by simp [intOf]; omega⟩
    · obtain rfl : j = T.length := by omega
      have HE := Lib.hid (HX3.out.trans (below_grownBy HGR.out (Nat.le_of_lt (Nat.lt_of_lt_of_le hlt1 hsz3)) (fun k hk => by have := HBS.out k hk; omega)))
      have HF := Lib.hid (show OwnRow wr w1.heap.size 86 7 a2 l.length cap2 (flat (takeGo d.Seen d.By d.At (d.At + d.Many) number l 0)) by rw [← HALL.out]; exact HO.out)
      clear HO HGR
      go_wp2
      go_ret2
      refine ⟨a2, cap2, ?_, ?_, HE.out⟩
      · rw [HR.out]; show Ending.returned (.tuple #[.slice a2 l.length cap2, _]) = _; rw [HRL.out]; rfl
      · rw [HR.out]; show OwnRow wr w.heap.size 86 7 a2 (takeGo d.Seen d.By d.At (d.At + d.Many) number l 0).length cap2 _; rw [HRL.out]; exact HF.out.mono (by omega)
end Go.Proofs.Ytneoeokfffnonac
