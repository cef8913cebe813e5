/- Printed by gentells.py: the walk of the law WriterTells. -/
import Derived.Test.YtneoeokfffnonabRoomT
set_option linter.unusedVariables false
set_option linter.unusedSimpArgs false
namespace Go.Proofs.Ytneoeokfffnonab
open Go.RowKit
theorem Ar4.new (w : World) : Ar4 (w.alloc (.cells #[.int .i64 0, .int .i64 0, .int .i64 0, .int .i64 0] 41)) w.heap.size (fun _ => 0) := by
  refine ⟨by simp, fun j hj => ?_, fun j hj => by simp⟩
  obtain rfl | rfl | rfl | rfl : j = 0 ∨ j = 1 ∨ j = 2 ∨ j = 3 := by omega
  all_goals simp
theorem done_le {d : DkM} (h : d.Ok) (hs : d.Sm 1000) (w : Int) : 0 ≤ d.done w ∧ d.done w ≤ 2000 := by
  unfold DkM.done
  cases hw : d.writer w with
  | none => simp
  | some m =>
    obtain ⟨_, _, _, t, hin⟩ := h.of_writer hw
    have := hin.next_le h.lm 1000 (hs.writer hw)
    simp only
    omega
theorem opnLen_le {d : DkM} (hs : d.Sm 1000) (w : Int) : d.opnLen w ≤ 1000 := by
  unfold DkM.opnLen
  cases hw : d.writer w with
  | none => simp
  | some m => exact hs.writer hw
set_option maxRecDepth 100000 in
set_option maxHeartbeats 20000000 in
theorem WriterTells_c (a : Option Addr) (cap : Nat) (l : List RStep) (w : World) (hs : SlRs w a cap l) (hok : ∀ x ∈ l, x.ok) :
    Calls Try.prog 13 #[.slice a l.length cap] w fun e w' => e = .returned (.bool true) ∧ Below w.heap.size w w' := by
  have HOK := Lib.hid hok
  clear hok
  go_enter Try.func13, Try.ntmps13
  go_wp2_with fail
  refine (writerBegun_c w).mono ?_
  rintro e w1 ⟨rfl, hb1⟩
  have HS1 := Lib.hid (hs.below hb1)
  have HB1 := Lib.hid hb1
  clear hs hb1
  go_wp2_with fail
  refine (greatRoom_c a cap l w1 HS1.out).mono ?_
  rintro e w2 ⟨r, rfl, rfl, hr⟩
  cases r
  case true =>
    go_wp2
    go_ret
    exact ⟨rfl, HB1.out⟩
  obtain ⟨hl160, _⟩ := hr rfl
  clear hr
  go_wp2_with fail
  refine (newRoom_c w2).mono ?_
  rintro e w3 ⟨F0, g, gw0, gs0, rfl, hR, hb3⟩
  have ht3 : TlAt w2 w2.heap.size g (fun _ => False) DkM.new w3 := ⟨⟨F0, gw0, gs0, hR, fun k hk => hk.elim⟩, hb3⟩
  have HT3 := Lib.hid ht3
  clear hR hb3 ht3
  go_upto_region 7 with fail
  generalize hw4 : World.alloc (World.alloc w3 _) _ = w4
  have hw4' : (w3.alloc (.cells #[.int .i64 0, .int .i64 0, .int .i64 0, .int .i64 0] 41)).alloc (.cells #[.int .i64 0, .int .i64 0, .int .i64 0, .int .i64 0] 41) = w4 := hw4
  have hbA : Below w3.heap.size w3 (w3.alloc (.cells #[.int .i64 0, .int .i64 0, .int .i64 0, .int .i64 0] 41)) := (Below.refl w3.heap.size w3).alloc (Nat.le_refl _) _
  have hbB : Below (w3.alloc (.cells #[.int .i64 0, .int .i64 0, .int .i64 0, .int .i64 0] 41)).heap.size (w3.alloc (.cells #[.int .i64 0, .int .i64 0, .int .i64 0, .int .i64 0] 41)) w4 := by rw [← hw4']; exact (Below.refl _ _).alloc (Nat.le_refl _) _
  have hsz : (w3.alloc (.cells #[.int .i64 0, .int .i64 0, .int .i64 0, .int .i64 0] 41)).heap.size = w3.heap.size + 1 := by simp
  have hsz4 : w4.heap.size = w3.heap.size + 2 := by rw [← hw4']; simp
  have HD4 := Lib.hid ((Ar4.new w3).later hbB)
  have HS4 := Lib.hid (show Ar4 w4 (w3.heap.size + 1) (fun _ => 0) from by rw [← hw4', ← hsz]; exact Ar4.new _)
  have HT4 := Lib.hid (((HT3.out.add hbA w3.heap.size (Nat.le_refl _) (by omega)).add hbB (w3.heap.size + 1) (by omega) (by omega)).mono (N' := fun k => k = w3.heap.size ∨ k = w3.heap.size + 1) (fun k hk => by
    rcases hk with rfl | rfl
    · exact .inl (.inr rfl)
    · exact .inr rfl))
  have hDw := HT3.out.size
  clear hw4 hw4' hbA hbB hsz hsz4 HT3
  obtain ⟨D, hD⟩ : ∃ D, D = w3.heap.size := ⟨_, rfl⟩
  rw [← hD] at HD4 HS4 HT4 hDw ⊢
  obtain ⟨S, hS⟩ : ∃ S, S = D + 1 := ⟨_, rfl⟩
  rw [← hS] at HS4 HT4 ⊢
  have HDS := Lib.hid (show D ≠ S by omega)
  have HDB := Lib.hid hDw
  have HSB := Lib.hid (show w2.heap.size ≤ S by omega)
  clear hD hS hDw
  have HI0 := Lib.hid (show RIn DkM.new ∧ DkM.new.Sm 0 ∧ TlAt w2 w2.heap.size g (fun k => k = D ∨ k = S) DkM.new w4 ∧ Ar4 w4 D (fun j => DkM.new.done (j : Int)) ∧ Ar4 w4 S (fun j => cntBy (j : Int) DkM.new.lm.L) from
    ⟨RIn.new, DkM.new_sm, HT4.out, HD4.out.congr (fun j hj => by
      unfold DkM.done DkM.writer DkM.new
      rw [if_pos (isWriter_nat hj)]), HS4.out.congr (fun j hj => rfl)⟩)
  clear HT4 HD4 HS4
  go_wp2
  go_loopw [6] (fun s6 wr => ∃ (k : Nat) (d : DkM), k ≤ l.length ∧ s6 = (.int .i64 k) ∧ Hid (RIn d ∧ d.Sm k ∧ TlAt w2 w2.heap.size g (fun k => k = D ∨ k = S) d wr ∧ Ar4 wr D (fun j => d.done (j : Int)) ∧ Ar4 wr S (fun j => cntBy (j : Int) d.lm.L))) (fun s6 _ => l.length - (intOf s6).toNat)
  case atStart => exact ⟨0, DkM.new, Nat.zero_le _, rfl, HI0⟩
  case round => as_aux_lemma =>
    obtain ⟨k, d, hk, rfl, HI⟩ := hrel
    clear HI0
    by_cases hlt : k < l.length
    · have HSr := Lib.hid (HS1.out.below HI.out.2.2.1.bl)
      obtain ⟨bb, off, rfl, hq⟩ := HSr.out.nth hlt
      have HX := Lib.hid (HOK.out l[k] (List.getElem_mem hlt))
      have hlt' : (k : Int) < l.length := by omega
      have hk0 : (0 : Int) ≤ (k : Int) := by omega
      generalize l[k] = x at *
      obtain ⟨q0, q1, q2, q3, q4⟩ := hq
      have HRI := Lib.hid HI.out.1
      have HO := Lib.hid HI.out.1.ok
      have HSM := Lib.hid (show d.Sm 1000 from HI.out.2.1.mono (by omega))
      have HSK := Lib.hid HI.out.2.1
      have HTr := Lib.hid HI.out.2.2.1
      have HDr := Lib.hid HI.out.2.2.2.1
      have HSr4 := Lib.hid HI.out.2.2.2.2
      clear HI HSr
      go_upto_region 11 with fail
      generalize hw5 : wr.alloc _ = w5
      have hw5' : wr.alloc (.cells #[.int .i64 x.Do, .int .i64 x.W, .int .i64 x.At, .int .i64 x.Many, .string x.Text] 73) = w5 := hw5
      have hb5 : Below wr.heap.size wr w5 := by rw [← hw5']; exact (Below.refl wr.heap.size wr).alloc (Nat.le_refl _) _
      have HX5 := Lib.hid (show RsC w5 wr.heap.size 0 x from by rw [← hw5']; simp [RsC])
      clear hw5 hw5' q0 q1 q2 q3 q4
      obtain ⟨X, hX⟩ : ∃ X, X = wr.heap.size := ⟨_, rfl⟩
      rw [← hX] at HX5 ⊢
      have HT5 := Lib.hid (HTr.out.add hb5 X (by omega) HX5.out.lt)
      have HXD := Lib.hid (show X ≠ D from by have := HDr.out.lt; omega)
      have HD5 := Lib.hid (HDr.out.later hb5)
      have HS5 := Lib.hid (HSr4.out.later hb5)
      clear hX hb5 HTr HDr HSr4
      obtain ⟨⟨F5, gw5, gs5, hr5, _⟩, _⟩ := HT5.out
      obtain ⟨gl, FL, _, c0, hlog, _⟩ := hr5.logZ
      have HLG := Lib.hid hlog
      have hg5 := hr5.lt
      clear hr5 hlog
      go_wp2_with fail
      refine (Len_c HLG.out).mono ?_
      rintro e w6 ⟨rfl, rfl⟩
      clear HLG c0
      have hn120 := HO.out.lm.len
      obtain ⟨n, hn⟩ : ∃ n, n = d.lm.L.length := ⟨_, rfl⟩
      rw [← hn] at hn120 ⊢
      have HN := Lib.hid hn
      have hwn : IntKind.i64.wrap ((n : Int) + 1) = (n : Int) + 1 := by rw [IntKind.wrap_i64]; omega
      clear hn
      obtain ⟨A, hA⟩ : ∃ A, A = (isWriter x.W && (d.writer x.W).isSome) := ⟨_, rfl⟩
      go_upto_region 13 with fail
      go_cut [46] (fun s46 wx => s46 = .bool A ∧ Hid (Below w6.heap.size w6 wx))
      case first => as_aux_lemma =>
        obtain ⟨b0, b1, _, _, _⟩ := HX5.out
        have hL : ∀ q : Lt w6, Later w6 q.v := fun q => q.h
        cases hiw : isWriter x.W with
        | false =>
          have hAf : A = false := by rw [hA, hiw]; rfl
          have HAf := Lib.hid hAf
          clear hA hAf
          have B0 := later_cell b0
          have B1 := later_cell b1
          clear b0 b1
          refine wp_region_x [] [] [0, 1, 2, 3, 4, 5, 6, 7, 8, 9, 10, 11, 12] (by kernel_rfl) (by kernel_rfl) ?_
          iterate 2 (refine wpX_step rfl (fun K hK => ?_); go_simp; refine hK _ _ ?_; clear hK K)
          refine wpX_step rfl (fun K hK => ?_)
          go_simp
          refine ⟨_, fun p => quietM_same p (IsWriter_c x.W p.v), hK _ _ ?_⟩
          clear hK K
          rw [hiw]
          iterate 10 (refine wpX_step rfl (fun K hK => ?_); go_simp; refine hK _ _ ?_; clear hK K)
          refine wpX_nil ?_
          intro w7 hL7
          have HL7 := Lib.hid hL7
          clear hL7
          go_wp2
          go_meet
          exact ⟨by rw [HAf.out], HL7⟩
        | true =>
          obtain ⟨j, hj, hxj⟩ := writer_natR hiw
          have hij : isWriter (j : Int) = true := isWriter_nat hj
          have hwj : d.writer x.W = d.W j := by rw [hxj]; unfold DkM.writer; rw [if_pos hij]; simp
          rw [hxj] at b1
          obtain ⟨⟨F4, gw4, gs4, hr4, _⟩, _⟩ := HT5.out
          have c1 := (hr4.cells j hj).1
          have hj0 : (0 : Int) ≤ (j : Int) := by omega
          have hj4 : (j : Int) < 4 := by omega
          clear hr4
          cases hW : d.W j
          all_goals
            first
            | (have hAf : A = false := by rw [hA, hiw, hwj, hW]; rfl)
            | (have hAf : A = true := by rw [hA, hiw, hwj, hW]; rfl)
            have HAf := Lib.hid hAf
            unfold DkM.ptrN at c1
            rw [hW] at c1
            clear hA hAf hwj hW hxj hiw
            have B0 := later_cell b0
            have B1 := later_cell b1
            have C1 := later_cell c1
            clear b0 b1 c1
            refine wp_region_x [] [] [0, 1, 2, 3, 4, 5, 6, 7, 8, 9, 10, 11, 12] (by kernel_rfl) (by kernel_rfl) ?_
            iterate 2 (refine wpX_step rfl (fun K hK => ?_); go_simp; refine hK _ _ ?_; clear hK K)
            refine wpX_step rfl (fun K hK => ?_)
            go_simp
            refine ⟨_, fun p => quietM_same p (IsWriter_c (j : Int) p.v), hK _ _ ?_⟩
            clear hK K
            rw [hij]
            iterate 10 (refine wpX_step rfl (fun K hK => ?_); go_simp; refine hK _ _ ?_; clear hK K)
            refine wpX_nil ?_
            intro w7 hL7
            have HL7 := Lib.hid hL7
            clear hL7
            go_wp2
            go_meet
            exact ⟨by rw [HAf.out], HL7⟩
      case rest => as_aux_lemma =>
        obtain ⟨rfl, hcutB⟩ := hcut
        have HT7 := Lib.hid (HT5.out.later hcutB.out)
        have HX7 := Lib.hid (HX5.out.below hcutB.out HX5.out.lt)
        have HD7 := Lib.hid (HD5.out.later hcutB.out)
        have HS7 := Lib.hid (HS5.out.later hcutB.out)
        clear HT5 HX5 HD5 HS5 hcutB hg5
        generalize wc = w7 at *
        go_upto_if 46 with fail
        obtain ⟨O, hO⟩ : ∃ O, O = d.opnLen x.W := ⟨_, rfl⟩
        have hO1 : O ≤ 1000 := by rw [hO]; exact opnLen_le HSM.out _
        go_cut [9] (fun s9 wx => s9 = (.int .i64 (O : Int)) ∧ Hid (Below w7.heap.size w7 wx))
        case first => as_aux_lemma =>
          cases A with
          | false =>
            have h0 : O = 0 := by
              rw [hO]
              unfold DkM.opnLen
              cases hw : d.writer x.W with
              | none => rfl
              | some m =>
                have := (HO.out.of_writer hw).1
                rw [hw, this] at hA; cases hA
            have HB0 := Lib.hid (Below.refl w7.heap.size w7)
            have H0 := Lib.hid h0
            clear hA hO h0
            go_wp2
            go_meet
            exact ⟨by rw [H0.out]; rfl, HB0⟩
          | true =>
            obtain ⟨hiw, hws⟩ : isWriter x.W = true ∧ (d.writer x.W).isSome = true := by
              have h := hA.symm
              rw [Bool.and_eq_true] at h
              exact h
            obtain ⟨m, hm⟩ := Option.isSome_iff_exists.1 hws
            obtain ⟨j, hj, hxj⟩ := writer_natR hiw
            have HMJ := Lib.hid (show d.writer (j : Int) = some m from by rw [← hxj]; exact hm)
            have HWJ := Lib.hid (show d.W j = some m from by
              have h := HMJ.out
              unfold DkM.writer at h
              rw [if_pos (isWriter_nat hj)] at h
              simpa using h)
            have HOM := Lib.hid (show m.opn.length = O from by rw [hO]; unfold DkM.opnLen; rw [hm])
            obtain ⟨⟨F4, gw4, gs4, hr4, _⟩, _⟩ := HT7.out
            obtain ⟨FW, _, c1, hwr, _⟩ := hr4.wrZ hj HWJ.out
            have HOP := Lib.hid (fun W (h : Later w7 W) => show Calls Try.prog 47 #[.pointer (some ⟨(gw4 j), 0, none⟩)] W fun e w' => ∃ a' cap', e = .returned (.slice a' O cap') ∧ OwnRow w' W.heap.size 25 7 a' O cap' (flatD m.ds) ∧ Below W.heap.size W w' from by
              rw [← HOM.out]; exact WOpen_c (hwr.later h) (by show m.opn.length ≤ 1000000; have := HOM.out; omega))
            obtain ⟨b0, b1, _, _, _⟩ := HX7.out
            rw [hxj] at b1
            have hj0 : (0 : Int) ≤ (j : Int) := by omega
            have hj4 : (j : Int) < 4 := by omega
            clear hr4 hwr hA hws hm hiw hxj hO
            go_upto_region 14 with fail
            have B1 := later_cell b1
            have C1 := later_cell c1
            have hL : ∀ q : Lt w7, Later w7 q.v := fun q => q.h
            clear b0 b1 c1
            refine wp_region_x [7] [] [0, 1, 2, 3, 4, 5, 6, 7, 8, 9] (by kernel_rfl) (by kernel_rfl) ?_
            iterate 7 (refine wpX_step rfl (fun K hK => ?_); go_simp; refine hK _ _ ?_; clear hK K)
            refine wpX_step rfl (fun K hK => ?_)
            go_simp
            intro p
            refine (HOP.out p.v (hL p)).mono ?_
            rintro e w8 ⟨aO, cO, rfl, hoO, hb8⟩
            refine ⟨_, rfl, hb8, hK _ _ ?_⟩
            clear hK K
            have HL8 := Lib.hid (show Later w7 w8 from Below.trans p.h (hb8.mono p.h.size))
            clear hoO hb8 p hL B1 C1
            iterate 2 (refine wpX_step rfl (fun K hK => ?_); go_simp; refine hK _ _ ?_; clear hK K)
            refine wpX_nil ?_
            intro w9 hL9
            have HL9 := Lib.hid (HL8.out.trans hL9)
            clear hL9 HL8 HOP
            go_wp2
            go_meet
            exact ⟨rfl, HL9⟩
        case rest => as_aux_lemma =>
          have HOO := Lib.hid hO
          clear hO
          obtain ⟨rfl, hcutB⟩ := hcut
          have HT8 := Lib.hid (HT7.out.later hcutB.out)
          have HX8 := Lib.hid (HX7.out.below hcutB.out HX7.out.lt)
          have HD8 := Lib.hid (HD7.out.later hcutB.out)
          have HS8 := Lib.hid (HS7.out.later hcutB.out)
          clear HT7 HX7 HD7 HS7 hcutB hA
          generalize wc = w8 at *
          obtain ⟨b0, b1, b2, b3, b4⟩ := HX8.out
          go_wp2_with fail
          refine (RStep_Tl HT8.out HO.out HSM.out x HX.out).mono ?_
          rintro e w9 ⟨rfl, hb9, hpost⟩
          clear b0 b1 b2 b3 b4
          cases hov : d.over x with
          | true =>
            have HB9 := Lib.hid (HB1.out.trans (hb9.mono HB1.out.size))
            clear hb9 hpost
            go_wp2
            go_ret
            exact ⟨rfl, HB9.out⟩
          | false =>
            obtain ⟨ht9, hs9, hblk⟩ := hpost hov
            have HT9 := Lib.hid ht9
            have HX9 := Lib.hid (HX8.out.of_block (hblk X (.inr rfl)))
            have HD9 := Lib.hid (HD8.out.of_block hs9 (hblk D (.inl (.inl rfl))))
            have HS9 := Lib.hid (HS8.out.of_block hs9 (hblk S (.inl (.inr rfl))))
            obtain ⟨hri, hdn, hLL⟩ := room_tells HRI.out false x hov
            have HRI' := Lib.hid hri
            have HDN := Lib.hid hdn
            have HLL := Lib.hid hLL
            have HST := Lib.hid (fun v m (hw : d.writer v = some m) => room_stays HO.out false x hov hw)
            have HSK' := Lib.hid (HSK.out.room false x)
            clear ht9 hs9 hblk hpost hb9 hri hdn hLL HT8 HX8 HD8 HS8 hov HSK
            generalize d.room false x = d' at *
            have HO' := Lib.hid HRI'.out.ok
            have HSM' := Lib.hid (show d'.Sm 1000 from HSK'.out.mono (by omega))
            obtain ⟨A2, hA2⟩ : ∃ A2, A2 = (isWriter x.W && (d'.writer x.W).isSome && ((x.Do == 1) || (x.Do == 2))) := ⟨_, rfl⟩
            go_upto_region 18 with fail
            go_cut [90] (fun s90 wx => s90 = .bool A2 ∧ Hid (Below w9.heap.size w9 wx))
            case first => as_aux_lemma =>
              obtain ⟨b0, b1, _, _, _⟩ := HX9.out
              have hL : ∀ q : Lt w9, Later w9 q.v := fun q => q.h
              cases hiw : isWriter x.W with
              | false =>
                have hAf : A2 = false := by rw [hA2, hiw]; rfl
                have HAf := Lib.hid hAf
                clear hA2 hAf
                have B0 := later_cell b0
                have B1 := later_cell b1
                clear b0 b1
                refine wp_region_x [] [] [0, 1, 2, 3, 4, 5, 6, 7, 8, 9, 10, 11, 12, 13, 14, 15, 16, 17, 18, 19, 20, 21, 22] (by kernel_rfl) (by kernel_rfl) ?_
                iterate 2 (refine wpX_step rfl (fun K hK => ?_); go_simp; refine hK _ _ ?_; clear hK K)
                refine wpX_step rfl (fun K hK => ?_)
                go_simp
                refine ⟨_, fun p => quietM_same p (IsWriter_c x.W p.v), hK _ _ ?_⟩
                clear hK K
                rw [hiw]
                iterate 20 (refine wpX_step rfl (fun K hK => ?_); go_simp; refine hK _ _ ?_; clear hK K)
                refine wpX_nil ?_
                intro w10 hL10
                have HL10 := Lib.hid hL10
                clear hL10
                go_wp2
                go_meet
                exact ⟨by rw [HAf.out], HL10⟩
              | true =>
                obtain ⟨j, hj, hxj⟩ := writer_natR hiw
                have hij : isWriter (j : Int) = true := isWriter_nat hj
                have hwj : d'.writer x.W = d'.W j := by rw [hxj]; unfold DkM.writer; rw [if_pos hij]; simp
                rw [hxj] at b1
                obtain ⟨⟨F4, gw4, gs4, hr4, _⟩, _⟩ := HT9.out
                have c1 := (hr4.cells j hj).1
                have hj0 : (0 : Int) ≤ (j : Int) := by omega
                have hj4 : (j : Int) < 4 := by omega
                clear hr4
                cases hW : d'.W j
                all_goals
                  unfold DkM.ptrN at c1
                  rw [hW] at c1
                  cases h1 : (x.Do == 1)
                  all_goals
                    cases h2 : (x.Do == 2)
                    all_goals
                      first
                      | (have hAf : A2 = false := by rw [hA2, hiw, hwj, hW, h1, h2]; rfl)
                      | (have hAf : A2 = true := by rw [hA2, hiw, hwj, hW, h1, h2]; rfl)
                      have HAf := Lib.hid hAf
                      have h1d : decide (x.Do = 1) = (x.Do == 1) := by simp [BEq.beq]
                      have h2d : decide (x.Do = 2) = (x.Do == 2) := by simp [BEq.beq]
                      rw [h1] at h1d
                      rw [h2] at h2d
                      clear hA2 hAf hwj hW hxj hiw
                      have B0 := later_cell b0
                      have B1 := later_cell b1
                      have C1 := later_cell c1
                      clear b0 b1 c1
                      refine wp_region_x [] [] [0, 1, 2, 3, 4, 5, 6, 7, 8, 9, 10, 11, 12, 13, 14, 15, 16, 17, 18, 19, 20, 21, 22] (by kernel_rfl) (by kernel_rfl) ?_
                      iterate 2 (refine wpX_step rfl (fun K hK => ?_); go_simp; refine hK _ _ ?_; clear hK K)
                      refine wpX_step rfl (fun K hK => ?_)
                      go_simp
                      refine ⟨_, fun p => quietM_same p (IsWriter_c (j : Int) p.v), hK _ _ ?_⟩
                      clear hK K
                      rw [hij]
                      iterate 20 (refine wpX_step rfl (fun K hK => ?_); go_simp; refine hK _ _ ?_; clear hK K)
                      refine wpX_nil ?_
                      intro w10 hL10
                      have HL10 := Lib.hid hL10
                      clear hL10
                      go_wp2
                      go_meet
                      exact ⟨by rw [HAf.out], HL10⟩
            case rest => as_aux_lemma =>
              obtain ⟨rfl, hcutB⟩ := hcut
              have HT10 := Lib.hid (HT9.out.later hcutB.out)
              have HX10 := Lib.hid (HX9.out.below hcutB.out HX9.out.lt)
              have HD10 := Lib.hid (HD9.out.later hcutB.out)
              have HS10 := Lib.hid (HS9.out.later hcutB.out)
              clear HT9 HX9 HD9 HS9 hcutB
              generalize wc = w10 at *
              go_upto_if 90 with fail
              go_cut [8] (fun s8 wx => s8 = (.int .i64 (n : Int)) ∧ Hid (TlAt w2 w2.heap.size g (fun k => (k = D ∨ k = S) ∨ k = X) d' wx) ∧ Hid (RsC wx X 0 x) ∧ Hid (Ar4 wx D (fun j => d'.done (j : Int))) ∧ Hid (Ar4 wx S (fun j => cntBy (j : Int) d.lm.L)))
              case first => as_aux_lemma =>
                cases A2 with
                | false =>
                  have HDF := Lib.hid (HD10.out.congr (f' := fun j => d'.done (j : Int)) (fun j hj => by
                    have h := HDN.out (j : Int) (isWriter_nat hj)
                    show d.done (j : Int) = d'.done (j : Int)
                    rw [h]
                    by_cases hc : (x.Do = 1 ∨ x.Do = 2) ∧ (j : Int) = x.W
                    · rw [if_pos hc]
                      have hxw : isWriter x.W = true := by rw [← hc.2]; exact isWriter_nat hj
                      have hdo : ((x.Do == 1) || (x.Do == 2)) = true := by
                        rcases hc.1 with e | e <;> rw [e] <;> rfl
                      rw [hxw, hdo] at hA2
                      have hn' : d'.writer x.W = none := by
                        cases e : d'.writer x.W with
                        | none => rfl
                        | some m => rw [e] at hA2; cases hA2
                      have hn0 : d.writer x.W = none := by
                        cases e : d.writer x.W with
                        | none => rfl
                        | some m =>
                          obtain ⟨m', hm'⟩ := HST.out _ _ e
                          rw [hm'] at hn'; cases hn'
                      unfold DkM.opnLen
                      rw [hn', hn0]; simp
                    · rw [if_neg hc]; omega))
                  clear hA2
                  go_wp2
                  go_meet
                  exact ⟨rfl, HT10, HX10, HDF, HS10⟩
                | true =>
                  obtain ⟨⟨hiw, hws⟩, hdo⟩ : (isWriter x.W = true ∧ (d'.writer x.W).isSome = true) ∧ ((x.Do == 1) || (x.Do == 2)) = true := by
                    have h := hA2.symm
                    rw [Bool.and_eq_true, Bool.and_eq_true] at h
                    exact h
                  obtain ⟨m, hm⟩ := Option.isSome_iff_exists.1 hws
                  obtain ⟨j, hj, hxj⟩ := writer_natR hiw
                  have HDO := Lib.hid (show x.Do = 1 ∨ x.Do = 2 by simpa using hdo)
                  have HMJ := Lib.hid (show d'.writer (j : Int) = some m from by rw [← hxj]; exact hm)
                  have HWJ := Lib.hid (show d'.W j = some m from by
                    have h := HMJ.out
                    unfold DkM.writer at h
                    rw [if_pos (isWriter_nat hj)] at h
                    simpa using h)
                  obtain ⟨O2, hO2⟩ : ∃ O2, O2 = m.opn.length := ⟨_, rfl⟩
                  have hO21 : O2 ≤ 1000 := by rw [hO2]; exact HSM'.out.writer HMJ.out
                  have hdl := done_le HO.out HSM.out (j : Int)
                  obtain ⟨dn, hdn⟩ : ∃ dn, dn = d.done (j : Int) := ⟨_, rfl⟩
                  rw [← hdn] at hdl
                  have hdn' : d'.done (j : Int) = dn + ((O2 : Int) - (O : Int)) := by
                    rw [HDN.out (j : Int) (isWriter_nat hj), if_pos ⟨HDO.out, hxj.symm⟩, hdn, HOO.out]
                    have e2 : d'.opnLen x.W = O2 := by unfold DkM.opnLen; rw [hm, hO2]
                    rw [e2]
                  have hws1 : IntKind.i64.wrap ((O2 : Int) - (O : Int)) = (O2 : Int) - (O : Int) := by rw [IntKind.wrap_i64]; omega
                  have hws2 : IntKind.i64.wrap (dn + ((O2 : Int) - (O : Int))) = dn + ((O2 : Int) - (O : Int)) := by rw [IntKind.wrap_i64]; omega
                  have HO2 := Lib.hid hO2
                  have HDN2 := Lib.hid hdn'
                  have HDNE := Lib.hid hdn
                  obtain ⟨⟨F4, gw4, gs4, hr4, _⟩, _⟩ := HT10.out
                  obtain ⟨FW, _, c1, hwr, _⟩ := hr4.wrZ hj HWJ.out
                  have HOP := Lib.hid (fun W (h : Later w10 W) => show Calls Try.prog 47 #[.pointer (some ⟨(gw4 j), 0, none⟩)] W fun e w' => ∃ a' cap', e = .returned (.slice a' O2 cap') ∧ OwnRow w' W.heap.size 25 7 a' O2 cap' (flatD m.ds) ∧ Below W.heap.size W w' from by
                    rw [HO2.out]; exact WOpen_c (hwr.later h) (by show m.opn.length ≤ 1000000; omega))
                  obtain ⟨b0, b1, _, _, _⟩ := HX10.out
                  have HXJ := Lib.hid hxj
                  have HDN3 := Lib.hid (show ∀ i : Nat, i < 4 → i ≠ j → d.done (i : Int) = d'.done (i : Int) from fun i hi hij => by
                    have h := HDN.out (i : Int) (isWriter_nat hi)
                    rw [if_neg (fun e => hij (by have := e.2; omega))] at h
                    omega)
                  rw [hxj] at b1
                  have v1 := HD10.out.c j hj
                  rw [← hdn] at v1
                  have hj0 : (0 : Int) ≤ (j : Int) := by omega
                  have hj4 : (j : Int) < 4 := by omega
                  clear hr4 hwr hA2 hws hm hiw hxj hdo hO2 hdn hdn' HDN HLL HST
                  go_upto_region 19 with fail
                  have B1 := later_cell b1
                  have C1 := later_cell c1
                  have V1 := later_cell v1
                  have hL : ∀ q : Lt w10, Later w10 q.v := fun q => q.h
                  clear b0 b1 c1 v1
                  refine wp_region_x [11] [17] [0, 1, 2, 3, 4, 5, 6, 7, 8, 9, 10, 13, 11, 12, 14, 15, 16, 17] (by kernel_rfl) (by kernel_rfl) ?_
                  iterate 12 (refine wpX_step rfl (fun K hK => ?_); go_simp; refine hK _ _ ?_; clear hK K)
                  refine wpX_step rfl (fun K hK => ?_)
                  go_simp
                  intro p
                  refine (HOP.out p.v (hL p)).mono ?_
                  rintro e w11 ⟨aO, cO, rfl, hoO, hb11⟩
                  refine ⟨_, rfl, hb11, hK _ _ ?_⟩
                  clear hK K
                  have HL11 := Lib.hid (show Later w10 w11 from Below.trans p.h (hb11.mono p.h.size))
                  clear hoO hb11 p hL B1 C1 V1
                  iterate 4 (refine wpX_step rfl (fun K hK => ?_); go_simp; refine hK _ _ ?_; clear hK K)
                  refine wpX_step rfl (fun K hK => ?_)
                  have HDq := Lib.hid (fun (p : Lt w11) => HD10.out.later (HL11.out.trans p.h))
                  go_simp
                  intro p
                  have hfz : p.v.frozen? ⟨D, j, none⟩ = false := (HDq.out p).fz j hj
                  have hcell : p.v.cell? ⟨D, j, none⟩ = some (.int .i64 (d.done (j : Int))) := (HDq.out p).c j hj
                  have HLq := Lib.hid (HL11.out.trans p.h)
                  clear HDq
                  go_simp
                  refine hK _ _ ?_
                  clear hK K hfz hcell
                  refine wpX_nil ?_
                  intro w12 hL12
                  have HLL12 := Lib.hid hL12
                  have HT12 := Lib.hid (((HT10.out.later HLq.out).store (b := D) (.inl (.inl rfl)) j (.int .i64 (dn + ((O2 : Int) - (O : Int))))).later HLL12.out)
                  have HX12 := Lib.hid ((((HX10.out.below HLq.out HX10.out.lt)).of_block (w' := p.v.setCell ⟨D, j, none⟩ (.int .i64 (dn + ((O2 : Int) - (O : Int))))) (Below.heap_setCell _ _ _ _ (fun e => HXD.out (by simpa using e)))).below HLL12.out (by simpa using Nat.lt_of_lt_of_le HX10.out.lt HLq.out.size))
                  have HDF := Lib.hid ((((HD10.out.later HLq.out).set hj (dn + ((O2 : Int) - (O : Int)))).later HLL12.out).congr (f' := fun j => d'.done (j : Int)) (fun i hi => by
                    show (if i = j then dn + ((O2 : Int) - (O : Int)) else d.done (i : Int)) = d'.done (i : Int)
                    by_cases e : i = j
                    · subst e; rw [if_pos rfl, HDN2.out]
                    · rw [if_neg e, HDN3.out i hi e]))
                  have HSF := Lib.hid (((HS10.out.later HLq.out).other (b2 := D) (o := j) (v := (.int .i64 (dn + ((O2 : Int) - (O : Int))))) (fun e => HDS.out e.symm)).later HLL12.out)
                  clear hL12 HLL12 HLq HL11 p HT10 HX10 HD10 HS10
                  go_wp2
                  go_meet
                  exact ⟨rfl, HT12, HX12, HDF, HSF⟩
              case rest => as_aux_lemma =>
                obtain ⟨rfl, HT13, HX13, HD13, HS13⟩ := hcut
                clear HT10 HX10 HD10 HS10 hA2 HDN HST
                generalize wc = w13 at *
                obtain ⟨⟨F5, gw5, gs5, hr5, _⟩, _⟩ := HT13.out
                obtain ⟨gl2, FL2, _, c0, hlog, _⟩ := hr5.logZ
                have HLG := Lib.hid (show LogAt w13 _ FL2 gl2 d'.lm from hlog)
                have hg13 := hr5.lt
                clear hr5 hlog
                rcases HLL.out with hsame | ⟨u, hLu, hdo3, huby, hiw, huno, hudn⟩
                · have hlen : d'.lm.L.length = n := by rw [hsame, HN.out]
                  have HI13 := Lib.hid (show RIn d' ∧ d'.Sm (k + 1) ∧ TlAt w2 w2.heap.size g (fun k => k = D ∨ k = S) d' w13 ∧ Ar4 w13 D (fun j => d'.done (j : Int)) ∧ Ar4 w13 S (fun j => cntBy (j : Int) d'.lm.L) from
                    ⟨HRI'.out, HSK'.out, HT13.out.mono (fun k hk => .inl hk), HD13.out, by rw [hsame]; exact HS13.out⟩)
                  clear hsame HT13 HX13 HD13 HS13 HLL
                  go_wp2_with fail
                  refine (Len_c HLG.out).mono ?_
                  rintro e w14 ⟨rfl, rfl⟩
                  rw [hlen]
                  clear HLG c0 hlen
                  go_wp2
                  exact ⟨⟨k + 1, d', by omega, by go_num, HI13⟩, by simp [intOf]; omega⟩
                · have HUBY := Lib.hid huby
                  have HUNO := Lib.hid huno
                  clear huby huno
                  have hlen : d'.lm.L.length = n + 1 := by rw [hLu, List.length_append, HN.out]; rfl
                  obtain ⟨j, hj, hxj⟩ := writer_natR hiw
                  have HXJ := Lib.hid hxj
                  have hne1 : ((n : Int) + 1 == (n : Int)) = false := by simp; omega
                  have hne2 : decide ((n : Int) + 1 = (n : Int)) = false := by simp; omega
                  have hne3 : ((((n + 1 : Nat) : Int)) == (n : Int)) = false := by simp; omega
                  have hc1 : (((n + 1 : Nat) : Int)) = (n : Int) + 1 := by omega
                  go_wp2_with fail
                  refine (Len_c HLG.out).mono ?_
                  rintro e w14 ⟨rfl, rfl⟩
                  rw [hlen, hc1]
                  go_wp2_with fail
                  refine (Deed_gR HLG.out ((n : Int) + 1)).mono ?_
                  rintro e w15 ⟨dd, b, rfl, hb15, h2⟩
                  obtain ⟨rfl, hdd⟩ : b = true ∧ dd = u := by
                    rcases h2 with ⟨_, _, h2⟩ | ⟨hb, k2, hk2, e2, e3⟩
                    · exfalso; rw [hlen] at h2; omega
                    · obtain rfl : k2 = n := by omega
                      refine ⟨hb, ?_⟩
                      rw [e3]
                      have hnl := HN.out
                      have : d'.lm.L[k2]? = some u := by rw [hLu, hnl]; simp
                      exact (List.getElem?_eq_some_iff.1 this).2
                  subst hdd
                  clear h2
                  have HT15 := Lib.hid (HT13.out.later hb15)
                  have HX15 := Lib.hid (HX13.out.below hb15 HX13.out.lt)
                  have HD15 := Lib.hid (HD13.out.later hb15)
                  have HS15 := Lib.hid (HS13.out.later hb15)
                  have HLG15 := Lib.hid (HLG.out.later hb15)
                  have c0 := (hb15.cell (p := ⟨g, 0, none⟩) hg13).trans c0
                  have hg15 := Nat.lt_of_lt_of_le hg13 hb15.size
                  clear HT13 HX13 HD13 HS13 HLG hb15 hg13
                  go_upto_region 22 with fail
                  generalize hw16 : w15.alloc _ = w16
                  have hw16' : w15.alloc (.cells #[.int .i64 dd.Kind, .int .i64 dd.By, .int .i64 dd.No, .int .i64 dd.Seen, .int .i64 dd.At, .int .i64 dd.Many, .string dd.Text] 25) = w16 := hw16
                  have hb16 : Below w15.heap.size w15 w16 := by rw [← hw16']; exact (Below.refl w15.heap.size w15).alloc (Nat.le_refl _) _
                  have HY16 := Lib.hid (show DdAt w16 w15.heap.size dd from by rw [← hw16']; exact DdAt.new w15 dd)
                  clear hw16 hw16'
                  obtain ⟨Y, hY⟩ : ∃ Y, Y = w15.heap.size := ⟨_, rfl⟩
                  rw [← hY] at HY16 ⊢
                  have HT16 := Lib.hid (HT15.out.later hb16)
                  have HX16 := Lib.hid (HX15.out.below hb16 HX15.out.lt)
                  have HD16 := Lib.hid (HD15.out.later hb16)
                  have HS16 := Lib.hid (HS15.out.later hb16)
                  have HLG16 := Lib.hid (HLG15.out.later hb16)
                  have c0 := (hb16.cell (p := ⟨g, 0, none⟩) hg15).trans c0
                  clear HT15 HX15 HD15 HS15 HLG15 hb16 hg15 hY
                  have huby := HUBY.out
                  have huno := HUNO.out
                  obtain ⟨cn, hcn⟩ : ∃ cn, cn = cntBy (j : Int) d.lm.L := ⟨_, rfl⟩
                  have hcb : 0 ≤ cn ∧ cn ≤ 120 := by
                    have h1 := cntBy_nonneg (j : Int) d.lm.L
                    have h2 := cntBy_le (j : Int) d.lm.L
                    have h3 := HN.out
                    rw [hcn]; omega
                  have hwc : IntKind.i64.wrap (cn + 1) = cn + 1 := by rw [IntKind.wrap_i64]; omega
                  have hno : dd.No = cn + 1 := by rw [huno, hcn, hxj]
                  obtain ⟨dn, hdn⟩ : ∃ dn, dn = d'.done (j : Int) := ⟨_, rfl⟩
                  have hgt : decide (cn + 1 > dn) = false := decide_eq_false (by rw [hxj, ← hdn] at hudn; omega)
                  have hgt2 : decide (dn < cn + 1) = false := hgt
                  have hby : dd.By = (j : Int) := by rw [huby, hxj]
                  obtain ⟨b0, b1, _, _, _⟩ := HX16.out
                  rw [hdo3] at b0
                  rw [hxj] at b1
                  have v1 := HD16.out.c j hj
                  rw [← hdn] at v1
                  have v2 := HS16.out.c j hj
                  rw [← hcn] at v2
                  obtain ⟨_, d0, d1, d2, d3, d4, d5, d6⟩ := HY16.out
                  rw [hby] at d1
                  rw [hno] at d2
                  have hj0 : (0 : Int) ≤ (j : Int) := by omega
                  have hj4 : (j : Int) < 4 := by omega
                  have HCN := Lib.hid hcn
                  have HLU := Lib.hid hLu
                  have HBY := Lib.hid hby
                  have HNO := Lib.hid hno
                  have HLEN := Lib.hid (fun W (h : Later w16 W) => show Calls Try.prog 27 #[.pointer (some ⟨gl2, 0, none⟩)] W fun e w' => e = .returned (.int .i64 ((n : Int) + 1)) ∧ w' = W from by
                    have := Len_c (HLG16.out.later h)
                    rw [hlen, hc1] at this; exact this)
                  clear HUBY HUNO hcn hLu huby huno hudn hdo3 hiw hxj hdn hlen HLG16 d0 d3 d4 d5 d6 hby hno HLL hne3
                  have B0 := later_cell b0
                  have B1 := later_cell b1
                  have V1 := later_cell v1
                  have V2 := later_cell v2
                  have D1 := later_cell d1
                  have D2 := later_cell d2
                  have C0 := later_cell c0
                  have hL : ∀ q : Lt w16, Later w16 q.v := fun q => q.h
                  clear b0 b1 v1 v2 d1 d2 c0
                  refine wp_region_x [] [] [0, 1, 2, 3, 4, 5, 6, 7, 8, 9, 10, 11, 12, 13, 14, 15, 16, 17, 18, 19, 20, 21, 22, 23, 24, 25, 26, 27, 28, 29, 30, 31, 32, 33, 34, 35, 36, 37, 38, 39, 40, 41, 42] (by kernel_rfl) (by kernel_rfl) ?_
                  iterate 7 (refine wpX_step rfl (fun K hK => ?_); go_simp; refine hK _ _ ?_; clear hK K)
                  refine wpX_step rfl (fun K hK => ?_)
                  go_simp
                  refine ⟨_, fun p => quietM_same p (HLEN.out p.v (hL p)), hK _ _ ?_⟩
                  clear hK K
                  iterate 35 (refine wpX_step rfl (fun K hK => ?_); go_simp; refine hK _ _ ?_; clear hK K)
                  refine wpX_nil ?_
                  intro w17 hL17
                  have HT17 := Lib.hid (HT16.out.later hL17)
                  have HX17 := Lib.hid (HX16.out.below hL17 HX16.out.lt)
                  have HD17 := Lib.hid (HD16.out.later hL17)
                  have HS17 := Lib.hid (HS16.out.later hL17)
                  have HY17 := Lib.hid (HY16.out.later hL17)
                  clear hL17 HT16 HX16 HD16 HS16 HY16 hL B0 B1 V1 V2 D1 D2 C0 HLEN
                  obtain ⟨_, b1, _, _, _⟩ := HX17.out
                  rw [HXJ.out] at b1
                  obtain ⟨_, _, _, d2, _, _, _, _⟩ := HY17.out
                  rw [HNO.out] at d2
                  have v2 := HS17.out.c j hj
                  rw [← HCN.out] at v2
                  have f2 := HS17.out.fz j hj
                  have HT18 := Lib.hid ((HT17.out.store (b := S) (.inl (.inr rfl)) j (.int .i64 (cn + 1))).mono (N' := fun k => k = D ∨ k = S) (fun k hk => .inl hk))
                  have HD18 := Lib.hid (HD17.out.other (b2 := S) (o := j) (v := (.int .i64 (cn + 1))) HDS.out)
                  have HS18 := Lib.hid ((HS17.out.set hj (cn + 1)).congr (f' := fun j => cntBy (j : Int) d'.lm.L) (fun i hi => by
                    show (if i = j then cn + 1 else cntBy (i : Int) d.lm.L) = cntBy (i : Int) d'.lm.L
                    rw [HLU.out, cntBy_add, HBY.out]
                    by_cases e : i = j
                    · subst e; rw [if_pos rfl, if_pos rfl, HCN.out]
                    · rw [if_neg e, if_neg (by omega)]; omega))
                  have HI18 := Lib.hid (show RIn d' ∧ d'.Sm (k + 1) ∧ TlAt w2 w2.heap.size g (fun k => k = D ∨ k = S) d' (w17.setCell ⟨S, j, none⟩ (.int .i64 (cn + 1))) ∧ Ar4 (w17.setCell ⟨S, j, none⟩ (.int .i64 (cn + 1))) D (fun j => d'.done (j : Int)) ∧ Ar4 (w17.setCell ⟨S, j, none⟩ (.int .i64 (cn + 1))) S (fun j => cntBy (j : Int) d'.lm.L) from
                    ⟨HRI'.out, HSK'.out, HT18.out, HD18.out, HS18.out⟩)
                  clear HT17 HX17 HD17 HS17 HY17 HT18 HD18 HS18 HLU HBY HNO HCN
                  go_wp2
                  exact ⟨⟨k + 1, d', by omega, by go_num, HI18⟩, by simp [intOf]; omega⟩
    · obtain rfl : k = l.length := by omega
      have hltB : decide ((l.length : Int) < (l.length : Int)) = false := by simp
      have HF := Lib.hid (HB1.out.trans (HI.out.2.2.1.bl.mono HB1.out.size))
      clear HI
      go_wp2
      go_ret
      exact ⟨rfl, HF.out⟩
end Go.Proofs.Ytneoeokfffnonab
