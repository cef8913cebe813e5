/- The walk of the law FoldKeeps. -/
import Derived.Test.YtneoeokfffnonaaFoBegun
import Derived.Test.YtneoeokfffnonaaFoldL5
import Derived.Test.YtneoeokfffnonaaRefW2
import Derived.Test.YtneoeokfffnonaaCmpW
import Derived.Test.YtneoeokfffnonaaMixT
import Derived.Test.YtneoeokfffnonaaCalm
namespace Go.Proofs.Ytneoeokfffnonaa
open Go.RowKit

theorem SlCh.drop {w : World} {b off cap : Nat} {l : List Ch} (h : SlCh w (some ⟨b, off, none⟩) cap l) (k : Nat) (hk : k ≤ l.length) : SlCh w (some ⟨b, off + k * 7, none⟩) (cap - k) (l.drop k) := by
  refine ⟨by have := h.1; rw [List.length_drop]; omega, by have := h.2.1; omega, fun i hi => ?_⟩
  rw [List.length_drop] at hi
  obtain ⟨b', off', ha, hc⟩ := h.2.2 (k + i) (by omega)
  cases ha
  refine ⟨b, off + k * 7, rfl, ?_⟩
  rw [List.getElem_drop]
  rw [show off + k * 7 + i * 7 = off + (k + i) * 7 by omega]; exact hc

theorem RSame_b (x y : Ch) (r : Bool) (hr : x.same y = r) (w : World) :
    Calls Try.prog 41 #[.agg #[.int .u8 x.C, .int .i64 x.By, .int .i64 x.No, .int .i64 x.K, .int .i64 x.In, .int .i64 x.Out, .int .i64 x.Gone], .agg #[.int .u8 y.C, .int .i64 y.By, .int .i64 y.No, .int .i64 y.K, .int .i64 y.In, .int .i64 y.Out, .int .i64 y.Gone]] w fun e w' => e = .returned (.bool r) ∧ Below w.heap.size w w' := by subst hr; exact RSame_c x y w
theorem DCheck_k (d : Dd) (c : Int) (hc : deedFault d = c) (w : World) (hs : d.Text.size ≤ maxLen) :
    Calls Try.prog 57 #[.agg #[.int .i64 d.Kind, .int .i64 d.By, .int .i64 d.No, .int .i64 d.Seen, .int .i64 d.At, .int .i64 d.Many, .string d.Text]] w fun e w' => e = .returned (.int .i64 c) ∧ Below w.heap.size w w' := by subst hc; exact DCheck_c d w hs
theorem Took_k (g x : Int) (r : Bool) (hr : took g x = r) (w : World) (h : i64ok g) :
    Calls Try.prog 28 #[.int .i64 g, .int .i64 x] w fun e w' => e = .returned (.bool r) ∧ w' = w := by subst hr; exact Took_c g x w h
theorem SlCh.cut {w : World} {b off cap : Nat} {l : List Ch} (h : SlCh w (some ⟨b, off, none⟩) cap l) (f T : Nat) (hf : f + T ≤ l.length) : SlCh w (if cap = f then some ⟨b, off, none⟩ else some ⟨b, off + f * 7, none⟩) (cap - f) ((l.drop f).take T) := by
  by_cases e : cap = f
  · have hl := h.1
    have : (l.drop f).take T = [] := by
      have : T = 0 := by omega
      rw [this]; rfl
    rw [this, if_pos e]
    exact ⟨by simp, by have := h.2.1; omega, fun i hi => by simp at hi⟩
  · rw [if_neg e]; exact (h.drop f (by omega)).take T
theorem SameChars_n (a b : Option Addr) (capa capb : Nat) (l m : List Ch) (n : Nat) (hn : l.length = n) (r : Bool) (hr : decide (l = m) = r) (w : World) (hs : SlCh w a capa l) (hs' : SlCh w b capb m) :
    Calls Try.prog 22 #[.slice a n capa, .slice b m.length capb] w fun e w' => e = .returned (.bool r) ∧ Below w.heap.size w w' := by
  subst hr; subst hn; exact SameChars_c a b capa capb l m w hs hs'
theorem keepSame_cases (y o : Ch) : ((y.C == o.C) = false ∧ keepSame y o = false) ∨ ((y.C == o.C) = true ∧ y.same o = false ∧ keepSame y o = false) ∨ ((y.C == o.C) = true ∧ y.same o = true ∧ keepSame y o = (y.In == o.In)) := by
  unfold keepSame
  cases (y.C == o.C) <;> cases y.same o <;> simp
theorem keepGone_cases (d : Dd) (y o : Ch) : ((y.Gone == o.Gone) = true ∧ (y.Out == o.Out) = true ∧ keepGone d y o = true) ∨
    ((y.Gone == o.Gone) = true ∧ (y.Out == o.Out) = false ∧ (d.Kind == 2) = false ∧ keepGone d y o = false) ∨ ((y.Gone == o.Gone) = false ∧ (d.Kind == 2) = false ∧ keepGone d y o = false) ∨
    ((y.Gone == o.Gone) = true ∧ (y.Out == o.Out) = false ∧ (d.Kind == 2) = true ∧ took y.Gone d.By = false ∧ keepGone d y o = false) ∨ ((y.Gone == o.Gone) = false ∧ (d.Kind == 2) = true ∧ took y.Gone d.By = false ∧ keepGone d y o = false) ∨
    ((y.Gone == o.Gone) = false ∧ (d.Kind == 2) = true ∧ took y.Gone d.By = true ∧ (y.Out == o.Out) = true ∧ keepGone d y o = true) ∨
    ((y.Gone == o.Gone) = true ∧ (d.Kind == 2) = true ∧ took y.Gone d.By = true ∧ (y.Out == o.Out) = false ∧ (o.Out == 0) = true ∧ keepGone d y o = true) ∨ ((y.Gone == o.Gone) = false ∧ (d.Kind == 2) = true ∧ took y.Gone d.By = true ∧ (y.Out == o.Out) = false ∧ (o.Out == 0) = true ∧ keepGone d y o = true) ∨
    ((y.Gone == o.Gone) = true ∧ (d.Kind == 2) = true ∧ took y.Gone d.By = true ∧ (y.Out == o.Out) = false ∧ (o.Out == 0) = false ∧ keepGone d y o = decide (y.Out < o.Out)) ∨ ((y.Gone == o.Gone) = false ∧ (d.Kind == 2) = true ∧ took y.Gone d.By = true ∧ (y.Out == o.Out) = false ∧ (o.Out == 0) = false ∧ keepGone d y o = decide (y.Out < o.Out)) := by
  unfold keepGone
  cases (y.Gone == o.Gone) <;> cases (y.Out == o.Out) <;> cases (d.Kind == 2) <;> cases took y.Gone d.By <;> cases (o.Out == 0) <;> simp

set_option maxRecDepth 100000 in
set_option maxHeartbeats 4000000 in
theorem FoldKeeps_c (a : Option Addr) (cap : Nat) (l : List Ch) (d : Dd) (number : Int) (w : World) (hs : SlCh w a cap l) (hok : (∀ c ∈ l, c.ok) ∧ (a = none → cap = 0)) (hd : d.ok) (_ : i64ok number) :
    Calls Try.prog 13 #[.slice a l.length cap, .agg #[.int .i64 d.Kind, .int .i64 d.By, .int .i64 d.No, .int .i64 d.Seen, .int .i64 d.At, .int .i64 d.Many, .string d.Text], .int .i64 number] w fun e w' => e = .returned (.bool true) ∧ Below w.heap.size w w' := by
  have HG := Lib.hid (fun c hc => (hok.1 c hc).2.2.2.2.2.2)
  have HN := Lib.hid hok.2; clear hok
  have HMN := Lib.hid hd.2.2.2.2.2.1; clear hd
  have hb0 := (Below.refl w.heap.size w).alloc (Nat.le_refl _) (.cells #[.int .i64 d.Kind, .int .i64 d.By, .int .i64 d.No, .int .i64 d.Seen, .int .i64 d.At, .int .i64 d.Many, .string d.Text] 54)
  have hd0 := DdAt.new w d
  have hs0 := hs.below hb0
  clear hs
  go_enter Try.func13, Try.ntmps13
  go_upto_region 1 with fail
  generalize hw0 : w.alloc (.cells #[.int .i64 d.Kind, .int .i64 d.By, .int .i64 d.No, .int .i64 d.Seen, .int .i64 d.At, .int .i64 d.Many, .string d.Text] 54) = w0 at *
  clear hw0
  go_wp2_with fail
  refine (foldBegun_c _).mono ?_
  rintro e w1 ⟨rfl, hb1⟩
  have hs1 := hs0.below hb1
  have hd1 := hd0.later hb1
  have hx1 := hb0.trans (hb1.mono hb0.size)
  clear hs0 hd0 hb0 hb1
  obtain ⟨dl, d0, d1, d2, d3, d4, d5, d6⟩ := hd1
  have hd1 : DdAt w1 w.heap.size d := ⟨dl, d0, d1, d2, d3, d4, d5, d6⟩
  by_cases hbig : 300 < l.length
  · clear hd1 d0 d2 d3 d4 d5
    go_wp2
    go_ret
    exact ⟨rfl, hx1⟩
  have hd300 : decide (300 < (l.length : Int)) = false := by simp; omega
  by_cases ht : 100 < d.Text.size
  · have hd100 : decide (100 < (d.Text.size : Int)) = true := by simp; omega
    clear hd1 d0 d2 d3 d4 d5
    go_wp2
    go_ret
    exact ⟨rfl, hx1⟩
  have hd100 : decide (100 < (d.Text.size : Int)) = false := by simp; omega
  have hlen : l.length ≤ 300 := by omega
  have htx : d.Text.size ≤ 100 := by omega
  clear hbig ht
  go_wp2_with fail
  refine (Do_c a cap l d number _ hs1 HN.out (by omega) (by unfold maxLen; omega) HMN.out HG.out).mono ?_
  rintro e w2 ⟨a2, cap2, rfl, ho2, hb2⟩
  have hs2 := hs1.below hb2
  have hd2 := hd1.later hb2
  have hx2 := hx1.trans (hb2.mono hx1.size)
  have ht2 := ho2.slCh
  clear hs1 hd1 hx1 hb2 ho2 d0 d1 d2 d3 d4 d5 d6 dl
  have HK0 := Lib.hid (kept l d number)
  have HZ0 := Lib.hid (doF_zero (l := l) (d := d) (number := number))
  have HG2 := Lib.hid (doF_gone l d number HG.out)
  generalize doF l d number = R at *
  obtain ⟨L2, c2⟩ := R
  simp only at *
  by_cases h0 : c2 = 0
  case neg =>
    have hne : (c2 != 0) = true := by simpa using h0
    clear h0 HK0 HZ0
    go_wp2
    go_ret
    exact ⟨rfl, hx2⟩
  subst h0
  obtain ⟨p, hK⟩ := HK0.out rfl
  have hmay := (HZ0.out rfl).1
  have hfz := (mayDo_zero hmay).1
  have HDF := Lib.hid hfz
  have hl2 := hK.len
  have hple := hK.le
  have hpos : 0 < L2.length := by
    have hv := (mayDo_zero hmay).2.1
    have hvl := vis_le d.Seen d.By l
    obtain ⟨_, _, _, _, _, ha0, _, hq⟩ := deedFault_zero hfz
    rcases hq with ⟨_, _, h⟩ | ⟨_, h, _⟩
    · have := (textOk_size h).1; omega
    · omega
  obtain ⟨b2, off2, rfl, _⟩ := ht2.nth hpos
  have HK := Lib.hid hK
  have hw1 : IntKind.i64.wrap ((l.length : Int) + (d.Text.size : Int)) = (l.length : Int) + (d.Text.size : Int) := by rw [IntKind.wrap_i64]; omega
  have hne8 : ((L2.length : Int) != (l.length : Int) + (d.Text.size : Int)) = false := by simp; omega
  have HL2 := Lib.hid hl2
  clear HK0 HZ0 hmay hfz hK hl2
  obtain ⟨dl, d0, d1, d2, d3, d4, d5, d6⟩ := hd2
  have hd2 : DdAt w2 w.heap.size d := ⟨dl, d0, d1, d2, d3, d4, d5, d6⟩
  go_wp2
  clear d0 d1 d2 d3 d4 d5 d6 dl hw1 hne8
  have HS2 := Lib.hid hs2; have HT2 := Lib.hid ht2; have HD2 := Lib.hid hd2
  clear hs2 ht2 hd2
  go_loopw [9] (fun s9 wr => ∃ k : Nat, k ≤ l.length ∧ s9 = .int .i64 k ∧ Below w2.heap.size w2 wr) (fun s9 _ => l.length - (intOf s9).toNat)
  case atStart => exact ⟨0, Nat.zero_le _, rfl, Below.refl _ _⟩
  case round =>
    obtain ⟨k, hk, rfl, hb⟩ := hrel
    have HSr := Lib.hid (HS2.out.below hb)
    have HTr := Lib.hid (HT2.out.below hb)
    go_upto_region 11 with fail
    go_cut [86] (fun s86 wx => (∃ B : Bool, s86 = .bool B ∧ (B = true → k < l.length) ∧ (B = false → p ≤ k)) ∧ Below wr.heap.size wr wx)
    case first => as_aux_lemma =>
      by_cases hlt : k < l.length
      · have hltB : decide ((k : Int) < l.length) = true := by simp; omega
        have hlt' : (k : Int) < l.length := by omega
        have hk2 : k < L2.length := by have := HL2.out; omega
        have hlt2 : (k : Int) < (L2.length : Int) := by omega
        obtain ⟨b, off, rfl, hc⟩ := HSr.out.nth hlt
        obtain ⟨b', off', e', hc'⟩ := HTr.out.nth hk2
        cases e'
        obtain ⟨q0, q1, q2, q3, q4, q5, q6⟩ := hc
        obtain ⟨r0, r1, r2, r3, r4, r5, r6⟩ := hc'
        have HP := Lib.hid (fun (hp : k < p) => (HK.out.head k hlt hk2 hp).1)
        generalize l[k] = o at *
        generalize L2[k] = y at *
        have q0 := cellP q0
        have q1 := cellP q1
        have q2 := cellP q2
        have q3 := cellP q3
        have q4 := cellP q4
        have q5 := cellP q5
        have q6 := cellP q6
        have r0 := cellP r0
        have r1 := cellP r1
        have r2 := cellP r2
        have r3 := cellP r3
        have r4 := cellP r4
        have r5 := cellP r5
        have r6 := cellP r6
        have hk0 : (0 : Int) ≤ (k : Int) := by omega
        rcases keepSame_cases y o with ⟨h1, h2⟩ | ⟨h1, h2, h3⟩ | ⟨h1, h2, h3⟩
        · have HE := Lib.hid (show p ≤ k from Nat.le_of_not_lt fun hp => by rw [HP.out hp] at h2; cases h2)
          refine wp_region_calm (wz := wr) (Below.refl _ _) (by kernel_rfl) (by kernel_rfl) ?_
          clear HP h2
          repeat (first | go_big_quiet_skip | (go_big_quiet_want; go_big_quiet_op; first | go_big_quiet_on | (apply Exists.intro; refine ⟨?_, ?_⟩; (focus (intro q; (go_at_call 41; exact calmP q (RSame_b y o _ HSM.out _)))); go_big_quiet_on)))
          refine wpQuiet_nil ?_
          rintro w8 ⟨p8, rfl⟩
          have hL8 := p8.h
          go_wp2
          go_meet
          exact ⟨⟨false, rfl, fun h => (by cases h), fun _ => HE.out⟩, hL8⟩
        · have HE := Lib.hid (show p ≤ k from Nat.le_of_not_lt fun hp => by rw [HP.out hp] at h3; cases h3)
          have HSM := Lib.hid h2
          refine wp_region_calm (wz := wr) (Below.refl _ _) (by kernel_rfl) (by kernel_rfl) ?_
          clear HP h3 h2
          repeat (first | go_big_quiet_skip | (go_big_quiet_want; go_big_quiet_op; first | go_big_quiet_on | (apply Exists.intro; refine ⟨?_, ?_⟩; (focus (intro q; (go_at_call 41; exact calmP q (RSame_b y o _ HSM.out _)))); go_big_quiet_on)))
          refine wpQuiet_nil ?_
          rintro w8 ⟨p8, rfl⟩
          have hL8 := p8.h
          go_wp2
          go_meet
          exact ⟨⟨false, rfl, fun h => (by cases h), fun _ => HE.out⟩, hL8⟩
        · have HE := Lib.hid (show (y.In == o.In) = false → p ≤ k from fun h => Nat.le_of_not_lt fun hp => by rw [HP.out hp, h] at h3; cases h3)
          have HSM := Lib.hid h2
          have HKL := Lib.hid hlt
          refine wp_region_calm (wz := wr) (Below.refl _ _) (by kernel_rfl) (by kernel_rfl) ?_
          clear HP h3 h2
          repeat (first | go_big_quiet_skip | (go_big_quiet_want; go_big_quiet_op; first | go_big_quiet_on | (apply Exists.intro; refine ⟨?_, ?_⟩; (focus (intro q; (go_at_call 41; exact calmP q (RSame_b y o _ HSM.out _)))); go_big_quiet_on)))
          refine wpQuiet_nil ?_
          rintro w8 ⟨p8, rfl⟩
          have hL8 := p8.h
          go_wp2
          go_meet
          exact ⟨⟨y.In == o.In, rfl, fun _ => HKL.out, fun h => HE.out h⟩, hL8⟩
      · have hltB : decide ((k : Int) < l.length) = false := by simp; omega
        have HPK := Lib.hid (show p ≤ k by omega)
        refine wp_region_calm (wz := wr) (Below.refl _ _) (by kernel_rfl) (by kernel_rfl) ?_
        repeat (first | go_big_quiet_skip | (go_big_quiet_want; go_big_quiet_op; first | go_big_quiet_on | (apply Exists.intro; refine ⟨?_, ?_⟩; (focus (intro q; (go_at_call 41; exact calmP q (RSame_b y o _ HSM.out _)))); go_big_quiet_on)))
        refine wpQuiet_nil ?_
        rintro w8 ⟨p8, rfl⟩
        have hL8 := p8.h
        go_wp2
        go_meet
        exact ⟨⟨false, rfl, fun h => (by cases h), fun _ => HPK.out⟩, hL8⟩
    case rest => as_aux_lemma =>
      obtain ⟨⟨B, rfl, hBt, hBf⟩, hbx⟩ := hcut
      have hbr := hb.trans (hbx.mono hb.size)
      clear hb hbx HSr HTr
      cases B
      case true =>
        have hlt := hBt rfl
        clear hBt hBf
        go_wp2
        exact ⟨⟨k + 1, by omega, by go_num, hbr⟩, by simp [intOf]; omega⟩
      have hpk := hBf rfl
      clear hBt hBf
      go_wp2
      go_loopw [10] (fun s10 wr2 => ∃ f : Nat, p ≤ f ∧ f ≤ k ∧ s10 = .int .i64 f ∧ Below w2.heap.size w2 wr2) (fun s10 _ => (intOf s10).toNat)
      case atStart => exact ⟨k, hpk, Nat.le_refl _, rfl, hbr⟩
      case round =>
        obtain ⟨f, hpf, hfk, rfl, hbf⟩ := hrel
        have hf0 : (0 : Int) ≤ (f : Int) := by omega
        clear hbr hpk
        go_wp2
        go_loopw [11, 12] (fun s11 s12 wr3 => ∃ (B : Bool) (i : Nat), s11 = .bool B ∧ s12 = .int .i64 i ∧ i ≤ l.length ∧ (f = p → B = true) ∧ Below w2.heap.size w2 wr3) (fun _ s12 _ => l.length - (intOf s12).toNat)
        case atStart => exact ⟨true, 0, rfl, rfl, Nat.zero_le _, fun _ => rfl, hbf⟩
        case round =>
          obtain ⟨B, i, rfl, rfl, hil, hBp, hb3⟩ := hrel
          clear hbf
          go_upto_region 18 with fail
          go_cut [100] (fun s100 wx => (∃ C : Bool, s100 = .bool C ∧ (C = true → i < l.length ∧ B = true)) ∧ wx = wr)
          case first => as_aux_lemma =>
            by_cases hlt : i < l.length
            · have hltB : decide ((i : Int) < l.length) = true := by simp; omega
              have HLT := Lib.hid hlt
              cases B
              all_goals
                go_wp2
                go_meet
              · exact ⟨⟨false, by first | rfl | simp, fun h => by cases h⟩, by first | rfl | simp⟩
              · exact ⟨⟨true, rfl, fun _ => by first | exact ⟨HLT.out, rfl⟩ | exact ⟨HLT.out, trivial⟩ | exact HLT.out⟩, rfl⟩
            · have hltB : decide ((i : Int) < l.length) = false := by simp; omega
              go_wp2
              go_meet
              exact ⟨⟨false, rfl, fun h => by cases h⟩, rfl⟩
          case rest => as_aux_lemma =>
            obtain ⟨⟨C, rfl, hC⟩, rfl⟩ := hcut
            cases C
            case false =>
              clear hC
              have hwf : IntKind.i64.wrap ((f : Int) - 1) = (f : Int) - 1 := by rw [IntKind.wrap_i64]; omega
              cases B
              case false =>
                have hfp : f ≠ p := fun e => by have := hBp e; cases this
                clear hBp
                go_upto_region 27 with fail
                go_quiet (fail)
                go_wp2
                exact ⟨⟨f - 1, by omega, by omega, by rw [show ((f - 1 : Nat) : Int) = (f : Int) - 1 by omega], bl_drewN hb3 _⟩, by simp [intOf]; omega⟩
              case true =>
                have hwT : IntKind.i64.wrap ((f : Int) + (d.Text.size : Int)) = (f : Int) + (d.Text.size : Int) := by rw [IntKind.wrap_i64]; omega
                have hcap := HT2.out.1
                have hfT1 : (0 : Int) ≤ (f : Int) + (d.Text.size : Int) := by omega
                have hfT2 : (f : Int) ≤ (f : Int) + (d.Text.size : Int) := by omega
                have hfT3 : (f : Int) + (d.Text.size : Int) ≤ (cap2 : Int) := by have := HL2.out; omega
                have hfTn : ((f : Int) + (d.Text.size : Int)).toNat = f + d.Text.size := by omega
                have HDr := Lib.hid (HD2.out.later hb3)
                obtain ⟨dl, d0, d1, d2, d3, d4, d5, d6⟩ := HDr.out
                have d0 := later_cell d0
                have d1 := later_cell d1
                have d2 := later_cell d2
                have d3 := later_cell d3
                have d4 := later_cell d4
                have d5 := later_cell d5
                have d6 := later_cell d6
                have hL : ∀ q : Lt wc, Later wc q.v := fun q => q.h
                clear hBp dl
                go_upto_region 27 with fail
                refine wp_region_mix [12] [0, 1, 2, 3, 4, 5, 6, 7, 8, 9, 10, 11, 12, 13, 14] (by kernel_rfl) (by kernel_rfl) ?_
                iterate 12 (refine wpMix_step rfl (fun K hK => ?_); go_simp; refine hK _ _ ?_; clear hK K)
                refine wpMix_step rfl (fun K hK => ?_)
                go_simp
                intro q
                refine (New_c d number _ (by omega)).mono ?_
                rintro e w5 ⟨a5, cap5, rfl, ho5, hb5⟩
                refine ⟨_, rfl, hb5, hK _ _ ?_⟩
                clear hK K
                have hl5 : Later wc w5 := (hL q).trans hb5
                clear d0 d1 d2 d3 d4 d5 d6 hL
                obtain ⟨r, hr⟩ : ∃ r, decide ((L2.drop f).take d.Text.size = newOf d number) = r := ⟨_, rfl⟩
                have HR := Lib.hid hr
                have HCUT := Lib.hid (fun (W : World) (hW : Later wc W) => ((HT2.out.below hb3).below hW).cut f d.Text.size (by have := HL2.out; omega))
                have hctl : ((L2.drop f).take d.Text.size).length = d.Text.size := by rw [List.length_take, List.length_drop]; have := HL2.out; omega
                have HCL := Lib.hid hctl
                have HNR := Lib.hid (fun (W : World) (hW : Later w5 W) => ho5.slCh.below hW)
                clear hr hctl ho5 hb5
                refine wpMix_step rfl (fun K hK => ?_)
                go_simp
                apply Exists.intro
                refine ⟨?_, hK _ _ ?_⟩
                · intro q5
                  exact quietM q5 (SameChars_n _ _ _ _ _ _ _ HCL.out r HR.out _ (HCUT.out _ (hl5.trans q5.h)) (HNR.out _ q5.h))
                clear hK K
                iterate 1 (refine wpMix_step rfl (fun K hK => ?_); go_simp; refine hK _ _ ?_; clear hK K)
                refine wpMix_nil ?_
                intro w6 hL6
                have hb6 := hb3.trans (Below.mono (hl5.trans hL6) hb3.size)
                have HD6 := Lib.hid (HD2.out.later hb6)
                clear hL6 hl5 HCUT HNR
                cases r
                case true =>
                  obtain ⟨dl, d0, d1, d2, d3, d4, d5, d6⟩ := HD6.out
                  have hbx6 := hx2.trans (Below.mono hb6 hx2.size)
                  have HMX := Lib.hid (show d.Text.size ≤ maxLen by unfold maxLen; omega)
                  go_wp2_with (go_at_call 57; refine (DCheck_k d 0 HDF.out _ HMX.out).mono ?_; rintro e w7 ⟨rfl, hb7⟩; have HX := Lib.hid (hbx6.trans (hb7.mono hbx6.size)))
                  all_goals
                    go_ret
                    exact ⟨rfl, HX.out⟩
                case false =>
                  have hfp : f ≠ p := fun e => by
                    have := HR.out
                    rw [e, HK.out.new] at this
                    simp at this
                  go_wp2
                  all_goals exact ⟨⟨f - 1, by omega, by omega, by rw [show ((f - 1 : Nat) : Int) = (f : Int) - 1 by omega], hb6⟩, by simp [intOf]; omega⟩
            case true =>
              obtain ⟨hlt, rfl⟩ := hC rfl
              have hi2 : i < L2.length := by have := HL2.out; omega
              have hiT : i + d.Text.size < L2.length := by have := HL2.out; omega
              obtain ⟨b, off, rfl, hc⟩ := (HS2.out.below hb3).nth hlt
              obtain ⟨b', off', e', hcx⟩ := (HT2.out.below hb3).nth hi2
              cases e'
              obtain ⟨b', off', e', hcT⟩ := (HT2.out.below hb3).nth hiT
              cases e'
              have HDr := Lib.hid (HD2.out.later hb3)
              have HH := Lib.hid (fun (h : i < p) => HK.out.head i hlt hi2 h)
              have HT := Lib.hid (fun (h : p ≤ i) => HK.out.tail i hlt hiT h)
              have HGx := Lib.hid (HG2.out L2[i] (List.getElem_mem hi2))
              have HGT := Lib.hid (HG2.out L2[i + d.Text.size] (List.getElem_mem hiT))
              generalize l[i] = o at *
              generalize L2[i] = y0 at *
              generalize L2[i + d.Text.size] = y1 at *
              have hlt' : (i : Int) < l.length := by omega
              have hi2' : (i : Int) < L2.length := by omega
              have hiT' : (i : Int) + (d.Text.size : Int) < L2.length := by omega
              have hi0 : (0 : Int) ≤ (i : Int) := by omega
              have hiT0 : (0 : Int) ≤ (i : Int) + (d.Text.size : Int) := by omega
              have hiTn : ((i : Int) + (d.Text.size : Int)).toNat = i + d.Text.size := by omega
              have hwI : IntKind.i64.wrap ((i : Int) + (d.Text.size : Int)) = (i : Int) + (d.Text.size : Int) := by rw [IntKind.wrap_i64]; omega
              have HA := fun o => (Below.refl wc.heap.size wc).alloc (Nat.le_refl _) o
              obtain ⟨q0, q1, q2, q3, q4, q5, q6⟩ := hcx
              go_upto_if 109 with (fail)
              go_cut [] (fun wx => ∃ y : Ch, wx = wc.alloc (.cells #[.int .u8 y.C, .int .i64 y.By, .int .i64 y.No, .int .i64 y.K, .int .i64 y.In, .int .i64 y.Out, .int .i64 y.Gone] 24) ∧ (f = p → keepSame y o = true ∧ keepGone d y o = true) ∧ i64ok y.Gone)
              case first => as_aux_lemma =>
                by_cases hfi : f ≤ i
                · have hfB : decide ((f : Int) ≤ (i : Int)) = true := by simp; omega
                  have HY := Lib.hid (show f = p → keepSame y1 o = true ∧ keepGone d y1 o = true from fun e => HT.out (by omega))
                  obtain ⟨t0, t1, t2, t3, t4, t5, t6⟩ := hcT.below (HA (.cells #[.int .u8 y0.C, .int .i64 y0.By, .int .i64 y0.No, .int .i64 y0.K, .int .i64 y0.In, .int .i64 y0.Out, .int .i64 y0.Gone] 24)) hcT.lt
                  obtain ⟨dl, d0, d1, d2, d3, d4, d5, d6⟩ := HDr.out.later (HA (.cells #[.int .u8 y0.C, .int .i64 y0.By, .int .i64 y0.No, .int .i64 y0.K, .int .i64 y0.In, .int .i64 y0.Out, .int .i64 y0.Gone] 24))
                  go_wp2
                  go_meet
                  exact ⟨y1, rfl, HY.out, HGT.out⟩
                · have hfB : decide ((f : Int) ≤ (i : Int)) = false := by simp; omega
                  have HY := Lib.hid (show f = p → keepSame y0 o = true ∧ keepGone d y0 o = true from fun e => HH.out (by omega))
                  go_wp2
                  go_meet
                  exact ⟨y0, rfl, HY.out, HGx.out⟩
              case rest => as_aux_lemma =>
                obtain ⟨y, rfl, hY, hGy⟩ := hcut
                have HY := Lib.hid hY
                clear HGx
                have HGx := Lib.hid hGy
                clear q0 q1 q2 q3 q4 q5 q6 HT HGT hcT HH hY hGy
                clear hi2' hiT' hiT0 hiTn hwI
                have hbY := HA (.cells #[.int .u8 y.C, .int .i64 y.By, .int .i64 y.No, .int .i64 y.K, .int .i64 y.In, .int .i64 y.Out, .int .i64 y.Gone] 24)
                have hcy : ChAt (wc.alloc (.cells #[.int .u8 y.C, .int .i64 y.By, .int .i64 y.No, .int .i64 y.K, .int .i64 y.In, .int .i64 y.Out, .int .i64 y.Gone] 24)) wc.heap.size 0 y := by simp [ChAt]
                have hco := hc.below hbY hc.lt
                have HD1 := Lib.hid (HDr.out.later hbY)
                have hb4 := hb3.trans (hbY.mono hb3.size)
                clear HA hbY hc HDr
                generalize wc.alloc (.cells #[.int .u8 y.C, .int .i64 y.By, .int .i64 y.No, .int .i64 y.K, .int .i64 y.In, .int .i64 y.Out, .int .i64 y.Gone] 24) = wy at *
                generalize wc.heap.size = by_ at *
                obtain ⟨o0, o1, o2, o3, o4, o5, o6⟩ := hco
                have HB := Lib.hid ((Below.refl wy.heap.size wy).alloc (Nat.le_refl _) (.cells #[.int .u8 o.C, .int .i64 o.By, .int .i64 o.No, .int .i64 o.K, .int .i64 o.In, .int .i64 o.Out, .int .i64 o.Gone] 24))
                go_upto_region 24 with fail
                clear o0 o1 o2 o3 o4 o5 o6
                have hcy2 := hcy.below HB.out hcy.lt
                have hcO : ChAt (wy.alloc (.cells #[.int .u8 o.C, .int .i64 o.By, .int .i64 o.No, .int .i64 o.K, .int .i64 o.In, .int .i64 o.Out, .int .i64 o.Gone] 24)) wy.heap.size 0 o := by simp [ChAt]
                have HD3 := Lib.hid (HD1.out.later HB.out)
                have hb5 := hb4.trans (HB.out.mono hb4.size)
                clear HB HD1 hcy hb4
                generalize wy.alloc (.cells #[.int .u8 o.C, .int .i64 o.By, .int .i64 o.No, .int .i64 o.K, .int .i64 o.In, .int .i64 o.Out, .int .i64 o.Gone] 24) = wo at *
                generalize wy.heap.size = bo_ at *
                have ltY := hcy2.lt
                have ltO := hcO.lt
                obtain ⟨z0, z1, z2, z3, z4, z5, z6⟩ := hcy2
                obtain ⟨o0, o1, o2, o3, o4, o5, o6⟩ := hcO
                have hcy2 : ChAt wo by_ 0 y := ⟨z0, z1, z2, z3, z4, z5, z6⟩
                have hcO : ChAt wo bo_ 0 o := ⟨o0, o1, o2, o3, o4, o5, o6⟩
                simp only [Nat.zero_add] at z1 z2 z3 z4 z5 z6 o1 o2 o3 o4 o5 o6
                go_cut [15] (fun s15 wx => s15 = .bool (keepSame y o) ∧ Below wo.heap.size wo wx)
                case first => as_aux_lemma =>
                  have HB0 := Lib.hid (Below.refl wo.heap.size wo)
                  rcases keepSame_cases y o with ⟨h1, h2⟩ | ⟨h1, h2, h3⟩ | ⟨h1, h2, h3⟩
                  · have HX := Lib.hid h2
                    clear h2
                    go_wp2
                    go_meet
                    exact ⟨by rw [HX.out], HB0.out⟩
                  · have HX := Lib.hid h3
                    have HSM := Lib.hid h2
                    clear h2 h3
                    go_wp2_with (go_at_call 41; refine (RSame_b y o _ HSM.out _).mono ?_; rintro e w' ⟨rfl, hbw⟩)
                    go_meet
                    exact ⟨by rw [HX.out], hbw⟩
                  · have HX := Lib.hid h3
                    have HSM := Lib.hid h2
                    clear h2 h3
                    go_wp2_with (go_at_call 41; refine (RSame_b y o _ HSM.out _).mono ?_; rintro e w' ⟨rfl, hbw⟩; have v4 := (hbw.cell (p := ⟨by_, 4, none⟩) ltY).trans z4; have u4 := (hbw.cell (p := ⟨bo_, 4, none⟩) ltO).trans o4)
                    go_meet
                    exact ⟨by rw [HX.out], hbw⟩
                case rest => as_aux_lemma =>
                  obtain ⟨rfl, hb24⟩ := hcut
                  clear z0 z1 z2 z3 z4 z5 z6 o0 o1 o2 o3 o4 o5 o6
                  obtain ⟨z0, z1, z2, z3, z4, z5, z6⟩ := hcy2.below hb24 ltY
                  obtain ⟨o0, o1, o2, o3, o4, o5, o6⟩ := hcO.below hb24 ltO
                  obtain ⟨dl, d0, d1, d2, d3, d4, d5, d6⟩ := HD3.out.later hb24
                  simp only [Nat.zero_add] at z1 z2 z3 z4 z5 z6 o1 o2 o3 o4 o5 o6
                  clear z0 z1 z2 z3 z4 o0 o1 o2 o3 o4 d2 d3 d4 d5 d6
                  generalize hks : keepSame y o = KS at *
                  go_upto_region 25 with fail
                  go_cut [16] (fun s16 wx => s16 = .bool (keepGone d y o) ∧ Below wo.heap.size wo wx)
                  case first => as_aux_lemma =>
                    have HB0 := Lib.hid hb24
                    have HGk := Lib.hid HGx.out
                    rcases keepGone_cases d y o with ⟨h1, h2, h⟩ | ⟨h1, h2, h3, h⟩ | ⟨h1, h2, h⟩ | ⟨h1, h2, h3, h4, h⟩ | ⟨h1, h2, h3, h⟩ | ⟨h1, h2, h3, h4, h⟩ | ⟨h1, h2, h3, h4, h5, h⟩ | ⟨h1, h2, h3, h4, h5, h⟩ | ⟨h1, h2, h3, h4, h5, h⟩ | ⟨h1, h2, h3, h4, h5, h⟩
                    all_goals
                      have HX := Lib.hid h
                      clear h
                      go_wp2_with (go_at_call 28; refine (Took_k _ _ _ (by assumption) _ HGk.out).mono ?_; rintro e w' ⟨rfl, rfl⟩)
                      go_meet
                      exact ⟨by rw [HX.out], HB0.out⟩
                  case rest => as_aux_lemma =>
                    obtain ⟨rfl, hb25⟩ := hcut
                    have hb6 := hb5.trans (hb25.mono hb5.size)
                    clear z5 z6 o5 o6 d0 d1 dl hb24 hb25 hcy2 hcO HD3
                    have HB6 := Lib.hid hb6
                    have HKp := Lib.hid (show f = p → (KS && keepGone d y o) = true from fun e => by obtain ⟨u1, u2⟩ := HY.out e; rw [u1, u2]; rfl)
                    generalize keepGone d y o = KG at *
                    clear hks HY
                    cases KS
                    all_goals
                      go_wp2
                      exact ⟨⟨_, i + 1, rfl, by go_num, by omega, (fun e => by have := HKp.out e; first | exact this | (simp at this) | (simpa using this)), HB6.out⟩, by simp [intOf]; omega⟩
end Go.Proofs.Ytneoeokfffnonaa
