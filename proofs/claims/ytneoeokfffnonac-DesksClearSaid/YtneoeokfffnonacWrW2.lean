/- The walk of the Writer's Send. -/
import Derived.Test.YtneoeokfffnonacWrW
import Derived.Test.YtneoeokfffnonacScrW
set_option linter.unusedVariables false
set_option linter.unusedSimpArgs false
namespace Go.Proofs.Ytneoeokfffnonac
open Go.RowKit
section
variable {w : World} {base : Nat} {F : Nat → Prop} {g : Nat} {s : WrV}

/-- What Send tells. -/
def WSendPost (w : World) (base : Nat) (F : Nat → Prop) (g : Nat) (s : WrV) (e : Ending) (w' : World) : Prop :=
  Below base w w' ∧ Moves F w w' ∧ ((s.os.length ≤ s.ns ∧ e = .returned (.tuple #[.agg #[.int .i64 zD.Kind, .int .i64 zD.By, .int .i64 zD.No, .int .i64 zD.Seen, .int .i64 zD.At, .int .i64 zD.Many, .string zD.Text], .bool false]) ∧ WrAt w' base F g s) ∨ ∃ (h : s.ns < s.os.length), e = .returned (.tuple #[.agg #[.int .i64 s.os[s.ns].d.Kind, .int .i64 s.os[s.ns].d.By, .int .i64 s.os[s.ns].d.No, .int .i64 s.os[s.ns].d.Seen, .int .i64 s.os[s.ns].d.At, .int .i64 s.os[s.ns].d.Many, .string s.os[s.ns].d.Text], .bool true]) ∧ WrAt w' base F g { s with ns := s.ns + 1 })
theorem WrAt.setSent' {b off cap ocap : Nat} {a : Option Addr} {es : List OpE} (h : WrAt w base F g s) (r : WrRows w base F g s a cap (some ⟨b, off, none⟩) ocap es) (hn : s.ns < es.length) :
    WrAt (w.setCell ⟨b, off + s.ns * 9 + 8, none⟩ (.bool true)) base F g { s with ns := s.ns + 1 } ∧
    WrRows (w.setCell ⟨b, off + s.ns * 9 + 8, none⟩ (.bool true)) base F g { s with ns := s.ns + 1 } a cap (some ⟨b, off, none⟩) ocap (es.set s.ns { es[s.ns] with sent := true }) := by
  rw [Nat.add_assoc]; exact h.setSent r hn

set_option maxHeartbeats 800000 in
theorem WSend_c (h : WrAt w base F g s) (hos : s.os.length ≤ 1000000) :
    Calls Try.prog 61 #[.pointer (some ⟨g, 0, none⟩)] w (WSendPost w base F g s) := by
  have hb0 := (Below.refl w.heap.size w).alloc (Nat.le_refl _) (.cells #[.int .i64 zD.Kind, .int .i64 zD.By, .int .i64 zD.No, .int .i64 zD.Seen, .int .i64 zD.At, .int .i64 zD.Many, .string zD.Text] 24)
  have HA0 := Lib.hid (h.later hb0)
  have HD0 := Lib.hid (DdAt.new w zD)
  have HF0 := Lib.hid (show ∀ j, j < 7 → (w.alloc (.cells #[.int .i64 zD.Kind, .int .i64 zD.By, .int .i64 zD.No, .int .i64 zD.Seen, .int .i64 zD.At, .int .i64 zD.Many, .string zD.Text] 24)).frozen? ⟨w.heap.size, j, none⟩ = false from fun j _ => by simp)
  have HM0 := Lib.hid (Moves.of_below (F := F) hb0)
  have HNF := Lib.hid (show ¬ F w.heap.size from fun hf => Nat.lt_irrefl _ (h.foot _ hf).2)
  have hbs := h.base_le
  have HFX := Lib.hid (show ∀ k, F k → k < w.heap.size from fun k hk => (h.foot k hk).2)
  have HB0 := Lib.hid (hb0.mono hbs)
  have HFG := Lib.hid h.fg
  clear h hb0
  go_enter Try.func61, Try.ntmps61
  go_upto_region 1 with fail
  generalize hw0 : w.alloc _ = w0
  have hw0' : w.alloc (.cells #[.int .i64 zD.Kind, .int .i64 zD.By, .int .i64 zD.No, .int .i64 zD.Seen, .int .i64 zD.At, .int .i64 zD.Many, .string zD.Text] 24) = w0 := hw0
  rw [hw0'] at HA0 HD0 HF0 HM0 HB0
  clear hw0 hw0'
  obtain ⟨X, hX⟩ : ∃ X, X = w.heap.size := ⟨_, rfl⟩
  rw [← hX] at HD0 HF0 HNF HFX ⊢
  have hXB : base ≤ X := by omega
  have HXW := Lib.hid hX
  have hXl : X < w0.heap.size := HD0.out.lt
  clear hX
  obtain ⟨a, cap, oa, ocap, es, r⟩ := HA0.out.rows
  have c4 := r.c4
  have hel := r.len
  have HR := Lib.hid r
  clear r
  go_wp2
  go_loopw [4, 10] (fun s4 s10 wr => ∃ i : Nat, i ≤ es.length ∧ i ≤ s.ns ∧ s10 = (.int .i64 i) ∧ w0 = wr) (fun _ s10 _ => es.length - (intOf s10).toNat)
  case atStart => exact ⟨0, Nat.zero_le _, Nat.zero_le _, rfl, rfl⟩
  case round =>
    obtain ⟨i, hi, hns, rfl, rfl⟩ := hrel
    by_cases hlt : i < es.length
    · obtain ⟨b, off, rfl, hbb, hbl, hob, q0, q1, q2, q3, q4, q5, q6, q7, q8⟩ := HR.out.nth i hlt
      have HSe := Lib.hid (HR.out.sent i hlt)
      have hlt' : (i : Int) < es.length := by omega
      have hi0 : (0 : Int) ≤ (i : Int) := by omega
      have hltB : decide ((i : Int) < (es.length : Int)) = true := decide_eq_true hlt'
      have hltN : decide (i < es.length) = true := decide_eq_true hlt
      by_cases hin : i < s.ns
      · have hse : es[i].sent = true := by rw [HSe.out]; exact decide_eq_true hin
        clear HSe q0 q1 q2 q3 q4 q5 q6 q7
        rw [hse] at q8
        clear hse
        go_wp2
        exact ⟨⟨i + 1, by omega, by omega, by go_num, by first | rfl | trivial⟩, by simp [intOf]; omega⟩
      · obtain rfl : i = s.ns := by omega
        have hse : es[s.ns].sent = false := by rw [HSe.out]; simp
        obtain ⟨hio, hoe⟩ := HR.out.os_at s.ns hlt
        have HDE := Lib.hid (show s.os[s.ns].d = es[s.ns].d from by rw [hoe]; rfl)
        have HIO := Lib.hid hio
        clear HSe hoe q0 q1 q2 q3 q4 q5 q6 q7
        rw [hse] at q8
        clear hse
        obtain ⟨h2, r2⟩ := HA0.out.setSent' HR.out hlt
        have hbF : F b := (HR.out.fo b hob).1
        have hbX : b ≠ X := fun e => HNF.out (e ▸ hbF)
        have HA2 := Lib.hid h2
        have HD2 := Lib.hid (HD0.out.of_block (w' := w0.setCell ⟨b, off + s.ns * 9 + 8, none⟩ (.bool true)) (by simp) (Below.heap_setCell w0 ⟨b, off + s.ns * 9 + 8, none⟩ _ _ (fun e => hbX (by simp at e; exact e.symm))))
        have HM2 := Lib.hid (HM0.out.trans (Moves.setCell w0 ⟨b, off + s.ns * 9 + 8, none⟩ (.bool true) hbF) (fun _ _ k => k))
        have HB2 := Lib.hid (show Below base w (w0.setCell ⟨b, off + s.ns * 9 + 8, none⟩ (.bool true)) from HB0.out.setCell (p := ⟨b, off + s.ns * 9 + 8, none⟩) (HA0.out.foot b hbF).1 _)
        have HF2 := Lib.hid (fun j (hj : j < 7) => show (w0.setCell ⟨b, off + s.ns * 9 + 8, none⟩ (.bool true)).frozen? ⟨X, j, none⟩ = false from (World.frozen?_setCell _ _ _ _).trans (HF0.out j hj))
        have C4 := Lib.hid r2.c4
        obtain ⟨b2, off2, eb, _, _, _, Q0, Q1, Q2, Q3, Q4, Q5, Q6, _, _⟩ := r2.nth s.ns (by rw [List.length_set]; exact hlt)
        cases eb
        simp only [List.getElem_set_self] at Q0 Q1 Q2 Q3 Q4 Q5 Q6
        have HQ := Lib.hid (And.intro Q0 (And.intro Q1 (And.intro Q2 (And.intro Q3 (And.intro Q4 (And.intro Q5 Q6))))))
        have fb : w0.frozen? ⟨b, off + s.ns * 9 + 8, none⟩ = false := by
          rcases HR.out.ro.own with h0 | ⟨g', off', cur, e, _, hh, _, _⟩
          · have := HR.out.ro.le; omega
          · cases e
            simp [World.frozen?, hh]
        rw [List.length_set] at C4
        clear h2 r2 Q0 Q1 Q2 Q3 Q4 Q5 Q6 hbb hbl hob
        go_upto_region 6 with fail
        generalize w0.setCell ⟨b, off + s.ns * 9 + 8, none⟩ (.bool true) = w2 at *
        clear q8 c4 fb
        have c4 := C4.out
        obtain ⟨q0, q1, q2, q3, q4, q5, q6⟩ := HQ.out
        generalize hdd : es[s.ns].d = d at *
        have HP := Lib.hid (HD2.out.putAll d)
        have HBP := Lib.hid (putDd_below d (Below.refl X w2) (Nat.le_refl _))
        obtain ⟨dlt, d0, d1, d2, d3, d4, d5, d6⟩ := HD2.out
        have f0 := HF2.out 0 (by omega)
        have f1 := HF2.out 1 (by omega)
        have f2 := HF2.out 2 (by omega)
        have f3 := HF2.out 3 (by omega)
        have f4 := HF2.out 4 (by omega)
        have f5 := HF2.out 5 (by omega)
        have f6 := HF2.out 6 (by omega)
        clear HQ C4 HR hdd
        go_wp2
        change bodyPost _ _ _ _ _ (putDd w2 X d)
        obtain ⟨_, p0, p1, p2, p3, p4, p5, p6⟩ := HP.out
        refine bodyPost_ret (v := .tuple #[.agg #[.int .i64 d.Kind, .int .i64 d.By, .int .i64 d.No, .int .i64 d.Seen, .int .i64 d.At, .int .i64 d.Many, .string d.Text], .bool true]) (by simp [results, Try.results61, go_sem, p0, p1, p2, p3, p4, p5, p6]) rfl ?_
        exact ⟨HB2.out.trans (HBP.out.mono hXB), HM2.out.above (HBP.out.mono (Nat.le_of_eq HXW.out.symm)), .inr ⟨HIO.out, by rw [HDE.out], HA2.out.above HBP.out HFX.out⟩⟩
    · obtain rfl : i = es.length := by omega
      have hltB : decide ((es.length : Int) < (es.length : Int)) = false := by simp
      have HLN := Lib.hid (show s.os.length ≤ s.ns from by omega)
      have HP := Lib.hid (HD0.out.putAll zD)
      have HBP := Lib.hid (putDd_below zD (Below.refl X w0) (Nat.le_refl _))
      obtain ⟨dlt, d0, d1, d2, d3, d4, d5, d6⟩ := HD0.out
      have f0 := HF0.out 0 (by omega)
      have f1 := HF0.out 1 (by omega)
      have f2 := HF0.out 2 (by omega)
      have f3 := HF0.out 3 (by omega)
      have f4 := HF0.out 4 (by omega)
      have f5 := HF0.out 5 (by omega)
      have f6 := HF0.out 6 (by omega)
      clear HR
      go_wp2
      change bodyPost _ _ _ _ _ (putDd w0 X zD)
      obtain ⟨_, p0, p1, p2, p3, p4, p5, p6⟩ := HP.out
      refine bodyPost_ret (v := .tuple #[.agg #[.int .i64 zD.Kind, .int .i64 zD.By, .int .i64 zD.No, .int .i64 zD.Seen, .int .i64 zD.At, .int .i64 zD.Many, .string zD.Text], .bool false]) (by simp [results, Try.results61, go_sem, p0, p1, p2, p3, p4, p5, p6]) rfl ?_
      exact ⟨HB0.out.trans (HBP.out.mono hXB), HM0.out.above (HBP.out.mono (Nat.le_of_eq HXW.out.symm)), .inl ⟨HLN.out, rfl, HA0.out.above HBP.out HFX.out⟩⟩
end
end Go.Proofs.Ytneoeokfffnonac
