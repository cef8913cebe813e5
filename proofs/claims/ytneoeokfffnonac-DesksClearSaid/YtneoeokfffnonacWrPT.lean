/- The walks of the Writer's Put and Take. -/
import Derived.Test.YtneoeokfffnonacWrDo
set_option linter.unusedVariables false
set_option linter.unusedSimpArgs false
namespace Go.Proofs.Ytneoeokfffnonac
open Go.RowKit

set_option maxRecDepth 100000 in
set_option maxHeartbeats 800000 in
theorem WPut_c {w : World} {base : Nat} {F : Nat → Prop} {g : Nat} {s : WrV} (h : WrAt w base F g s) (hG : ∀ c ∈ s.L, i64ok c.Gone) (hl : s.L.length ≤ 1000) (hos : s.os.length ≤ 1000000) (hns : s.ns ≤ s.os.length) (a : Int) (t : ByteArray) (hdt : t.size ≤ maxLen) (hnx : 0 ≤ s.next ∧ s.next ≤ 1000000) :
    Calls Try.prog 22 #[.pointer (some ⟨g, 0, none⟩), .int .i64 a, .string t] w (WDoPost w base F g s ⟨1, 0, 0, 0, a, 0, t⟩) := by
  have hb0 := (Below.refl w.heap.size w).alloc (Nat.le_refl _) (.cells #[.int .i64 zD.Kind, .int .i64 zD.By, .int .i64 zD.No, .int .i64 zD.Seen, .int .i64 zD.At, .int .i64 zD.Many, .string zD.Text] 24)
  have HDO := Lib.hid (WDo_c (h.later hb0) hG hl hos hns ⟨1, 0, 0, 0, a, 0, t⟩ hdt (by show i64ok 0; unfold i64ok; omega) hnx)
  have HZ0 := Lib.hid (DdAt.new w zD)
  have HFZ := Lib.hid (show ∀ j, j < 7 → (w.alloc (.cells #[.int .i64 zD.Kind, .int .i64 zD.By, .int .i64 zD.No, .int .i64 zD.Seen, .int .i64 zD.At, .int .i64 zD.Many, .string zD.Text] 24)).frozen? ⟨w.heap.size, j, none⟩ = false from fun j _ => by simp)
  have HM0 := Lib.hid (Moves.of_below (F := F) hb0)
  have HFX := Lib.hid (show ∀ k, F k → k < w.heap.size from fun k hk => (h.foot k hk).2)
  have hsz0 : w.heap.size < (w.alloc (.cells #[.int .i64 zD.Kind, .int .i64 zD.By, .int .i64 zD.No, .int .i64 zD.Seen, .int .i64 zD.At, .int .i64 zD.Many, .string zD.Text] 24)).heap.size := by simp
  have HBS := Lib.hid h.base_le
  clear h hb0
  go_enter Try.func22, Try.ntmps22
  go_wp2_with fail
  generalize hw0 : w.alloc _ = w0
  have hw0' : w.alloc (.cells #[.int .i64 zD.Kind, .int .i64 zD.By, .int .i64 zD.No, .int .i64 zD.Seen, .int .i64 zD.At, .int .i64 zD.Many, .string zD.Text] 24) = w0 := hw0
  rw [hw0'] at HDO HZ0 HFZ HM0 hsz0
  clear hw0 hw0'
  refine HDO.out.mono ?_
  rintro e w3 hp
  obtain ⟨Z, hZ⟩ : ∃ Z, Z = w.heap.size := ⟨_, rfl⟩
  rw [← hZ] at HZ0 HFZ HFX hsz0 HBS ⊢
  have HZW := Lib.hid hZ
  clear hZ HDO
  have fin : ∀ (hm : Moves F w0 w3), Hid (DdAt w3 Z zD) ∧ Hid (∀ j, j < 7 → w3.frozen? ⟨Z, j, none⟩ = false) ∧ Hid (Moves F w w3) := fun hm => by
    have hn : ¬ F Z := fun h => Nat.lt_irrefl _ (HFX.out Z h)
    exact ⟨Lib.hid (HZ0.out.of_block hm.size (hm.block Z hsz0 hn)), Lib.hid fun j hj => (hm.frozen hsz0 hn j).trans (HFZ.out j hj), Lib.hid (HM0.out.trans hm (fun _ _ k => k))⟩
  rcases hp with ⟨h1, rfl, h3, h4⟩ | ⟨h1, rfl, F3, h3, h4, h5⟩
  · obtain ⟨HZ3, HF3, HM3⟩ := fin h4
    have H1 := Lib.hid h1; have H3 := Lib.hid h3
    obtain ⟨c, hc⟩ : ∃ c, c = mayDo s.L (s.deed ⟨1, 0, 0, 0, a, 0, t⟩) := ⟨_, rfl⟩
    rw [← hc]
    have HC := Lib.hid hc
    clear h1 h3 h4 fin hc HZ0 HFZ
    have HP := Lib.hid (HZ3.out.putAll zD)
    have HBP := Lib.hid (putDd_below zD (Below.refl Z w3) (Nat.le_refl _))
    obtain ⟨zlt, z0, z1, z2, z3, z4, z5, z6⟩ := HZ3.out
    have f0 := HF3.out 0 (by omega)
    have f1 := HF3.out 1 (by omega)
    have f2 := HF3.out 2 (by omega)
    have f3 := HF3.out 3 (by omega)
    have f4 := HF3.out 4 (by omega)
    have f5 := HF3.out 5 (by omega)
    have f6 := HF3.out 6 (by omega)
    go_wp2
    change bodyPost _ _ _ _ _ (putDd w3 Z zD)
    obtain ⟨_, p0, p1, p2, p3, p4, p5, p6⟩ := HP.out
    refine bodyPost_ret (v := .tuple #[.agg #[.int .i64 zD.Kind, .int .i64 zD.By, .int .i64 zD.No, .int .i64 zD.Seen, .int .i64 zD.At, .int .i64 zD.Many, .string zD.Text], .int .i64 c]) (by simp [results, Try.results22, go_sem, p0, p1, p2, p3, p4, p5, p6]) rfl ?_
    exact Or.inl ⟨H1.out, by rw [HC.out], H3.out.above HBP.out HFX.out, HM3.out.above (HBP.out.mono (Nat.le_of_eq HZW.out.symm))⟩
  · obtain ⟨HZ3, HF3, HM3⟩ := fin h4
    have H1 := Lib.hid h1; have H3 := Lib.hid h3; have H5 := Lib.hid h5
    have hn3 : ∀ k, F3 k → k ≠ Z := fun k hk e => by
      rcases h5 k hk with h | h
      · have := HFX.out k h; omega
      · have h6 : w0.heap.size ≤ k := h
        omega
    have HN3 := Lib.hid hn3
    obtain ⟨D, hD⟩ : ∃ D, D = s.deed ⟨1, 0, 0, 0, a, 0, t⟩ := ⟨_, rfl⟩
    rw [← hD]
    have HD := Lib.hid hD
    clear h1 h3 h4 h5 fin hD HZ0 HFZ hn3
    have HP := Lib.hid (HZ3.out.putAll D)
    have HBP := Lib.hid (putDd_below D (Below.refl Z w3) (Nat.le_refl _))
    have HMP := Lib.hid (putDd_moves w3 Z D)
    obtain ⟨zlt, z0, z1, z2, z3, z4, z5, z6⟩ := HZ3.out
    have f0 := HF3.out 0 (by omega)
    have f1 := HF3.out 1 (by omega)
    have f2 := HF3.out 2 (by omega)
    have f3 := HF3.out 3 (by omega)
    have f4 := HF3.out 4 (by omega)
    have f5 := HF3.out 5 (by omega)
    have f6 := HF3.out 6 (by omega)
    go_wp2
    change bodyPost _ _ _ _ _ (putDd w3 Z D)
    obtain ⟨_, p0, p1, p2, p3, p4, p5, p6⟩ := HP.out
    refine bodyPost_ret (v := .tuple #[.agg #[.int .i64 D.Kind, .int .i64 D.By, .int .i64 D.No, .int .i64 D.Seen, .int .i64 D.At, .int .i64 D.Many, .string D.Text], .int .i64 0]) (by simp [results, Try.results22, go_sem, p0, p1, p2, p3, p4, p5, p6]) rfl ?_
    refine Or.inr ⟨H1.out, by rw [HD.out], F3, H3.out.moves HMP.out (fun k hk e => HN3.out k hk e), HM3.out.above (HBP.out.mono (Nat.le_of_eq HZW.out.symm)), fun k hk => ?_⟩
    rcases H5.out k hk with h | h
    · exact .inl h
    · refine .inr ?_
      have h6 : w0.heap.size ≤ k := h
      have := HZW.out
      omega

set_option maxRecDepth 100000 in
set_option maxHeartbeats 800000 in
theorem WTake_c {w : World} {base : Nat} {F : Nat → Prop} {g : Nat} {s : WrV} (h : WrAt w base F g s) (hG : ∀ c ∈ s.L, i64ok c.Gone) (hl : s.L.length ≤ 1000) (hos : s.os.length ≤ 1000000) (hns : s.ns ≤ s.os.length) (a n : Int) (hdm : i64ok n) (hnx : 0 ≤ s.next ∧ s.next ≤ 1000000) :
    Calls Try.prog 23 #[.pointer (some ⟨g, 0, none⟩), .int .i64 a, .int .i64 n] w (WDoPost w base F g s ⟨2, 0, 0, 0, a, n, ⟨#[]⟩⟩) := by
  have hb0 := (Below.refl w.heap.size w).alloc (Nat.le_refl _) (.cells #[.int .i64 zD.Kind, .int .i64 zD.By, .int .i64 zD.No, .int .i64 zD.Seen, .int .i64 zD.At, .int .i64 zD.Many, .string zD.Text] 24)
  have HDO := Lib.hid (WDo_c (h.later hb0) hG hl hos hns ⟨2, 0, 0, 0, a, n, ⟨#[]⟩⟩ (by show (0 : Nat) ≤ maxLen; exact Nat.zero_le _) hdm hnx)
  have HZ0 := Lib.hid (DdAt.new w zD)
  have HFZ := Lib.hid (show ∀ j, j < 7 → (w.alloc (.cells #[.int .i64 zD.Kind, .int .i64 zD.By, .int .i64 zD.No, .int .i64 zD.Seen, .int .i64 zD.At, .int .i64 zD.Many, .string zD.Text] 24)).frozen? ⟨w.heap.size, j, none⟩ = false from fun j _ => by simp)
  have HM0 := Lib.hid (Moves.of_below (F := F) hb0)
  have HFX := Lib.hid (show ∀ k, F k → k < w.heap.size from fun k hk => (h.foot k hk).2)
  have hsz0 : w.heap.size < (w.alloc (.cells #[.int .i64 zD.Kind, .int .i64 zD.By, .int .i64 zD.No, .int .i64 zD.Seen, .int .i64 zD.At, .int .i64 zD.Many, .string zD.Text] 24)).heap.size := by simp
  have HBS := Lib.hid h.base_le
  clear h hb0
  go_enter Try.func23, Try.ntmps23
  go_wp2_with fail
  generalize hw0 : w.alloc _ = w0
  have hw0' : w.alloc (.cells #[.int .i64 zD.Kind, .int .i64 zD.By, .int .i64 zD.No, .int .i64 zD.Seen, .int .i64 zD.At, .int .i64 zD.Many, .string zD.Text] 24) = w0 := hw0
  rw [hw0'] at HDO HZ0 HFZ HM0 hsz0
  clear hw0 hw0'
  refine HDO.out.mono ?_
  rintro e w3 hp
  obtain ⟨Z, hZ⟩ : ∃ Z, Z = w.heap.size := ⟨_, rfl⟩
  rw [← hZ] at HZ0 HFZ HFX hsz0 HBS ⊢
  have HZW := Lib.hid hZ
  clear hZ HDO
  have fin : ∀ (hm : Moves F w0 w3), Hid (DdAt w3 Z zD) ∧ Hid (∀ j, j < 7 → w3.frozen? ⟨Z, j, none⟩ = false) ∧ Hid (Moves F w w3) := fun hm => by
    have hn : ¬ F Z := fun h => Nat.lt_irrefl _ (HFX.out Z h)
    exact ⟨Lib.hid (HZ0.out.of_block hm.size (hm.block Z hsz0 hn)), Lib.hid fun j hj => (hm.frozen hsz0 hn j).trans (HFZ.out j hj), Lib.hid (HM0.out.trans hm (fun _ _ k => k))⟩
  rcases hp with ⟨h1, rfl, h3, h4⟩ | ⟨h1, rfl, F3, h3, h4, h5⟩
  · obtain ⟨HZ3, HF3, HM3⟩ := fin h4
    have H1 := Lib.hid h1; have H3 := Lib.hid h3
    obtain ⟨c, hc⟩ : ∃ c, c = mayDo s.L (s.deed ⟨2, 0, 0, 0, a, n, ⟨#[]⟩⟩) := ⟨_, rfl⟩
    rw [← hc]
    have HC := Lib.hid hc
    clear h1 h3 h4 fin hc HZ0 HFZ
    have HP := Lib.hid (HZ3.out.putAll zD)
    have HBP := Lib.hid (putDd_below zD (Below.refl Z w3) (Nat.le_refl _))
    obtain ⟨zlt, z0, z1, z2, z3, z4, z5, z6⟩ := HZ3.out
    have f0 := HF3.out 0 (by omega)
    have f1 := HF3.out 1 (by omega)
    have f2 := HF3.out 2 (by omega)
    have f3 := HF3.out 3 (by omega)
    have f4 := HF3.out 4 (by omega)
    have f5 := HF3.out 5 (by omega)
    have f6 := HF3.out 6 (by omega)
    go_wp2
    change bodyPost _ _ _ _ _ (putDd w3 Z zD)
    obtain ⟨_, p0, p1, p2, p3, p4, p5, p6⟩ := HP.out
    refine bodyPost_ret (v := .tuple #[.agg #[.int .i64 zD.Kind, .int .i64 zD.By, .int .i64 zD.No, .int .i64 zD.Seen, .int .i64 zD.At, .int .i64 zD.Many, .string zD.Text], .int .i64 c]) (by simp [results, Try.results23, go_sem, p0, p1, p2, p3, p4, p5, p6]) rfl ?_
    exact Or.inl ⟨H1.out, by rw [HC.out], H3.out.above HBP.out HFX.out, HM3.out.above (HBP.out.mono (Nat.le_of_eq HZW.out.symm))⟩
  · obtain ⟨HZ3, HF3, HM3⟩ := fin h4
    have H1 := Lib.hid h1; have H3 := Lib.hid h3; have H5 := Lib.hid h5
    have hn3 : ∀ k, F3 k → k ≠ Z := fun k hk e => by
      rcases h5 k hk with h | h
      · have := HFX.out k h; omega
      · have h6 : w0.heap.size ≤ k := h
        omega
    have HN3 := Lib.hid hn3
    obtain ⟨D, hD⟩ : ∃ D, D = s.deed ⟨2, 0, 0, 0, a, n, ⟨#[]⟩⟩ := ⟨_, rfl⟩
    rw [← hD]
    have HD := Lib.hid hD
    clear h1 h3 h4 h5 fin hD HZ0 HFZ hn3
    have HP := Lib.hid (HZ3.out.putAll D)
    have HBP := Lib.hid (putDd_below D (Below.refl Z w3) (Nat.le_refl _))
    have HMP := Lib.hid (putDd_moves w3 Z D)
    obtain ⟨zlt, z0, z1, z2, z3, z4, z5, z6⟩ := HZ3.out
    have f0 := HF3.out 0 (by omega)
    have f1 := HF3.out 1 (by omega)
    have f2 := HF3.out 2 (by omega)
    have f3 := HF3.out 3 (by omega)
    have f4 := HF3.out 4 (by omega)
    have f5 := HF3.out 5 (by omega)
    have f6 := HF3.out 6 (by omega)
    go_wp2
    change bodyPost _ _ _ _ _ (putDd w3 Z D)
    obtain ⟨_, p0, p1, p2, p3, p4, p5, p6⟩ := HP.out
    refine bodyPost_ret (v := .tuple #[.agg #[.int .i64 D.Kind, .int .i64 D.By, .int .i64 D.No, .int .i64 D.Seen, .int .i64 D.At, .int .i64 D.Many, .string D.Text], .int .i64 0]) (by simp [results, Try.results23, go_sem, p0, p1, p2, p3, p4, p5, p6]) rfl ?_
    refine Or.inr ⟨H1.out, by rw [HD.out], F3, H3.out.moves HMP.out (fun k hk e => HN3.out k hk e), HM3.out.above (HBP.out.mono (Nat.le_of_eq HZW.out.symm)), fun k hk => ?_⟩
    rcases H5.out k hk with h | h
    · exact .inl h
    · refine .inr ?_
      have h6 : w0.heap.size ≤ k := h
      have := HZW.out
      omega
end Go.Proofs.Ytneoeokfffnonac
