/- slices.Insert at bytes of a text: the library's own text, walked. -/
import Derived.Test.YtneoeokfffnonacPlain
import Derived.Test.YtneoeokfffnonacTypes
import Derived.Test.YtneoeokfffnonacProg
import Derived.Lib.Overlaps
import Derived.Laws.Externs
import Derived.Shelf.Abstract
import Derived.Deep.DeepCutAuto
set_option linter.unusedVariables false
set_option linter.unusedSimpArgs false
namespace Go.Proofs.Ytneoeokfffnonac
open Go.RowKit

theorem size_Char : (Try.prog.info? 86).map (·.size) = some 7 := by kernel_rfl

theorem OwnRow.shape {w : World} {base : Nat} {e : TypeId} {size : Nat} {g off n cap : Nat} {xs : List Value} (h : OwnRow w base e size (some ⟨g, off, none⟩) n cap xs) (hc : cap ≠ 0) (hs : 0 < size) : ∃ k, k ≠ 0 ∧ w.shape? g = some (e, k) ∧ ∀ o, w.frozen? ⟨g, o, none⟩ = false := by
  rcases h.own with h0 | ⟨g', off', cur, he, hb, hg, hfit, _⟩
  · exact absurd h0 hc
  · cases he
    refine ⟨cur.size, ?_, by simp [World.shape?, hg], fun o => by simp [World.frozen?, hg]⟩
    have : 0 < cap * size := Nat.mul_pos (by omega) hs
    omega

theorem cells_of_own {w : World} {base : Nat} {e : TypeId} {size : Nat} {g off n cap : Nat} {xs : List Value} (h : OwnRow w base e size (some ⟨g, off, none⟩) n cap xs) : ∀ j v, xs[j]? = some v → w.cell? ⟨g, off + j, none⟩ = some v := by
  intro j v hj
  have hp : 0 < xs.length := by
    rcases Nat.lt_or_ge j xs.length with h | h
    · omega
    · rw [List.getElem?_eq_none h] at hj; cases hj
  obtain ⟨g', off', he, _, _, hc⟩ := h.cell hp
  cases he
  exact hc j v hj

theorem ins_shift (l vs : List Ch) (ys : List Value) (i : Nat) (hi : i ≤ l.length) (hy : ys.length = vs.length * 7) (X1 : List Value)
    (h1 : X1 = (flat l ++ ys).take ((i + vs.length) * 7) ++ flat (l.drop i) ++ (flat l ++ ys).drop ((i + vs.length) * 7 + (flat (l.drop i)).length)) :
    X1.take (i * 7) ++ flat vs ++ X1.drop (i * 7 + (flat vs).length) = flat (l.take i ++ vs ++ l.drop i) := by
  have e0 : (flat l ++ ys).drop ((i + vs.length) * 7 + (flat (l.drop i)).length) = [] := by
    apply List.drop_of_length_le
    rw [List.length_append, flat_length, flat_length, List.length_drop]; omega
  rw [e0, List.append_nil] at h1
  have e1 : ((flat l ++ ys).take ((i + vs.length) * 7)).length = (i + vs.length) * 7 := by
    rw [List.length_take, List.length_append, flat_length, hy, Nat.add_mul, Nat.min_eq_left]; omega
  have e2 : X1.take (i * 7) = flat (l.take i) := by
    rw [h1, List.take_append_of_le_length (by rw [e1]; omega), List.take_take, Nat.min_eq_left (by omega), List.take_append_of_le_length (by rw [flat_length]; omega), flat_take]
  have e3 : X1.drop (i * 7 + (flat vs).length) = flat (l.drop i) := by
    rw [h1, flat_length]
    exact List.drop_left' (by rw [e1, Nat.add_mul])
  rw [e2, e3, flat_append, flat_append]

theorem ins_new (l vs : List Ch) (zs : List Value) (i : Nat) (hi : i ≤ l.length) (hz : zs.length = (l.length + vs.length - i) * 7) (X1 : List Value)
    (h1 : X1 = (flat (l.take i) ++ zs).take (i * 7) ++ flat vs ++ (flat (l.take i) ++ zs).drop (i * 7 + (flat vs).length)) :
    X1.take ((i + vs.length) * 7) ++ flat (l.drop i) ++ X1.drop ((i + vs.length) * 7 + (flat (l.drop i)).length) = flat (l.take i ++ vs ++ l.drop i) := by
  have e0 : (flat (l.take i)).length = i * 7 := by rw [flat_length, List.length_take, Nat.min_eq_left hi]
  have e1 : (flat (l.take i) ++ zs).take (i * 7) = flat (l.take i) := List.take_left' e0
  rw [e1] at h1
  have e2 : (flat (l.take i) ++ flat vs).length = (i + vs.length) * 7 := by rw [List.length_append, e0, flat_length, Nat.add_mul]
  have e3 : X1.take ((i + vs.length) * 7) = flat (l.take i) ++ flat vs := by rw [h1]; exact List.take_left' e2
  have e4 : X1.drop ((i + vs.length) * 7 + (flat (l.drop i)).length) = [] := by
    apply List.drop_of_length_le
    rw [h1]
    simp only [List.length_append, List.length_drop, e0, hz, flat_length]
    omega
  rw [e3, e4, List.append_nil, flat_append, flat_append]

set_option maxRecDepth 100000 in
set_option maxHeartbeats 2000000 in
theorem Insert_c (a va : Option Addr) (cap vcap : Nat) (l vs : List Ch) (i : Nat) (w : World) (base vbase : Nat) (h : OwnRow w base 86 7 a l.length cap (flat l)) (hv : OwnRow w vbase 86 7 va vs.length vcap (flat vs))
    (hi : i ≤ l.length) (hsz : (l.length + vs.length) * 56 ≤ 140737488355328) (hbase : base ≤ w.heap.size) (hne : ∀ g, ownB a cap = some g → ownB va vcap ≠ some g) :
    Calls Try.prog 86 #[.slice a l.length cap, .int .i64 i, .slice va vs.length vcap] w fun e w' => ∃ a' cap', e = .returned (.slice a' (l.length + vs.length) cap') ∧
      OwnRow w' base 86 7 a' (l.length + vs.length) cap' (flat (l.take i ++ vs ++ l.drop i)) ∧ w.grownBy w' (ownB a cap) := by
  have hm : l.length ≤ maxLen := Nat.le_trans h.le h.max
  have hvm : vs.length ≤ maxLen := Nat.le_trans hv.le hv.max
  have hcm := h.max
  have hlc := h.le
  unfold maxLen at hm hvm hcm
  have hi' : (i : Int) ≤ l.length := by omega
  by_cases hci : cap = i
  · obtain rfl : i = l.length := by omega
    subst hci
    by_cases hm0 : vs.length = 0
    · obtain rfl : vs = [] := List.eq_nil_of_length_eq_zero hm0
      have Hf := Lib.hid (show l.take l.length ++ [] ++ l.drop l.length = l by simp)
      go_enter Try.func86, Try.ntmps86
      go_wp2
      go_ret
      exact ⟨a, l.length, rfl, by rw [Hf.out]; exact h, grownBy_refl w _⟩
    · have hvp : 0 < vs.length := by omega
      have hv0 : ((vs.length : Int) == 0) = false := by rw [beq_eq_false_iff_ne]; omega
      obtain ⟨vg, voff, rfl, _, hvlt, _⟩ := hv.cell (by rw [flat_length]; omega)
      have HVC := Lib.hid (cells_of_own hv)
      clear hm0
      have Hf := Lib.hid (show l.take l.length ++ vs ++ l.drop l.length = l ++ vs by simp)
      go_enter Try.func86, Try.ntmps86
      go_wp2_with (at_builtin; refine wpList_append_row _ rfl (.tmp 23) (.tmp 24) 41 rfl base 86 7 56 Try.underlying41 ti_Char a l.length l.length (flat l) rfl h (some ⟨vg, voff, none⟩) vs.length vcap (flat vs) rfl (flat_length vs) (.inr ⟨_, rfl, fun j u hu => by rw [Addr.add_lit]; exact HVC.out j u hu⟩) (flat_one vs) hsz hbase ?_)
      intro a3 cap3 w3 hown3 hg3
      go_wp2
      go_ret
      exact ⟨a3, cap3, rfl, by rw [Hf.out, flat_append]; exact hown3, hg3⟩
  by_cases hm0 : vs.length = 0
  · obtain rfl : vs = [] := List.eq_nil_of_length_eq_zero hm0
    have Hf := Lib.hid (show l.take i ++ [] ++ l.drop i = l by simp)
    go_enter Try.func86, Try.ntmps86
    go_wp2
    go_ret
    exact ⟨a, cap, rfl, by rw [Hf.out]; simpa using h, grownBy_refl w _⟩
  have hvp : 0 < vs.length := by omega
  have hv0 : ((vs.length : Int) == 0) = false := by rw [beq_eq_false_iff_ne]; omega
  obtain ⟨vg, voff, rfl, _, hvlt, _⟩ := hv.cell (by rw [flat_length]; omega)
  have hvcap : vcap ≠ 0 := by have := hv.le; omega
  have HVC := Lib.hid (cells_of_own hv)
  clear hm0
  by_cases hend : i = l.length
  · subst hend
    have Hf := Lib.hid (show l.take l.length ++ vs ++ l.drop l.length = l ++ vs by simp)
    go_enter Try.func86, Try.ntmps86
    go_wp2_with (at_builtin; refine wpList_append_row _ rfl (.tmp 23) (.tmp 24) 41 rfl base 86 7 56 Try.underlying41 ti_Char a l.length cap (flat l) rfl h (some ⟨vg, voff, none⟩) vs.length vcap (flat vs) rfl (flat_length vs) (.inr ⟨_, rfl, fun j u hu => by rw [Addr.add_lit]; exact HVC.out j u hu⟩) (flat_one vs) hsz hbase ?_)
    intro a3 cap3 w3 hown3 hg3
    go_wp2
    go_ret
    exact ⟨a3, cap3, rfl, by rw [Hf.out, flat_append]; exact hown3, hg3⟩
  have hilt : i < l.length := by omega
  have hi2 : ((i : Int) == (l.length : Int)) = false := by rw [beq_eq_false_iff_ne]; omega
  obtain ⟨g, off, rfl, hbg, hglt, _⟩ := h.cell (by rw [flat_length]; omega)
  have hcap0 : ¬ cap = 0 := by omega
  have hob : ownB (some ⟨g, off, none⟩) cap = some g := by simp [ownB, hcap0]
  have hgv : vg ≠ g := by
    have := hne g hob
    intro e; apply this; simp [ownB, hvcap, e]
  rw [hob]
  clear hend hne hob
  have HLC := Lib.hid (cells_of_own h)
  obtain ⟨kA, _, hsa, hfa⟩ := hv.shape hvcap (by omega)
  obtain ⟨kB, hkB, hsb, hfb⟩ := h.shape hcap0 (by omega)
  have hov : ∀ (lb cb o : Nat), (callFunc 112 #[.slice (some ⟨vg, voff, none⟩) vs.length vcap, .slice (some ⟨g, o, none⟩) lb cb]).run Try.prog w = .ok (.value (.bool false)) w := fun lb cb o => by
    rw [run_callFunc_extern Try.func112 (by kernel_rfl) (by kernel_rfl) (by kernel_rfl) (e := Extern.SlicesOverlaps.overlaps #[41, 41] #[4]) (by kernel_rfl),
      Lib.run_overlaps_apart w 41 4 86 Try.underlying41 7 (by intro w; kernel_rfl) ⟨vg, voff, none⟩ ⟨g, o, none⟩ vs.length vcap lb cb hgv 86 86 kA kB hsa hsb hkB (hfa _) (hfa _)]
    rfl
  clear hsa hsb hfa hfb hkB
  have HOV := Lib.hid hov; clear hov
  have hw1 : IntKind.i64.wrap ((i : Int) + (vs.length : Int)) = (i : Int) + (vs.length : Int) := by rw [IntKind.wrap_i64]; omega
  have hb1 : (0 : Int) ≤ (i : Int) + (vs.length : Int) := by omega
  have htn : ((i : Int) + (vs.length : Int)).toNat = i + vs.length := by omega
  have hb3 : (i : Int) ≤ (l.length : Int) + (vs.length : Int) := by omega
  by_cases hroom : l.length + vs.length ≤ cap
  · have hb2 : ¬ (cap = i + vs.length) := by omega
    obtain ⟨ys, hys, hW⟩ := h.widen vs.length hroom
    have HW := Lib.hid hW; clear hW
    have hov := HOV.out
    go_enter Try.func86, Try.ntmps86
    go_wp2_with (simp only [hov])
    clear hov HOV
    go_still_tail 8, (by kernel_rfl)
    change wpList _ _ _ _ _ w.drew
    have HW2 := Lib.hid HW.out.drew
    have hv2 := hv.drew
    have hgb0 : w.grownBy w.drew (some g) := ⟨rfl, rfl, rfl, Nat.le_refl _, fun _ _ _ => rfl⟩
    generalize w.drew = w2 at *
    clear HW HLC HVC h hv
    have hX : (flat l ++ ys).length = l.length * 7 + vs.length * 7 := by rw [List.length_append, flat_length, hys]
    have HX := Lib.hid hX; clear hX
    refine wpList_copy_own (cap := cap) (n := l.length + vs.length) (base := base) rfl (.tmp 73) (.tmp 76) 41 41 rfl Try.underlying41 size_Char HW2.out rfl ((i + vs.length) * 7) (flat (l.drop i)) _ _ _ rfl rfl ⟨g, off + i * 7, none⟩ _ _ rfl ?_ ?_ ?_ (flat_one _) (by rw [HX.out]; omega) ?_
    · rw [flat_length, List.length_drop]; simp only [Nat.min_def]; split <;> omega
    · intro j v hj
      rw [Addr.add_lit, Nat.add_assoc]
      refine cells_of_own HW2.out _ _ ?_
      have hlt : i * 7 + j < (flat l).length := by
        have h1 : j < (flat (l.drop i)).length := by
          rcases Nat.lt_or_ge j (flat (l.drop i)).length with h | h
          · exact h
          · rw [List.getElem?_eq_none h] at hj; cases hj
        rw [flat_length, List.length_drop] at h1; rw [flat_length]; omega
      rw [List.getElem?_append_left hlt, ← hj, ← flat_drop, List.getElem?_drop]
    · rw [HX.out, flat_length, List.length_drop]; omega
    intro w3 ho3 hg3
    have hv3 := hv2.of_block (w' := w3) (fun k hk _ hlt => hg3.block k hlt (by simp [ownB, hvcap] at hk; intro e; cases e; exact hgv hk))
    obtain ⟨X1, hX1⟩ : ∃ X1, X1 = (flat l ++ ys).take ((i + vs.length) * 7) ++ flat (l.drop i) ++ (flat l ++ ys).drop ((i + vs.length) * 7 + (flat (l.drop i)).length) := ⟨_, rfl⟩
    rw [← hX1] at ho3
    have HF := Lib.hid (ins_shift l vs ys i (by omega) hys X1 hX1)
    have HO3 := Lib.hid ho3; clear ho3 hX1 HW2 hv2
    have hXl := HO3.out.len
    have HXL := Lib.hid hXl; clear hXl
    go_wp2_with (refine wpList_copy_own (cap := cap) (n := l.length + vs.length) (base := base) rfl (.tmp 80) (.tmp 81) 41 41 rfl Try.underlying41 size_Char HO3.out rfl (i * 7) (flat vs) _ _ _ rfl rfl ⟨vg, voff, none⟩ _ _ rfl (by rw [flat_length]; simp only [Nat.min_def]; split <;> omega) (fun j v hj => by rw [Addr.add_lit]; exact cells_of_own hv3 _ _ hj) (by rw [HXL.out, flat_length]; omega) (flat_one _) (by rw [HXL.out]; omega) ?_)
    intro w4 ho4 hg4
    have eF := HF.out
    rw [List.append_assoc] at eF
    rw [eF] at ho4
    clear eF
    have HO4 := Lib.hid ho4; clear ho4
    go_wp2
    go_ret
    exact ⟨_, cap, rfl, HO4.out, grownBy_trans (grownBy_trans hgb0 hg3) hg4⟩
  · clear HOV
    obtain ⟨k, hk⟩ : ∃ k, k = l.length + vs.length - i := ⟨_, rfl⟩
    have hkk : (l.length : Int) + (vs.length : Int) - (i : Int) = (k : Int) := by omega
    have hik : i + k = l.length + vs.length := by omega
    have hk0 : 0 < k := by omega
    have hro : (cap : Int) < (l.length : Int) + (vs.length : Int) := by omega
    have hT := h.take i (by omega)
    rw [flat_take] at hT
    have HT := Lib.hid hT; clear hT
    have HK := Lib.hid hk; clear hk
    have hgi : g < w.heap.size := hglt
    have HIK := Lib.hid hik; clear hik
    go_enter Try.func86, Try.ntmps86
    go_wp2_with (at_builtin; refine wpList_append_zeros _ rfl (.tmp 34) (.tmp 39) 41 3 .i64 rfl base 86 7 56 Try.underlying41 Try.underlying3 ti_Char (by omega) (some ⟨g, off, none⟩) i cap (flat (l.take i)) rfl HT.out (by rw [flat_length, List.length_take]; omega) k rfl hk0 (by have := HIK.out; omega) (by rw [HIK.out]; omega) ?_)
    intro G zs w1 ho1 hz1 hb1 hlt1
    rw [HIK.out] at ho1 ⊢
    have hGn := ho1.le
    have hGm := ho1.max
    unfold maxLen at hGm
    have hGi : ¬ (G = i) := by omega
    have hGim : ¬ (G = i + vs.length) := by omega
    have hGc : (l.length : Int) + (vs.length : Int) ≤ G := by omega
    have hv1 := hv.below hb1
    have h1 := h.below hb1
    have HX := Lib.hid (show (flat (l.take i) ++ zs).length = (l.length + vs.length) * 7 by rw [List.length_append, flat_length, List.length_take, hz1, HK.out]; omega)
    have HZ := Lib.hid (show zs.length = (l.length + vs.length - i) * 7 by rw [hz1, HK.out])
    have HO1 := Lib.hid ho1
    clear ho1 hz1 hkk hk0 HK HIK HT h hv
    have hgN : g ≠ w.heap.size := by omega
    have hvN : vg ≠ w.heap.size := by omega
    go_wp2_with (refine wpList_copy_own (cap := G) (n := l.length + vs.length) (base := w.heap.size) rfl (.tmp 43) (.tmp 44) 41 41 rfl Try.underlying41 size_Char HO1.out rfl (i * 7) (flat vs) _ _ _ rfl (by rw [Nat.zero_add]) ⟨vg, voff, none⟩ _ _ rfl (by rw [flat_length]; simp only [Nat.min_def]; split <;> omega) (fun j v hj => by rw [Addr.add_lit]; exact cells_of_own hv1 _ _ hj) (by rw [HX.out, flat_length]; omega) (flat_one _) (by rw [HX.out]; omega) ?_)
    intro w2 ho2 hg2
    obtain ⟨X1, hX1⟩ : ∃ X1, X1 = (flat (l.take i) ++ zs).take (i * 7) ++ flat vs ++ (flat (l.take i) ++ zs).drop (i * 7 + (flat vs).length) := ⟨_, rfl⟩
    rw [List.append_assoc] at hX1
    rw [← hX1] at ho2
    rw [← List.append_assoc] at hX1
    have HF := Lib.hid (ins_new l vs zs i (by omega) HZ.out X1 hX1)
    have HO2 := Lib.hid ho2
    have HXL := Lib.hid ho2.len
    have h2 := h1.of_block (w' := w2) (fun q hq _ hlt => hg2.block q hlt (by simp [ownB, hcap0] at hq; intro e; cases e; exact hgN hq))
    have hb2 : Below w.heap.size w w2 := hb1.trans (below_grownBy hg2 (by omega) (by simp))
    clear hX1 HO1 HX HZ h1 hv1 ho2 hb1 hg2 HVC HLC
    go_wp2_with fail
    go_still_tail 8, (by kernel_rfl)
    change wpList _ _ _ _ _ w2.drew
    have HO3 := Lib.hid HO2.out.drew
    have h3 := h2.drew
    have hb3 : Below w.heap.size w w2.drew := hb2.trans ⟨rfl, rfl, rfl, Nat.le_refl _, fun _ _ => rfl⟩
    generalize w2.drew = w3 at *
    clear HO2 h2 hb2
    refine wpList_copy_own (cap := G) (n := l.length + vs.length) (base := w.heap.size) rfl (.tmp 50) (.tmp 53) 41 41 rfl Try.underlying41 size_Char HO3.out rfl ((i + vs.length) * 7) (flat (l.drop i)) _ _ _ rfl (by rw [Nat.zero_add]) ⟨g, off + i * 7, none⟩ _ _ rfl ?_ ?_ ?_ (flat_one _) (by rw [HXL.out]; omega) ?_
    · rw [flat_length, List.length_drop]; simp only [Nat.min_def]; split <;> omega
    · intro j v hj
      rw [Addr.add_lit, Nat.add_assoc]
      refine cells_of_own h3 _ _ ?_
      rw [← hj, ← flat_drop, List.getElem?_drop]
    · rw [HXL.out, flat_length, List.length_drop]; omega
    intro w4 ho4 hg4
    rw [HF.out] at ho4
    have HO4 := Lib.hid (ho4.mono hbase)
    have HE := Lib.hid (grownBy_below (hb3.trans (below_grownBy hg4 (by have := hb3.size; omega) (by simp))) (some g))
    clear ho4 hg4 HO3 h3 hb3
    go_wp2
    go_ret
    exact ⟨_, G, rfl, HO4.out, HE.out⟩
end Go.Proofs.Ytneoeokfffnonac
