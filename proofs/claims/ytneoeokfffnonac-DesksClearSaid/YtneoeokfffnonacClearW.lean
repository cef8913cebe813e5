/- The walks of layer 5 and of what it takes from the library. -/
import Derived.Test.YtneoeokfffnonacPlain
import Derived.Test.YtneoeokfffnonacCharsW
import Derived.WalkSpells
import Derived.Deep.DeepCutAuto
set_option linter.unusedVariables false
set_option linter.unusedSimpArgs false
namespace Go.Proofs.Ytneoeokfffnonac
open Go.RowKit

theorem info_zero {P : Program} {e : TypeId} {z : Value} (h : (P.info? e).map (·.zero) = some (some z)) : ∃ i, P.info? e = some i ∧ i.zero = some z := by
  cases hi : P.info? e with
  | none => rw [hi] at h; cases h
  | some i => rw [hi] at h; exact ⟨i, rfl, by simpa using h⟩
theorem zero_one : ∀ v ∈ (Value.agg #[.int .u8 0, .int .i64 0, .int .i64 0, .int .i64 0, .int .i64 0, .int .i64 0, .int .i64 0]).cells, v.oneCell' = true := by
  intro v hv; simp [Value.cells] at hv; rcases hv with rfl | rfl <;> rfl
theorem zero_Char : ∃ i, Try.prog.info? 86 = some i ∧ i.zero = some (.agg #[.int .u8 0, .int .i64 0, .int .i64 0, .int .i64 0, .int .i64 0, .int .i64 0, .int .i64 0]) := info_zero (by kernel_rfl)

theorem Done_c (c : Ch) (least : Int) (w : World) :
    Calls Try.prog 84 #[.agg #[.int .u8 c.C, .int .i64 c.By, .int .i64 c.No, .int .i64 c.K, .int .i64 c.In, .int .i64 c.Out, .int .i64 c.Gone], .int .i64 least] w fun e w' => e = .returned (.bool (doneB least c)) ∧ Below w.heap.size w w' := by
  go_enter Try.func84, Try.ntmps84
  by_cases h1 : 0 < c.Out <;> by_cases h2 : c.Out ≤ least
  all_goals
    have Hf := Lib.hid (show doneB least c = (decide (0 < c.Out) && decide (c.Out ≤ least)) from rfl)
    go_wp2
    go_ret
    exact ⟨by rw [Hf.out]; simp [h1, h2], (Below.refl _ _).alloc (Nat.le_refl _) _⟩

theorem Of1_c (c : Ch) (least : Int) (b : Nat) (w : World) (hc : w.cell? ⟨b, 0, none⟩ = some (.int .i64 least)) :
    Calls Try.prog 83 #[.agg #[.int .u8 c.C, .int .i64 c.By, .int .i64 c.No, .int .i64 c.K, .int .i64 c.In, .int .i64 c.Out, .int .i64 c.Gone], .pointer (some ⟨b, 0, none⟩)] w fun e w' => e = .returned (.bool (doneB least c)) ∧ Below w.heap.size w w' := by
  have hlt := World.block_lt_of_cell? w _ hc
  have hc1 := (((Below.refl w.heap.size w).alloc (Nat.le_refl _) (.cells #[.int .u8 c.C, .int .i64 c.By, .int .i64 c.No, .int .i64 c.K, .int .i64 c.In, .int .i64 c.Out, .int .i64 c.Gone] 86)).cell (p := ⟨b, 0, none⟩) hlt).trans hc
  go_enter Try.func83, Try.ntmps83
  go_wp2_with fail
  refine (Done_c c least _).mono ?_
  rintro e w2 ⟨rfl, hb2⟩
  clear hc1 hc
  go_wp2
  go_ret
  exact ⟨rfl, ((Below.refl _ _).alloc (Nat.le_refl _) _).trans (hb2.mono (by simp))⟩

theorem Clone_c (a : Option Addr) (cap : Nat) (l : List Ch) (w : World) (hs : SlCh w a cap l) (hsz : l.length * 56 ≤ 140737488355328) (hnil : a = none → cap = 0) :
    Calls Try.prog 74 #[.slice a l.length cap] w fun e w' => ∃ a' cap', e = .returned (.slice a' l.length cap') ∧
      OwnRow w' w.heap.size 86 7 a' l.length cap' (flat l) ∧ Below w.heap.size w w' := by
  have hm : l.length ≤ maxLen := Nat.le_trans hs.1 hs.2.1
  unfold maxLen at hm
  cases a with
  | none =>
    have hc0 := hnil rfl
    have hl0 : l.length = 0 := by have := hs.1; omega
    obtain rfl : l = [] := List.eq_nil_of_length_eq_zero hl0
    subst hc0
    have heq := fun (w : World) => Lib.run_eql_slice_nil (P := Try.prog) w 41 86 none 0 0 0 0 Try.underlying41
    go_enter Try.func74, Try.ntmps74
    go_wp2
    go_ret
    exact ⟨none, 0, rfl, OwnRow.nil _ _ _ _ _, Below.refl _ _⟩
  | some ad =>
    clear hnil
    have hs1 := hs.below ((Below.refl w.heap.size w).alloc (Nat.le_refl _) (.cells #[] 86))
    have hcells := hs1.cells ad rfl
    have HC := Lib.hid hcells; clear hcells
    have heq := fun (w : World) => Lib.run_eql_slice_nil (P := Try.prog) w 41 86 (some ad) l.length cap 0 0 Try.underlying41
    have hown : OwnRow (w.alloc (.cells #[] 86)) w.heap.size 86 7 (some ⟨w.heap.size, 0, none⟩) 0 0 [] := OwnRow.nil _ _ _ _ _
    have HO := Lib.hid hown; clear hown
    go_enter Try.func74, Try.ntmps74
    go_wp2_with (at_builtin; refine wpList_append_row _ rfl (.tmp 5) (.tmp 6) 41 rfl w.heap.size 86 7 56 Try.underlying41 ti_Char (some ⟨w.heap.size, 0, none⟩) 0 0 [] rfl HO.out (some ad) l.length cap (flat l) rfl (flat_length l) (.inr ⟨ad, rfl, HC.out⟩) (flat_one l) (by omega) (by simp) ?_)
    intro a3 cap3 w3 hown3 hg3 _
    have hbx : Below w.heap.size w w3 := ((Below.refl w.heap.size w).alloc (Nat.le_refl _) (.cells #[] 86)).trans (below_grownBy hg3 (by simp) (by simp [ownB]))
    clear HC heq
    go_wp2
    go_ret
    exact ⟨a3, cap3, rfl, hown3, hbx⟩

/-- What a function value does that is handed to the library, which rewrites block r as it goes. -/
def PredGrow (P : Program) (g : FuncId) (fst caps : Array Value) (p : Ch → Bool) (w0 : World) (r : Option Nat) : Prop :=
  ∀ (c : Ch) (W : World), w0.grownBy W r → Calls P g (fst.push (.agg #[.int .u8 c.C, .int .i64 c.By, .int .i64 c.No, .int .i64 c.K, .int .i64 c.In, .int .i64 c.Out, .int .i64 c.Gone]) ++ caps) W fun e W' => e = .returned (.bool (p c)) ∧ Below W.heap.size W W'

theorem idx_spec (p : Ch → Bool) (l : List Ch) : ∀ i : Int, (idxFrom p l i = -1 ∧ l.filter (fun c => !p c) = l) ∨ ∃ k, ∃ h : k < l.length, idxFrom p l i = i + k ∧ p l[k] = true ∧ (l.take k).filter (fun c => !p c) = l.take k := by
  induction l with
  | nil => intro i; left; exact ⟨rfl, rfl⟩
  | cons c l ih =>
    intro i
    unfold idxFrom
    cases hp : p c
    · rcases ih (i + 1) with ⟨h1, h2⟩ | ⟨k, hk, h1, h2, h3⟩
      · left; simp [h1, hp, h2]
      · right
        refine ⟨k + 1, by simp; omega, by simp [h1]; omega, by simpa using h2, ?_⟩
        rw [List.take_succ_cons, List.filter_cons_of_pos (by simp [hp]), h3]
    · right; exact ⟨0, by simp, by simp, by simpa using hp, by simp⟩

theorem mem_idx (p : Ch → Bool) (l : List Ch) (k : Nat) (h : k < l.length) (hp : p l[k] = true) (ht : (l.take k).filter (fun c => !p c) = l.take k) : (l.take (k + 1)).filter (fun c => !p c) = l.take k := by
  rw [List.take_succ_eq_append_getElem h, List.filter_append, ht]; simp [hp]

set_option maxHeartbeats 1000000 in
theorem DeleteFunc_c (a : Option Addr) (cap : Nat) (l : List Ch) (g0 : FuncId) (fst caps : Array Value) (p : Ch → Bool) (w : World) (base : Nat) (h : OwnRow w base 86 7 a l.length cap (flat l)) (hp : PredGrow Try.prog g0 fst caps p w (ownB a cap))
    (heg : ∀ (args : Array Value) (W : World), Sem.run Try.prog (callFunc g0 args) W = .ok (.enter g0 args) W) :
    Calls Try.prog 82 #[.slice a l.length cap, .func (.func g0) fst caps] w fun e w' => e = .returned (.slice a (l.filter fun c => !p c).length cap) ∧
      OwnRow w' base 86 7 a (l.filter fun c => !p c).length cap (flat (l.filter fun c => !p c)) ∧ w.grownBy w' (ownB a cap) := by
  have hm : l.length ≤ maxLen := Nat.le_trans h.le h.max
  unfold maxLen at hm
  have hpb : PredCall Try.prog g0 fst caps p w := fun c W hb => hp c W (grownBy_below hb _)
  go_enter Try.func82, Try.ntmps82
  rcases idx_spec p l 0 with ⟨h1, h2⟩ | ⟨k, hk, h1, h2, h3⟩
  · have H2 := Lib.hid h2; clear h2
    go_wp2_with fail
    refine (IndexFunc_c a cap l _ _ _ p _ h.slCh hpb heg).mono ?_
    rintro e w1 ⟨rfl, hb1⟩
    rw [h1]
    clear h1
    go_wp2
    go_ret
    exact ⟨by rw [H2.out]; rfl, by rw [H2.out]; exact h.below hb1, grownBy_below hb1 _⟩
  · have HF := Lib.hid (mem_idx p l k hk h2 h3)
    obtain ⟨g, off, rfl, hbg, hgw, _⟩ := h.cell (by rw [flat_length]; omega)
    have hcap0 : ¬ cap = 0 := by have := h.le; omega
    have hob : ownB (some ⟨g, off, none⟩) cap = some g := by simp [ownB, hcap0]
    rw [hob] at hp ⊢
    have h1' : idxFrom p l 0 = (k : Int) := by rw [h1, Int.zero_add]
    clear h1 h2 h3 hob
    have hkm : k ≤ 9223372036854775806 := by omega
    have hne : ((k : Int) == -1) = false := by simp
    go_wp2_with fail
    refine (IndexFunc_c _ cap l _ _ _ p _ h.slCh hpb heg).mono ?_
    rintro e w1 ⟨rfl, hb1⟩
    rw [h1']
    clear h1' hpb
    go_wp2
    go_loopw [5, 6] (fun s5 s6 wr => ∃ (i j : Nat) (L : List Ch), i < j ∧ j ≤ l.length ∧ s5 = .int .i64 i ∧ s6 = .int .i64 j ∧ Hid (L.length = l.length) ∧ Hid (L.take i = (l.take j).filter fun c => !p c) ∧ Hid (L.drop j = l.drop j) ∧
      Hid (OwnRow wr base 86 7 (some ⟨g, off, none⟩) l.length cap (flat L)) ∧ w.grownBy wr (some g)) (fun _ s6 _ => l.length - (intOf s6).toNat)
    case atStart => exact ⟨k, k + 1, l, by omega, by omega, rfl, by go_num, Lib.hid rfl, Lib.hid HF.out.symm, Lib.hid rfl, Lib.hid (h.below hb1), grownBy_below hb1 _⟩
    case round =>
      obtain ⟨i, j, L, hij, hjl, rfl, rfl, HL, HT, HD, HO, hgr⟩ := hrel
      have hmj : j ≤ 9223372036854775807 := by omega
      by_cases hlt : j < l.length
      · have hjL : j < L.length := by rw [HL.out]; exact hlt
        have hxl : L[j] = l[j] := by
          have := congrArg (·[0]?) HD.out
          simpa [List.getElem?_drop, List.getElem?_eq_getElem hjL, List.getElem?_eq_getElem hlt] using this
        have HS := HL.out ▸ HO.out
        obtain ⟨b, off', he, hc⟩ := (OwnRow.slCh (l := L) (by rw [HL.out]; exact HO.out)).nth hjL
        cases he
        obtain ⟨q0, q1, q2, q3, q4, q5, q6⟩ := hc
        have HF1 := Lib.hid (show (l.take (j + 1)).filter (fun c => !p c) = (l.take j).filter (fun c => !p c) ++ (if p L[j] then [] else [L[j]]) by
          rw [List.take_succ_eq_append_getElem hlt, List.filter_append, hxl]; congr 1; cases hpp : p l[j] <;> simp [hpp])
        have HD1 := Lib.hid (show L.drop (j + 1) = l.drop (j + 1) by
          have := congrArg (List.drop 1) HD.out; simpa [List.drop_drop, Nat.add_comm] using this)
        clear hxl HS HD
        have hjl' : (j : Int) < l.length := by omega
        generalize hx : L[j] = x at *
        have HX := Lib.hid hx; clear hx
        go_wp2_with fail
        refine (hp x _ (grownBy_trans hgr (World.grownBy_alloc wr _ _))).mono ?_
        rintro e w2 ⟨rfl, hb2⟩
        clear q0 q1 q2 q3 q4 q5 q6
        obtain ⟨hc2, hf2⟩ := bcell hb2
        have hg2 : w.grownBy w2 (some g) := grownBy_trans (grownBy_trans hgr (World.grownBy_alloc wr _ _)) (grownBy_below hb2 _)
        have HO2 := Lib.hid ((HO.out.alloc _).below hb2)
        cases hpx : p x
        · have HF2 := Lib.hid (show (l.take (j + 1)).filter (fun c => !p c) = (l.take j).filter (fun c => !p c) ++ [x] by rw [HF1.out, hpx]; rfl)
          clear HF1
          have hil' : (i : Int) < l.length := by omega
          go_wp2_with (refine wpList_store_own rfl 86 (.tmp 33) (.tmp 32) rfl HO2.out rfl (i * 7) x.cells rfl rfl (by kernel_rfl) (by rw [flat_length, HL.out]; simp; omega) x.cells_one (by rw [flat_length, HL.out]; omega) ?_)
          intro w3 ho3 hg3
          have hiL : i < L.length := by rw [HL.out]; omega
          have HO3 := Lib.hid (show OwnRow w3 base 86 7 (some ⟨g, off, none⟩) l.length cap (flat (L.set i x)) by rw [flat_set L i x hiL, List.append_assoc]; exact ho3)
          have HT3 := Lib.hid (show (L.set i x).take (i + 1) = (l.take (j + 1)).filter fun c => !p c by
            rw [HF2.out, ← HT.out, List.take_succ_eq_append_getElem (by simpa using hiL), List.getElem_set_self, List.take_set_of_le (Nat.le_refl _)])
          have HD3 := Lib.hid (show (L.set i x).drop (j + 1) = l.drop (j + 1) by rw [List.drop_set_of_lt (by omega)]; exact HD1.out)
          have HL3 := Lib.hid (show (L.set i x).length = l.length by rw [List.length_set]; exact HL.out)
          clear ho3 HO2 HF2 HT HD1 hc2 hf2
          go_wp2
          exact ⟨⟨i + 1, j + 1, L.set i x, by omega, by omega, by go_num, by go_num, HL3, HT3, HD3, HO3, grownBy_trans hg2 hg3⟩, by simp [intOf]; omega⟩
        · have HF2 := Lib.hid (show L.take i = (l.take (j + 1)).filter (fun c => !p c) by rw [HF1.out, hpx, HT.out]; simp)
          clear HF1 hc2 hf2
          go_wp2
          exact ⟨⟨i, j + 1, L, by omega, by omega, rfl, by go_num, HL, HF2, HD1, HO2, hg2⟩, by simp [intOf]; omega⟩
      · obtain rfl : j = l.length := by omega
        have HTf := Lib.hid (show L.take i = l.filter fun c => !p c by rw [HT.out]; simp)
        have hlen : (l.filter fun c => !p c).length = i := by rw [← HTf.out, List.length_take, HL.out]; omega
        have HLen := Lib.hid hlen; clear hlen
        have hic : i ≤ cap := by have := h.le; omega
        have hic' : (i : Int) ≤ cap := by omega
        have hil' : (i : Int) ≤ l.length := by omega
        have hilt : i < l.length := by omega
        have hne2 : ¬ cap = i := by have := h.le; omega
        clear HT HD hp
        obtain ⟨ic, hinfo, hzero⟩ := zero_Char
        have HI := Lib.hid hinfo; clear hinfo
        have HZ := Lib.hid hzero; clear hzero
        go_wp2_with (refine wpList_clear_own (size := 7) (n := l.length) (cap := cap) (base := base) rfl (.tmp 38) 41 rfl Try.underlying41 ic _ HI.out HZ.out rfl zero_one (by omega) HO.out rfl i (l.length - i) (cap - i) rfl (by omega) (by omega) ?_)
        intro w3 ys ho3 hg3
        go_wp2
        go_ret
        have hiL : i ≤ L.length := by rw [HL.out]; omega
        have e : ((flat L).take (i * 7) ++ ys).take (i * 7) = flat (l.filter fun c => !p c) := by
          rw [List.take_append_of_le_length (by rw [List.length_take, flat_length]; omega), List.take_take, Nat.min_self, flat_take, HTf.out]
        refine ⟨by rw [HLen.out]; rfl, ?_, grownBy_trans hgr hg3⟩
        rw [HLen.out, ← e]
        exact ho3.take i (by omega)

theorem Of_c (a : Option Addr) (cap : Nat) (l : List Ch) (least : Int) (w : World) (hs : SlCh w a cap l) (hsz : l.length * 56 ≤ 140737488355328) (hnil : a = none → cap = 0) :
    Calls Try.prog 35 #[.slice a l.length cap, .int .i64 least] w fun e w' => ∃ a' cap', e = .returned (.slice a' (clearOf least l).length cap') ∧
      OwnRow w' w.heap.size 86 7 a' (clearOf least l).length cap' (flat (clearOf least l)) ∧ Below w.heap.size w w' := by
  have hm : l.length ≤ maxLen := Nat.le_trans hs.1 hs.2.1
  unfold maxLen at hm
  have hb0 := (Below.refl w.heap.size w).alloc (Nat.le_refl _) (.cells #[.int .i64 least] 3)
  have hs0 := hs.below hb0
  have hc0 : (w.alloc (.cells #[.int .i64 least] 3)).cell? ⟨w.heap.size, 0, none⟩ = some (.int .i64 least) := by simp
  have HC0 := Lib.hid hc0; clear hc0
  have HN := Lib.hid hnil; clear hnil
  go_enter Try.func35, Try.ntmps35
  go_upto_region 1 with fail
  generalize hw0 : w.alloc (.cells #[.int .i64 least] 3) = w0 at *
  have hz0 : w0.heap.size = w.heap.size + 1 := by rw [← hw0]; simp
  have HZ0 := Lib.hid hz0; clear hz0 hw0
  go_wp2_with fail
  refine (Clone_c a cap l _ hs0 hsz HN.out).mono ?_
  rintro e w1 ⟨a1, cap1, rfl, ho1, hb1⟩
  have hx1 : Below w.heap.size w w1 := hb0.trans (hb1.mono hb0.size)
  have hp : PredGrow Try.prog 83 #[] #[.pointer (some ⟨w.heap.size, 0, none⟩)] (doneB least) w1 (ownB a1 cap1) := by
    intro c W hW
    refine Of1_c c least w.heap.size W ?_
    have hlt := World.block_lt_of_cell? w0 _ HC0.out
    have h1 := (hb1.cell (p := ⟨w.heap.size, 0, none⟩) hlt).trans HC0.out
    have hne : some w.heap.size ≠ ownB a1 cap1 := fun he => by have := ho1.base_le _ he.symm; rw [HZ0.out] at this; omega
    exact (World.cell?_of_block (w := w1) (hW.block w.heap.size (World.block_lt_of_cell? w1 _ h1) hne)).trans h1
  have HO1 := Lib.hid ho1
  go_wp2_with fail
  refine (DeleteFunc_c a1 cap1 l _ _ _ (doneB least) _ w0.heap.size ho1 hp (enters_of Try.func83 (by kernel_rfl) rfl)).mono ?_
  rintro e w2 ⟨rfl, ho2, hg2⟩
  clear hp hs0
  have hsz0 : w.heap.size ≤ w0.heap.size := by rw [HZ0.out]; omega
  have hx2 : Below w.heap.size w w2 := hx1.trans (below_grownBy hg2 hx1.size fun k hk => Nat.le_trans hsz0 (HO1.out.base_le k hk).1)
  go_wp2
  go_ret
  exact ⟨a1, cap1, rfl, ho2.mono hsz0, hx2⟩
end Go.Proofs.Ytneoeokfffnonac
