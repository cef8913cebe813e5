/- The walks of layer 3: Do whole, All, Text. -/
import Derived.Test.YtneoeokfffnonacDoW3
set_option linter.unusedVariables false
set_option linter.unusedSimpArgs false
namespace Go.Proofs.Ytneoeokfffnonac
open Go.RowKit

/-- The seven cells of a deed lie at block b from o on. -/
def DAt (w : World) (b o : Nat) (d : Dd) : Prop :=
  w.cell? ⟨b, o, none⟩ = some (.int .i64 d.Kind) ∧ w.cell? ⟨b, o + 1, none⟩ = some (.int .i64 d.By) ∧ w.cell? ⟨b, o + 2, none⟩ = some (.int .i64 d.No) ∧
  w.cell? ⟨b, o + 3, none⟩ = some (.int .i64 d.Seen) ∧ w.cell? ⟨b, o + 4, none⟩ = some (.int .i64 d.At) ∧ w.cell? ⟨b, o + 5, none⟩ = some (.int .i64 d.Many) ∧
  w.cell? ⟨b, o + 6, none⟩ = some (.string d.Text)
/-- The slice value '.slice a l.length cap' reads as the deeds l. -/
def SlDd (w : World) (a : Option Addr) (cap : Nat) (l : List Dd) : Prop :=
  l.length ≤ cap ∧ cap ≤ maxLen ∧ ∀ i (h : i < l.length), ∃ b off, a = some ⟨b, off, none⟩ ∧ DAt w b (off + i * 7) l[i]
theorem DAt.lt {w : World} {b o : Nat} {c : Dd} (h : DAt w b o c) : b < w.heap.size := World.block_lt_of_cell? _ _ h.1
theorem DAt.of_block {w w' : World} {b o : Nat} {c : Dd} (h : DAt w b o c) (hb : w'.heap[b]? = w.heap[b]?) : DAt w' b o c := by
  have k : ∀ o, w'.cell? ⟨b, o, none⟩ = w.cell? ⟨b, o, none⟩ := fun o => World.cell?_of_block (w := w) hb
  unfold DAt at *
  simp only [k]; exact h
theorem DAt.below {w w' : World} {b o : Nat} {c : Dd} (h : DAt w b o c) {B : Nat} (hb : Below B w w') (hB : b < B) : DAt w' b o c := h.of_block (hb.block b hB)
theorem SlDd.nth {w : World} {a : Option Addr} {cap : Nat} {l : List Dd} (h : SlDd w a cap l) {k : Nat} (hk : k < l.length) : ∃ b off, a = some ⟨b, off, none⟩ ∧ DAt w b (off + k * 7) l[k] := h.2.2 k hk
theorem SlDd.below {w w' : World} {a : Option Addr} {cap : Nat} {l : List Dd} (h : SlDd w a cap l) (hb : Below w.heap.size w w') : SlDd w' a cap l := by
  refine ⟨h.1, h.2.1, fun i hi => ?_⟩
  obtain ⟨b, off, ha, hc⟩ := h.2.2 i hi
  exact ⟨b, off, ha, hc.below hb hc.lt⟩
theorem SlDd.of_block {w w' : World} {a : Option Addr} {cap : Nat} {l : List Dd} (h : SlDd w a cap l) (hb : ∀ ad, a = some ad → ad.block < w.heap.size → w'.heap[ad.block]? = w.heap[ad.block]?) : SlDd w' a cap l := by
  refine ⟨h.1, h.2.1, fun i hi => ?_⟩
  obtain ⟨b, off, ha, hc⟩ := h.2.2 i hi
  exact ⟨b, off, ha, hc.of_block (hb _ ha hc.lt)⟩
theorem SlDd.nil (w : World) : SlDd w none 0 [] := ⟨by simp, by simp, fun i h => by simp at h⟩
theorem SlDd.take {w : World} {a : Option Addr} {cap : Nat} {l : List Dd} (h : SlDd w a cap l) (k : Nat) : SlDd w a cap (l.take k) := by
  refine ⟨by have := h.1; simp; omega, h.2.1, fun i hi => ?_⟩
  have hi' : i < l.length := by simp at hi; omega
  obtain ⟨b, off, ha, hc⟩ := h.2.2 i hi'
  exact ⟨b, off, ha, by simpa using hc⟩

theorem gone_add_ok (g b : Int) (hb : isWriter b = true) (h : took g b = false) (hg : i64ok g) : i64ok (g + bitOf b) := by
  unfold i64ok at *
  rcases isWriter_cases hb with rfl | rfl | rfl | rfl
  · rw [took_0] at h; simp [bitOf] at *; omega
  · rw [took_1] at h; simp [bitOf] at *; omega
  · rw [took_2] at h; simp [bitOf] at *; omega
  · rw [took_3] at h; simp [bitOf] at *; omega

theorem doF_gone (l : List Ch) (d : Dd) (number : Int) (h : ∀ c ∈ l, i64ok c.Gone) : ∀ c ∈ (doF l d number).1, i64ok c.Gone := by
  intro c hc
  rcases doF_cases l d number with ⟨h1, e⟩ | ⟨_, hn, e⟩ | ⟨h1, hn, hk, e⟩ | ⟨h1, hn, hk2, e⟩
  · rw [e] at hc; simp at hc
  · rw [e] at hc; simp at hc
  · rw [e] at hc
    simp only [List.mem_append] at hc
    rcases hc with (hc | hc) | hc
    · exact h c (List.mem_of_mem_take hc)
    · rw [(newOf_mem hc).2.2.2.2.1]; unfold i64ok; omega
    · exact h c (List.mem_of_mem_drop hc)
  · rw [e] at hc
    have key : ∀ (l : List Ch) (k : Int), (∀ c ∈ l, i64ok c.Gone) → ∀ x ∈ takeGo d.Seen d.By d.At (d.At + d.Many) number l k, i64ok x.Gone := by
      intro l
      induction l with
      | nil => intro k _ x hx; simp [takeGo] at hx
      | cons c l ih =>
        intro k h x hx
        rw [takeGo] at hx
        have hc := h c (by simp)
        have hl := ih
        cases hs : c.sees d.Seen d.By
        · rw [hs] at hx
          simp only [Bool.false_eq_true, if_false, List.mem_cons] at hx
          rcases hx with rfl | hx
          · exact hc
          · exact ih k (fun y hy => h y (by simp [hy])) x hx
        · rw [hs] at hx
          simp only [if_true, List.mem_cons] at hx
          rcases hx with rfl | hx
          · split
            · exact gone_add_ok _ _ (deedFault_zero (mayDo_zero h1).1).1 (sees_took hs) hc
            · exact hc
          · exact ih (k + 1) (fun y hy => h y (by simp [hy])) x hx
    exact key l 0 h c hc

theorem doF_len (l : List Ch) (d : Dd) (number : Int) : (doF l d number).1.length ≤ 200 := by
  rcases doF_cases l d number with ⟨h1, e⟩ | ⟨_, hn, e⟩ | ⟨h1, hn, hk, e⟩ | ⟨h1, hn, hk2, e⟩
  · rw [e]; simp
  · rw [e]; simp
  · rw [e]
    have := (mayDo_zero h1).2.2
    have := putAt_le l d
    simp only [List.length_append, List.length_take, List.length_drop, newOf_length]; omega
  · rw [e]
    have := (mayDo_zero h1).2.2
    simp only [takeGo_length]; omega

theorem OwnRow.nilcap {w : World} {base : Nat} {e : TypeId} {size : Nat} {a : Option Addr} {n cap : Nat} {xs : List Value} (h : OwnRow w base e size a n cap xs) : a = none → cap = 0 := by
  intro ha
  rcases h.own with h0 | ⟨g, off, cur, he, _⟩
  · exact h0
  · rw [ha] at he; cases he

theorem Do_c (a : Option Addr) (cap : Nat) (l : List Ch) (d : Dd) (number : Int) (w : World) (hs : SlCh w a cap l) (hnil : a = none → cap = 0) (hsz : l.length * 56 ≤ 140737488355328) (ht : d.Text.size ≤ maxLen) (hm : i64ok d.Many) (hG : ∀ c ∈ l, i64ok c.Gone) :
    Calls Try.prog 37 #[.slice a l.length cap, .agg #[.int .i64 d.Kind, .int .i64 d.By, .int .i64 d.No, .int .i64 d.Seen, .int .i64 d.At, .int .i64 d.Many, .string d.Text], .int .i64 number] w fun e w' => ∃ a' cap', e = .returned (.tuple #[.slice a' (doF l d number).1.length cap', .int .i64 (doF l d number).2]) ∧
      OwnRow w' w.heap.size 86 7 a' (doF l d number).1.length cap' (flat (doF l d number).1) ∧ Below w.heap.size w w' := by
  by_cases h : mayDo l d = 0 ∧ 1 ≤ number
  · obtain ⟨h1, h2⟩ := h
    rcases (deedFault_zero (mayDo_zero h1).1).2.2.2.2.2.2.2 with ⟨hk, _⟩ | ⟨hk, _⟩
    · exact Do_put a cap l d number w hs hnil h1 h2 hk
    · exact Do_take a cap l d number w hs hnil hG h1 h2 hk
  · refine (Do_no a cap l d number w hs hsz ht hm (by omega)).mono ?_
    rintro e w' ⟨rfl, hb⟩
    have e1 : (doF l d number).1 = [] := by
      rcases doF_cases l d number with ⟨h1, e⟩ | ⟨_, hn, e⟩ | ⟨h1, hn, hk, e⟩ | ⟨h1, hn, hk2, e⟩
      · rw [e]
      · rw [e]
      · omega
      · omega
    refine ⟨none, 0, by rw [e1]; rfl, by rw [e1]; exact OwnRow.nil _ _ _ _ _, hb⟩

/-- An intermediate list of All. -/
def Mid (ds : List Dd) (k : Nat) (L : List Ch) : Prop := allFrom [] 0 (ds.take k) = (L, 0, 0) ∧ L.length ≤ 200 ∧ ∀ c ∈ L, i64ok c.Gone
theorem Mid.zero (ds : List Dd) : Mid ds 0 [] := ⟨rfl, by simp, fun c hc => by simp at hc⟩
theorem Mid.step {ds : List Dd} {k : Nat} {L : List Ch} (h : Mid ds k L) (hk : k < ds.length) (h0 : (doF L ds[k] ((k : Int) + 1)).2 = 0) : Mid ds (k + 1) (doF L ds[k] ((k : Int) + 1)).1 := by
  refine ⟨?_, doF_len _ _ _, doF_gone _ _ _ h.2.2⟩
  rw [List.take_succ_eq_append_getElem hk, allFrom_append, h.1]
  have hl : ((ds.take k).length : Int) = k := by simp; omega
  simp only [if_true, hl, Int.zero_add]
  rw [allFrom_cons, if_pos h0]; rfl
theorem Mid.fail {ds : List Dd} {k : Nat} {L : List Ch} (h : Mid ds k L) (hk : k < ds.length) (h0 : (doF L ds[k] ((k : Int) + 1)).2 ≠ 0) : allF ds = ([], (doF L ds[k] ((k : Int) + 1)).2, (k : Int)) := by
  have e : ds = ds.take k ++ ds[k] :: ds.drop (k + 1) := by rw [← List.drop_eq_getElem_cons hk, List.take_append_drop]
  have hl : ((ds.take k).length : Int) = k := by simp; omega
  unfold allF
  conv => lhs; rw [e]
  rw [allFrom_append, h.1]
  simp only [if_true, hl, Int.zero_add]
  rw [allFrom_cons, if_neg h0]
theorem Mid.done {ds : List Dd} {L : List Ch} (h : Mid ds ds.length L) : allF ds = (L, 0, 0) := by
  have := h.1; rw [List.take_length] at this; exact this

set_option maxRecDepth 100000 in
set_option maxHeartbeats 1000000 in
theorem All_c (a : Option Addr) (cap : Nat) (ds : List Dd) (w : World) (hs : SlDd w a cap ds) (hok : ∀ d ∈ ds, d.Text.size ≤ maxLen ∧ i64ok d.Many) (hlen : ds.length ≤ 1000000) :
    Calls Try.prog 33 #[.slice a ds.length cap] w fun e w' => ∃ a' cap', e = .returned (.tuple #[.slice a' (allF ds).1.length cap', .agg #[.int .i64 (allF ds).2.1, .int .i64 (allF ds).2.2]]) ∧
      OwnRow w' w.heap.size 86 7 a' (allF ds).1.length cap' (flat (allF ds).1) ∧ Below w.heap.size w w' := by
  have hb0 := (Below.refl w.heap.size w).alloc (Nat.le_refl _) (.cells #[.int .i64 0, .int .i64 0] 59)
  have hs0 := hs.below hb0
  have hF : (w.alloc (.cells #[.int .i64 0, .int .i64 0] 59)).cell? ⟨w.heap.size, 0, none⟩ = some (.int .i64 0) ∧ (w.alloc (.cells #[.int .i64 0, .int .i64 0] 59)).cell? ⟨w.heap.size, 1, none⟩ = some (.int .i64 0) ∧
      (w.alloc (.cells #[.int .i64 0, .int .i64 0] 59)).frozen? ⟨w.heap.size, 0, none⟩ = false ∧ (w.alloc (.cells #[.int .i64 0, .int .i64 0] 59)).frozen? ⟨w.heap.size, 1, none⟩ = false := by
    refine ⟨by simp, by simp, by simp, by simp⟩
  have hlt0 : w.heap.size < (w.alloc (.cells #[.int .i64 0, .int .i64 0] 59)).heap.size := by simp
  have HOK := Lib.hid hok; clear hok hs
  go_enter Try.func33, Try.ntmps33
  go_upto_region 1 with fail
  generalize hw0 : w.alloc (.cells #[.int .i64 0, .int .i64 0] 59) = w0 at *
  clear hw0
  have HF := Lib.hid hF; clear hF
  go_wp2
  go_loopw [4, 11] (fun s4 s11 wr => ∃ (k : Nat) (a' : Option Addr) (cap' : Nat) (L : List Ch), k ≤ ds.length ∧ s11 = .int .i64 k ∧ s4 = .slice a' L.length cap' ∧ Hid (Mid ds k L) ∧ Hid (OwnRow wr w0.heap.size 86 7 a' L.length cap' (flat L)) ∧ Below w0.heap.size w0 wr) (fun _ s11 _ => ds.length - (intOf s11).toNat)
  case atStart => exact ⟨0, none, 0, [], Nat.zero_le _, rfl, rfl, Lib.hid (Mid.zero ds), Lib.hid (OwnRow.nil _ _ _ _ _), Below.refl _ _⟩
  case round =>
    obtain ⟨k, a', cap', L, hk, rfl, rfl, HM, HO, hb⟩ := hrel
    have f0 := (hb.cell (p := ⟨w.heap.size, 0, none⟩) hlt0).trans HF.out.1
    have f1 := (hb.cell (p := ⟨w.heap.size, 1, none⟩) hlt0).trans HF.out.2.1
    have f2 := (hb.frozen (p := ⟨w.heap.size, 0, none⟩) hlt0).trans HF.out.2.2.1
    have f3 := (hb.frozen (p := ⟨w.heap.size, 1, none⟩) hlt0).trans HF.out.2.2.2
    by_cases hlt : k < ds.length
    · obtain ⟨bb, off, rfl, hc⟩ := hs0.nth hlt
      obtain ⟨q0, q1, q2, q3, q4, q5, q6⟩ := hc.below hb hc.lt
      have hdk := HOK.out ds[k] (List.getElem_mem hlt)
      have HS := Lib.hid (HM.out.step hlt)
      have HFL := Lib.hid (HM.out.fail hlt)
      have hLl := HM.out.2.1
      have HG := Lib.hid HM.out.2.2
      generalize hd : ds[k] = d at *
      clear hd
      have HDK := Lib.hid hdk; clear hdk
      have hinc : IntKind.i64.wrap ((k : Int) + 1) = (k : Int) + 1 := by rw [IntKind.wrap_i64]; omega
      have hba : Below wr.heap.size wr (wr.alloc (.cells #[.int .i64 d.Kind, .int .i64 d.By, .int .i64 d.No, .int .i64 d.Seen, .int .i64 d.At, .int .i64 d.Many, .string d.Text] 24)) := (Below.refl _ _).alloc (Nat.le_refl _) _
      have HO1 := Lib.hid (HO.out.alloc (.cells #[.int .i64 d.Kind, .int .i64 d.By, .int .i64 d.No, .int .i64 d.Seen, .int .i64 d.At, .int .i64 d.Many, .string d.Text] 24)); clear HO
      go_wp2_with fail
      refine (Do_c a' cap' L d ((k : Int) + 1) _ HO1.out.slCh HO1.out.nilcap (by omega) HDK.out.1 HDK.out.2 HG.out).mono ?_
      rintro e w2 ⟨a2, cap2, rfl, ho2, hb2⟩
      have hb02 : Below w0.heap.size w0 w2 := (hb.trans (hba.mono hb.size)).trans (hb2.mono (by have := hb.size; simp; omega))
      have HO2 := Lib.hid (ho2.mono (show w0.heap.size ≤ _ by have := hb.size; simp; omega))
      clear q0 q1 q2 q3 q4 q5 q6 hba hb2 ho2 HO1 hb f0 f1 f2 f3
      have f0 := (hb02.cell (p := ⟨w.heap.size, 0, none⟩) hlt0).trans HF.out.1
      have f1 := (hb02.cell (p := ⟨w.heap.size, 1, none⟩) hlt0).trans HF.out.2.1
      have f2 := (hb02.frozen (p := ⟨w.heap.size, 0, none⟩) hlt0).trans HF.out.2.2.1
      have f3 := (hb02.frozen (p := ⟨w.heap.size, 1, none⟩) hlt0).trans HF.out.2.2.2
      generalize doF L d ((k : Int) + 1) = R at *
      obtain ⟨L2, c2⟩ := R
      simp only at *
      by_cases h0 : c2 = 0
      · have HS2 := Lib.hid (HS.out h0)
        subst h0
        clear HS HFL f0 f1 f2 f3
        go_wp2
        exact ⟨⟨k + 1, a2, cap2, L2, by omega, by go_num, rfl, HS2, HO2, hb02⟩, by simp [intOf]; omega⟩
      · have HF2 := Lib.hid (HFL.out h0)
        have hne : (c2 != 0) = true := by simpa using h0
        have HE := Lib.hid (fun v v2 => (((hb0.trans (hb02.mono hb0.size)).setCell (p := ⟨w.heap.size, 0, none⟩) (by simp) v).setCell (p := ⟨w.heap.size, 1, none⟩) (by simp) v2))
        clear HS HFL h0
        go_wp2
        refine bodyPost_ret (v := .tuple #[.slice none 0 0, .agg #[.int .i64 c2, .int .i64 k]]) (by simp [results, Try.results33, go_sem, f0, f1]) rfl ?_
        exact ⟨none, 0, by rw [HF2.out]; rfl, by rw [HF2.out]; exact OwnRow.nil _ _ _ _ _, HE.out _ _⟩
    · obtain rfl : k = ds.length := by omega
      have HFD := Lib.hid HM.out.done
      have HE := Lib.hid (fun v v2 => (((hb0.trans (hb.mono hb0.size)).setCell (p := ⟨w.heap.size, 0, none⟩) (by simp) v).setCell (p := ⟨w.heap.size, 1, none⟩) (by simp) v2))
      have hne : ∀ g, ownB a' cap' = some g → g ≠ w.heap.size := fun g hg => by have := (HO.out.base_le g hg).1; omega
      have HO2 := Lib.hid (fun v v2 => (HO.out.setCell ⟨w.heap.size, 0, none⟩ v hne).setCell ⟨w.heap.size, 1, none⟩ v2 hne)
      clear HM HO hne
      go_wp2
      refine bodyPost_ret (v := .tuple #[.slice a' L.length cap', .agg #[.int .i64 0, .int .i64 0]]) (by simp [results, Try.results33, go_sem, f0, f1]) rfl ?_
      exact ⟨a', cap', by rw [HFD.out], by rw [HFD.out]; exact (HO2.out _ _).mono hb0.size, HE.out _ _⟩

theorem Text_c (a : Option Addr) (cap : Nat) (l : List Ch) (w : World) (hs : SlCh w a cap l) (hsz : l.length ≤ 140737488355328) :
    Calls Try.prog 34 #[.slice a l.length cap] w fun e w' => e = .returned (.string (strOfNums (textF l))) ∧ Below w.heap.size w w' := by
  go_enter Try.func34, Try.ntmps34
  go_wp2_with fail
  refine (View_c a cap l _ _ _ hs hsz).mono ?_
  rintro e w1 ⟨a1, cap1, rfl, ho1, hb1⟩
  have hcv := run_convert_row (P := Try.prog) ho1 66 Try.underlying66 Try.underlying5 9 Try.underlying9
  go_wp2
  go_ret
  exact ⟨rfl, hb1⟩
end Go.Proofs.Ytneoeokfffnonac
