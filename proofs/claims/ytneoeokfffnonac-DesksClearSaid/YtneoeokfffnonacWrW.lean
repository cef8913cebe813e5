/- The walks of the Writer's methods: New, Seen, Chars, Text, Clear, Least, Open, Send. -/
import Derived.Test.YtneoeokfffnonacWrObj
import Derived.Test.YtneoeokfffnonacClearW
import Derived.Test.YtneoeokfffnonacCheckW
import Derived.Test.YtneoeokfffnonacDdPut
import Derived.Test.YtneoeokfffnonacRefAllW
set_option linter.unusedVariables false
set_option linter.unusedSimpArgs false
namespace Go.Proofs.Ytneoeokfffnonac
open Go.RowKit

theorem ti_open : TInfo Try.prog 118 9 96 := .mk (z := .agg #[.int .i64 0, .int .i64 0, .int .i64 0, .int .i64 0, .int .i64 0, .int .i64 0, .string ⟨#[]⟩, .slice none 0 0, .bool false]) (by kernel_rfl) rfl (by decide)

theorem idx_any (p : Ch → Bool) (l : List Ch) : ∀ i : Int, 0 ≤ i → decide (0 ≤ idxFrom p l i) = l.any p := by
  induction l with
  | nil => intro i _; simp [idxFrom]
  | cons x l ih =>
    intro i hi
    unfold idxFrom
    cases hx : p x
    · simp only [Bool.false_eq_true, if_false, List.any_cons, hx, Bool.false_or]; exact ih _ (by omega)
    · simp [hx, hi]
theorem ContainsFunc_c (a : Option Addr) (cap : Nat) (l : List Ch) (g : FuncId) (fst caps : Array Value) (p : Ch → Bool) (w : World) (hs : SlCh w a cap l) (hp : PredCall Try.prog g fst caps p w) (heg : ∀ (args : Array Value) (W : World), Sem.run Try.prog (callFunc g args) W = .ok (.enter g args) W) :
    Calls Try.prog 79 #[.slice a l.length cap, .func (.func g) fst caps] w fun e w' => e = .returned (.bool (l.any p)) ∧ Below w.heap.size w w' := by
  have HA := Lib.hid (idx_any p l 0 (by omega))
  go_enter Try.func79, Try.ntmps79
  go_wp2_with fail
  refine (IndexFunc_c a cap l g fst caps p _ hs hp heg).mono ?_
  rintro e w1 ⟨rfl, hb1⟩
  go_wp2
  go_ret
  exact ⟨by rw [← HA.out]; rfl, hb1⟩

theorem WNew1_c (x : Ch) (w : World) :
    Calls Try.prog 102 #[.agg #[.int .u8 x.C, .int .i64 x.By, .int .i64 x.No, .int .i64 x.K, .int .i64 x.In, .int .i64 x.Out, .int .i64 x.Gone]] w fun e w' => e = .returned (.bool (isOpen x)) ∧ Below w.heap.size w w' := by
  go_enter Try.func102, Try.ntmps102
  go_wp2
  go_ret
  exact ⟨rfl, (Below.refl _ _).alloc (Nat.le_refl _) _⟩

theorem listFault_len {l : List Ch} {log : Int} (h : listFault l log = 0) : l.length ≤ 200 := by
  unfold listFault at h; split at h <;> omega

theorem WNew_c (me next seen : Int) (a : Option Addr) (cap : Nat) (l : List Ch) (w : World) (hs : SlCh w a cap l) (hnil : a = none → cap = 0)
    (hme : isWriter me = true) (hnx : 1 ≤ next) (hs0 : 0 ≤ seen ∧ seen ≤ 120) (hf : listFault l seen = 0) (hop : ∀ c ∈ l, c.In ≠ 1073741824) :
    Calls Try.prog 60 #[.int .i64 me, .int .i64 next, .int .i64 seen, .slice a l.length cap] w fun e w' => ∃ F g, e = .returned (.pointer (some ⟨g, 0, none⟩)) ∧ WrAt w' w.heap.size F g ⟨me, seen, next, l, [], 0⟩ ∧ Below w.heap.size w w' := by
  have hl := listFault_len hf
  have HS := Lib.hid hs; have HN := Lib.hid hnil
  have HAny := Lib.hid (show l.any isOpen = false from by
    rw [List.any_eq_false]; intro c hc; simpa [isOpen] using hop c hc)
  have h1 : decide (next < 1) = false := decide_eq_false (by omega)
  have h2 : decide (seen < 0) = false := decide_eq_false (by omega)
  have h3 : decide (seen > 120) = false := decide_eq_false (by omega)
  have h3' : decide (120 < seen) = false := decide_eq_false (by omega)
  have HW := Lib.hid hme; have HF := Lib.hid hf
  clear hs hnil hop hme hnx hs0 hf
  go_enter Try.func60, Try.ntmps60
  go_wp2_with fail
  refine (Writer_c me _).mono ?_
  rintro e w0 ⟨rfl, rfl⟩
  rw [HW.out]
  go_wp2_with fail
  refine (Check_c a cap l seen _ HS.out).mono ?_
  rintro e w1 ⟨rfl, hb1⟩
  rw [HF.out]
  have HS1 := Lib.hid (HS.out.below hb1)
  have HB1 := Lib.hid hb1
  clear hb1
  have hp : PredCall Try.prog 102 #[] #[] isOpen w1 := fun c W _ => WNew1_c c W
  go_wp2_with fail
  refine (ContainsFunc_c a cap l _ _ _ isOpen _ HS1.out hp (enters_of Try.func102 (by kernel_rfl) rfl)).mono ?_
  clear hp
  rintro e w2 ⟨rfl, hb2⟩
  rw [HAny.out]
  have HS2 := Lib.hid (HS1.out.below hb2)
  have HB2 := Lib.hid (HB1.out.trans (hb2.mono HB1.out.size))
  clear hb2
  go_wp2_with fail
  refine (Clone_c a cap l _ HS2.out (by omega) HN.out).mono ?_
  rintro e w3 ⟨a3, cap3, rfl, ho3, hb3⟩
  have HO := Lib.hid ho3
  have HB := Lib.hid (HB2.out.trans (hb3.mono HB2.out.size))
  have HB23 := Lib.hid hb3
  clear ho3 hb3 HS1 HS2 HS
  go_wp2
  go_ret
  have hb4 : ∀ o, Below w3.heap.size w3 (w3.alloc o) := fun o => (Below.refl _ _).alloc (Nat.le_refl _) o
  have hs2 := HB2.out.size
  have hs3 := HB23.out.size
  refine ⟨fun k => k = w3.heap.size ∨ ownB a3 cap3 = some k, w3.heap.size, rfl, ?_, HB.out.trans ((hb4 _).mono HB.out.size)⟩
  refine ⟨by simp, .inl rfl, fun k hk => ?_, fun o ho => by simp, by simp, by simp, by simp, ⟨a3, cap3, none, 0, [], ⟨by simp, by simp, rfl, fun i hi => by simp at hi, (HO.out.mono hs2).below (hb4 _), OwnRow.nil _ _ _ _ _, fun k hk => ⟨.inr hk, fun e => ?_⟩, fun k hk => by simp [ownB] at hk, fun e he => by simp at he⟩⟩⟩
  · simp only [World.size_alloc]
    rcases hk with rfl | hk
    · have := HB.out.size; omega
    · have := HO.out.base_le k hk; omega
  · have := (HO.out.base_le k hk).2; omega

section
variable {w : World} {base : Nat} {F : Nat → Prop} {g : Nat} {s : WrV}

theorem WSeen_c (h : WrAt w base F g s) : Calls Try.prog 20 #[.pointer (some ⟨g, 0, none⟩)] w fun e w' => e = .returned (.int .i64 s.seen) ∧ w' = w := by
  have c1 := h.c1
  go_enter Try.func20, Try.ntmps20
  go_wp2
  go_ret
  exact ⟨rfl, rfl⟩

theorem WChars_c (h : WrAt w base F g s) (hl : s.L.length ≤ 1000) : Calls Try.prog 18 #[.pointer (some ⟨g, 0, none⟩)] w fun e w' => ∃ a' cap', e = .returned (.slice a' s.L.length cap') ∧
    OwnRow w' w.heap.size 86 7 a' s.L.length cap' (flat s.L) ∧ Below w.heap.size w w' := by
  obtain ⟨a, cap, oa, ocap, es, r⟩ := h.rows
  have c3 := r.c3
  have HR := Lib.hid r
  clear r h
  go_enter Try.func18, Try.ntmps18
  go_wp2_with fail
  refine (Clone_c a cap s.L _ HR.out.ra.slCh (by omega) HR.out.ra.nilcap).mono ?_
  rintro e w1 ⟨a1, cap1, rfl, ho1, hb1⟩
  have HO := Lib.hid ho1
  clear c3 HR ho1
  go_wp2
  go_ret
  exact ⟨a1, cap1, rfl, HO.out, hb1⟩

set_option maxRecDepth 100000 in
theorem WText_c (h : WrAt w base F g s) (hl : s.L.length ≤ 1000) : Calls Try.prog 19 #[.pointer (some ⟨g, 0, none⟩)] w fun e w' => e = .returned (.string (strOfNums (viewN s.seen s.me s.L))) ∧ Below w.heap.size w w' := by
  obtain ⟨a, cap, oa, ocap, es, r⟩ := h.rows
  have hlt := h.lt
  have c3 := r.c3
  have c0 := h.c0
  have c1 := h.c1
  have HR := Lib.hid r
  clear r h
  have C3 := later_cell c3
  have C0 := later_cell c0
  have C1 := later_cell c1
  clear c3 c0 c1
  have hL : ∀ q : Lt w, Later w q.v := fun q => q.h
  go_enter Try.func19, Try.ntmps19
  go_upto_region 1 with fail
  refine wp_region_mix [12, 13] [0, 1, 2, 3, 4, 5, 6, 7, 8, 9, 10, 11, 12, 13, 14] (by kernel_rfl) (by kernel_rfl) ?_
  iterate 12 (refine wpMix_step rfl (fun K hK => ?_); go_simp; refine hK _ _ ?_; clear hK K)
  refine wpMix_step rfl (fun K hK => ?_)
  go_simp
  intro p
  refine (View_c a cap s.L _ _ p.v (HR.out.ra.slCh.below p.h) (by omega)).mono ?_
  rintro e w2 ⟨aC, capC, rfl, hoC, hbC⟩
  refine ⟨_, rfl, hbC, hK _ _ ?_⟩
  clear hK K
  have hl2 : Later w w2 := (hL p).trans hbC
  have HOC := Lib.hid (hoC.mono (show w.heap.size ≤ p.v.heap.size from (hL p).size))
  clear hoC hbC p hL C3 C0 C1
  refine wpMix_step rfl (fun K hK => ?_)
  go_simp
  intro p
  have hcv := run_convert_row (P := Try.prog) (HOC.out.below p.h) 66 Try.underlying66 Try.underlying5 9 Try.underlying9
  rw [hcv]
  refine And.intro (Later.refl _) (hK _ _ ?_)
  clear hK K hcv
  have hl3 : Later w p.v := hl2.trans p.h
  refine wpMix_step rfl (fun K hK => ?_)
  go_simp
  refine hK _ _ ?_
  clear hK K
  refine wpMix_nil ?_
  intro w4 hL4
  have hl4 : Below w.heap.size w w4 := hl3.trans hL4
  clear hl3 hL4 hl2
  go_wp2
  go_ret
  exact ⟨rfl, hl4⟩

theorem WClear_c (h : WrAt w base F g s) (least : Int) (hl : s.L.length ≤ 1000) :
    Calls Try.prog 72 #[.pointer (some ⟨g, 0, none⟩), .int .i64 least] w fun e w' => e = .returned (.int .i64 ((s.L.length : Int) - (clearOf least s.L).length)) ∧ ∃ F', WrAt w' base F' g { s with L := clearOf least s.L } ∧ Moves F w w' ∧ Grows F w F' := by
  have HA := Lib.hid h
  obtain ⟨a, cap, oa, ocap, es, r⟩ := h.rows
  have c3 := r.c3
  have HR := Lib.hid r
  have hglt := h.lt
  have f3 := h.fz 3 (by omega)
  have hcl : (clearOf least s.L).length ≤ s.L.length := by unfold clearOf; exact List.length_filter_le _ _
  have hsub : IntKind.i64.wrap ((s.L.length : Int) - ((clearOf least s.L).length : Int)) = (s.L.length : Int) - ((clearOf least s.L).length : Int) := by rw [IntKind.wrap_i64]; omega
  clear r h
  go_enter Try.func72, Try.ntmps72
  go_wp2_with fail
  refine (Of_c a cap s.L least _ HR.out.ra.slCh (by omega) HR.out.ra.nilcap).mono ?_
  rintro e w1 ⟨a1, cap1, rfl, ho1, hb1⟩
  have c3 := (hb1.cell (p := ⟨g, 3, none⟩) hglt).trans c3
  have f3 := (hb1.frozen (p := ⟨g, 3, none⟩) hglt).trans f3
  have HA1 := Lib.hid (HA.out.later hb1)
  have hnF : ∀ k, ownB a1 cap1 = some k → ¬ F k := fun k hk hf => by have := (ho1.base_le k hk).1; have := (HA.out.foot k hf).2; omega
  have HE := Lib.hid (HA1.out.setList a1 cap1 (clearOf least s.L) (ho1.mono HA.out.base_le) hnF)
  have HM := Lib.hid ((Moves.of_below (F := F) hb1).trans (Moves.setCell w1 ⟨g, 3, none⟩ (.slice a1 (clearOf least s.L).length cap1) HA.out.fg) (fun _ _ k => k))
  have HG := Lib.hid (show Grows F w (fun k => F k ∨ ownB a1 cap1 = some k) from fun k hk => by
    rcases hk with hk | hk
    · exact .inl hk
    · exact .inr (ho1.base_le k hk).1)
  clear ho1 hb1 hnF HA HR
  go_wp2
  go_ret
  exact ⟨rfl, _, HE.out, HM.out, HG.out⟩

/-- How far it has seen the log for all that it will ever speak of. -/
def WrV.least (s : WrV) : Int := match (s.os.map (·.d)).drop s.ns with
  | [] => s.seen
  | u :: _ => u.Seen
theorem WrV.least_at (s : WrV) (h : s.ns < s.os.length) : s.least = s.os[s.ns].d.Seen := by
  unfold WrV.least
  rw [List.drop_eq_getElem_cons (by simpa using h)]
  simp
theorem WrV.least_end (s : WrV) (h : s.os.length ≤ s.ns) : s.least = s.seen := by
  unfold WrV.least
  rw [List.drop_of_length_le (by simpa using h)]
theorem WM.v_least (m : WM) : m.v.least = m.least := rfl
theorem WrRows.os_at {a oa : Option Addr} {cap ocap : Nat} {es : List OpE} (r : WrRows w base F g s a cap oa ocap es) (i : Nat) (hi : i < es.length) : ∃ h : i < s.os.length, s.os[i] = es[i].o := by
  refine ⟨by rw [← r.len]; exact hi, ?_⟩
  have := r.eo
  subst_vars
  simp [← r.eo]

set_option maxHeartbeats 400000 in
theorem WLeast_c (h : WrAt w base F g s) (hos : s.os.length ≤ 1000000) : Calls Try.prog 27 #[.pointer (some ⟨g, 0, none⟩)] w fun e w' => e = .returned (.int .i64 s.least) ∧ Below w.heap.size w w' := by
  obtain ⟨a, cap, oa, ocap, es, r⟩ := h.rows
  have hglt := h.lt
  have c4 := r.c4
  have c1 := h.c1
  have hel := r.len
  have HR := Lib.hid r
  clear r h
  go_enter Try.func27, Try.ntmps27
  go_wp2
  go_loopw [10] (fun s10 wr => ∃ i : Nat, i ≤ es.length ∧ i ≤ s.ns ∧ s10 = (.int .i64 i) ∧ Below w.heap.size w wr) (fun s10 _ => es.length - (intOf s10).toNat)
  case atStart => exact ⟨0, Nat.zero_le _, Nat.zero_le _, rfl, Below.refl _ _⟩
  case round =>
    obtain ⟨i, hi, hns, rfl, hb⟩ := hrel
    clear c4
    have c1' := (hb.cell (p := ⟨g, 1, none⟩) hglt).trans c1
    by_cases hlt : i < es.length
    · obtain ⟨b, off, rfl, hbb, hbl, _, q0, q1, q2, q3, q4, q5, q6, q7, q8⟩ := HR.out.nth i hlt
      have hc : ∀ o, wr.cell? ⟨b, o, none⟩ = w.cell? ⟨b, o, none⟩ := fun o => hb.cell (p := ⟨b, o, none⟩) hbl
      rw [← hc] at q0 q1 q2 q3 q4 q5 q6 q7 q8
      have HSe := Lib.hid (HR.out.sent i hlt)
      obtain ⟨hio, hoe⟩ := HR.out.os_at i hlt
      have HOE := Lib.hid (show s.os[i].d.Seen = es[i].d.Seen from by rw [hoe]; rfl)
      have hlt' : (i : Int) < es.length := by omega
      have hi0 : (0 : Int) ≤ (i : Int) := by omega
      have hltB : decide ((i : Int) < (es.length : Int)) = true := decide_eq_true hlt'
      have hltN : decide (i < es.length) = true := decide_eq_true hlt
      by_cases hin : i < s.ns
      · have hse : es[i].sent = true := by rw [HSe.out]; exact decide_eq_true hin
        clear HSe HOE hc hoe hio
        rw [hse] at q8
        clear hse
        generalize es[i] = e at *
        have hba := hb.alloc hb.size (.cells #[.int .i64 e.d.Kind, .int .i64 e.d.By, .int .i64 e.d.No, .int .i64 e.d.Seen, .int .i64 e.d.At, .int .i64 e.d.Many, .string e.d.Text, .slice e.ta e.took.length e.tc, .bool e.sent] 118)
        have hE : ({ e with sent := true } : OpE).sent = true := rfl
        go_wp2
        exact ⟨⟨i + 1, by omega, by omega, by go_num, hb.alloc hb.size _⟩, by simp [intOf]; omega⟩
      · obtain rfl : i = s.ns := by omega
        have hse : es[s.ns].sent = false := by rw [HSe.out]; simp
        have HLS := Lib.hid (show s.least = es[s.ns].d.Seen from by rw [s.least_at hio, HOE.out])
        clear HSe HOE hc hoe hio
        rw [hse] at q8
        clear hse
        generalize es[s.ns] = e at *
        go_wp2
        go_ret
        exact ⟨by rw [HLS.out]; rfl, hb.alloc hb.size _⟩
    · obtain rfl : i = es.length := by omega
      have HLS := Lib.hid (s.least_end (by omega))
      have hltB : decide ((es.length : Int) < (es.length : Int)) = false := by simp
      go_wp2
      go_ret
      exact ⟨by rw [HLS.out]; rfl, hb⟩

set_option maxHeartbeats 400000 in
theorem WOpen_c (h : WrAt w base F g s) (hos : s.os.length ≤ 1000000) : Calls Try.prog 21 #[.pointer (some ⟨g, 0, none⟩)] w fun e w' => ∃ a' cap', e = .returned (.slice a' s.os.length cap') ∧
    OwnRow w' w.heap.size 24 7 a' s.os.length cap' (flatD (s.os.map (·.d))) ∧ Below w.heap.size w w' := by
  obtain ⟨a, cap, oa, ocap, es, r⟩ := h.rows
  have hglt := h.lt
  have c4 := r.c4
  have HEL := Lib.hid r.len
  have HEO := Lib.hid (show es.map (·.d) = s.os.map (·.d) from by rw [← r.eo, List.map_map]; rfl)
  have hel : es.length ≤ 1000000 := by rw [r.len]; exact hos
  have HR := Lib.hid r
  clear r h
  go_enter Try.func21, Try.ntmps21
  go_wp2
  go_loopw [3, 11] (fun s3 s11 wr => ∃ (i : Nat) (a' : Option Addr) (cap' : Nat), i ≤ es.length ∧ s11 = (.int .i64 i) ∧ s3 = .slice a' i cap' ∧ Hid (OwnRow wr w.heap.size 24 7 a' i cap' (flatD ((es.map (·.d)).take i))) ∧ Below w.heap.size w wr) (fun _ s11 _ => es.length - (intOf s11).toNat)
  case atStart => exact ⟨0, none, 0, Nat.zero_le _, rfl, rfl, Lib.hid (OwnRow.nil _ _ _ _ _), Below.refl _ _⟩
  case round =>
    obtain ⟨i, a', cap', hi, rfl, rfl, HO, hb⟩ := hrel
    clear c4
    by_cases hlt : i < es.length
    · obtain ⟨b, off, rfl, hbb, hbl, _, q0, q1, q2, q3, q4, q5, q6, q7, q8⟩ := HR.out.nth i hlt
      have hc : ∀ o, wr.cell? ⟨b, o, none⟩ = w.cell? ⟨b, o, none⟩ := fun o => hb.cell (p := ⟨b, o, none⟩) hbl
      rw [← hc] at q0 q1 q2 q3 q4 q5 q6 q7 q8
      have HLT := Lib.hid (show flatD ((es.map (·.d)).take (i + 1)) = flatD ((es.map (·.d)).take i) ++ Dd.cells es[i].d from by
        rw [List.take_succ_eq_append_getElem (by simpa using hlt), flatD_append]; simp [flatD])
      have hlt' : (i : Int) < es.length := by omega
      have hi0 : (0 : Int) ≤ (i : Int) := by omega
      have hltB : decide ((i : Int) < (es.length : Int)) = true := decide_eq_true hlt'
      have hltN : decide (i < es.length) = true := decide_eq_true hlt
      clear hc
      generalize es[i] = e at *
      go_upto_region 5 with fail
      generalize hw8 : wr.alloc _ = w8
      have hw8' : w8 = wr.alloc (.cells #[.int .i64 e.d.Kind, .int .i64 e.d.By, .int .i64 e.d.No, .int .i64 e.d.Seen, .int .i64 e.d.At, .int .i64 e.d.Many, .string e.d.Text, .slice e.ta e.took.length e.tc, .bool e.sent] 118) := hw8.symm
      have hbd := (Below.refl wr.heap.size wr).alloc (Nat.le_refl _) (.cells #[.int .i64 e.d.Kind, .int .i64 e.d.By, .int .i64 e.d.No, .int .i64 e.d.Seen, .int .i64 e.d.At, .int .i64 e.d.Many, .string e.d.Text, .slice e.ta e.took.length e.tc, .bool e.sent] 118)
      have x0 : w8.cell? ⟨wr.heap.size, 0, none⟩ = some (.int .i64 e.d.Kind) := by rw [hw8']; simp
      have x1 : w8.cell? ⟨wr.heap.size, 1, none⟩ = some (.int .i64 e.d.By) := by rw [hw8']; simp
      have x2 : w8.cell? ⟨wr.heap.size, 2, none⟩ = some (.int .i64 e.d.No) := by rw [hw8']; simp
      have x3 : w8.cell? ⟨wr.heap.size, 3, none⟩ = some (.int .i64 e.d.Seen) := by rw [hw8']; simp
      have x4 : w8.cell? ⟨wr.heap.size, 4, none⟩ = some (.int .i64 e.d.At) := by rw [hw8']; simp
      have x5 : w8.cell? ⟨wr.heap.size, 5, none⟩ = some (.int .i64 e.d.Many) := by rw [hw8']; simp
      have x6 : w8.cell? ⟨wr.heap.size, 6, none⟩ = some (.string e.d.Text) := by rw [hw8']; simp
      rw [← hw8'] at hbd
      clear hw8 hw8' q0 q1 q2 q3 q4 q5 q6 q7 q8
      have hx8 : Below w.heap.size w w8 := hb.trans (hbd.mono hb.size)
      have HO8 := Lib.hid (HO.out.below hbd)
      clear hbd HO hb
      go_wp2_with (at_builtin; refine wpList_append_new rfl (.tmp 15) (.tmp 18) 45 rfl w.heap.size 24 7 64 Try.underlying45 ti_Deed a' i cap' _ rfl HO8.out 1 1 (Dd.cells e.d) rfl rfl (Dd.cells_one e.d) (by omega) hx8.size ?_)
      intro a3 cap3 w9 hown9 hb9 hz9 hg9
      have HO9 := Lib.hid (show OwnRow w9 w.heap.size 24 7 a3 (i + 1) cap3 (flatD ((es.map (·.d)).take (i + 1))) by rw [HLT.out]; exact hown9)
      clear hown9 HO8 hg9 x0 x1 x2 x3 x4 x5 x6
      go_wp2
      exact ⟨⟨i + 1, a3, cap3, by omega, by go_num, rfl, HO9, hx8.trans hb9⟩, by simp [intOf]; omega⟩
    · obtain rfl : i = es.length := by omega
      have hltB : decide ((es.length : Int) < (es.length : Int)) = false := by simp
      have HO2 := Lib.hid (show OwnRow wr w.heap.size 24 7 a' s.os.length cap' (flatD (s.os.map (·.d))) from by
        have := HO.out
        rw [List.take_of_length_le (by simp), HEO.out, HEL.out] at this
        exact this)
      clear HO
      go_wp2
      go_ret
      exact ⟨a', cap', by rw [HEL.out]; rfl, HO2.out, hb⟩
end
end Go.Proofs.Ytneoeokfffnonac
