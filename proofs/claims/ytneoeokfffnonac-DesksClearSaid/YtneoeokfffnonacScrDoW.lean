/- The walk of the Scribe's Do. -/
import Derived.Test.YtneoeokfffnonacScrW
import Derived.Deep.RegionLaw
set_option linter.unusedVariables false
set_option linter.unusedSimpArgs false
namespace Go.Proofs.Ytneoeokfffnonac
open Go.RowKit

/-- The deed that a Scribe makes of what it is told to do. -/
def ScV.deed (s : ScV) (d : Dd) : Dd := { d with By := s.me, No := s.next, Seen := s.seen }
def ScV.chars (s : ScV) : List Ch := apOs s.L s.ds
def SDoPost (w : World) (base : Nat) (F : Nat → Prop) (g : Nat) (s : ScV) (d : Dd) (e : Ending) (w' : World) : Prop :=
  (mayDo s.chars (s.deed d) ≠ 0 ∧ e = .returned (.tuple #[.agg #[.int .i64 zD.Kind, .int .i64 zD.By, .int .i64 zD.No, .int .i64 zD.Seen, .int .i64 zD.At, .int .i64 zD.Many, .string zD.Text], .int .i64 (mayDo s.chars (s.deed d))]) ∧ ScrAt w' base F g s ∧ Moves F w w') ∨
  (mayDo s.chars (s.deed d) = 0 ∧ e = .returned (.tuple #[.agg #[.int .i64 (s.deed d).Kind, .int .i64 (s.deed d).By, .int .i64 (s.deed d).No, .int .i64 (s.deed d).Seen, .int .i64 (s.deed d).At, .int .i64 (s.deed d).Many, .string (s.deed d).Text], .int .i64 0]) ∧ ∃ F', ScrAt w' base F' g { s with ds := s.ds ++ [s.deed d], next := s.next + 1 } ∧ Moves F w w' ∧ Grows F w F')

/-- Its open deeds have grown by one, by append. -/
theorem ScrAt.grown {w5 w6 : World} {base : Nat} {F : Nat → Prop} {g : Nat} {s : ScV} {D : Dd} {a oa a6 : Option Addr} {cap ocap cap6 : Nat} (h : ScrAt w5 base F g s)
    (r0 : w5.cell? ⟨g, 3, none⟩ = some (.slice a s.L.length cap)) (r1 : w5.cell? ⟨g, 4, none⟩ = some (.slice oa s.ds.length ocap)) (r2 : OwnRow w5 base 86 7 a s.L.length cap (flat s.L))
    (r4 : ∀ k, ownB a cap = some k → F k ∧ k ≠ g) (r5 : ∀ k, ownB oa ocap = some k → F k ∧ k ≠ g ∧ ownB a cap ≠ some k)
    (hrow6 : OwnRow w6 base 24 7 a6 (s.ds.length + 1) cap6 (flatD s.ds ++ D.cells)) (hgr : w5.grownBy w6 (ownB oa ocap)) (hnew : ∀ k, ownB a6 cap6 = some k → ownB oa ocap = some k ∨ w5.heap.size ≤ k) :
    ScrAt (w6.setCell ⟨g, 4, none⟩ (.slice a6 (s.ds.length + 1) cap6)) base (fun k => F k ∨ ownB a6 cap6 = some k) g { s with ds := s.ds ++ [D] } := by
  have hm : Moves (fun k => ownB oa ocap = some k) w5 w6 := Moves.of_grown hgr fun k hk => hk
  have hg : ¬ ownB oa ocap = some g := fun e => (r5 g e).2.1 rfl
  have hc : ∀ o, w6.cell? ⟨g, o, none⟩ = w5.cell? ⟨g, o, none⟩ := fun o => hm.cell h.lt hg o
  have hs : ∀ o, o ≠ 4 → (w6.setCell ⟨g, 4, none⟩ (.slice a6 (s.ds.length + 1) cap6)).cell? ⟨g, o, none⟩ = w5.cell? ⟨g, o, none⟩ := fun o ho => (World.cell?_setCell_other _ _ _ _ (fun e => ho (by cases e; rfl))).trans (hc o)
  have h6g : ∀ k, ownB a6 cap6 = some k → k ≠ g := fun k hk e => by
    rcases hnew k hk with h1 | h1
    · exact (r5 k h1).2.1 e
    · have := h.lt; omega
  have h6a : ∀ k, ownB a6 cap6 = some k → ownB a cap ≠ some k := fun k hk e => by
    rcases hnew k hk with h1 | h1
    · exact (r5 k h1).2.2 e
    · have := (r2.base_le k e).2; omega
  refine ⟨by simpa using Nat.lt_of_lt_of_le h.lt hm.size, .inl h.fg, fun k hk => ?_, fun o ho => by rw [World.frozen?_setCell]; exact (hm.frozen h.lt hg o).trans (h.fz o ho),
    (hs 0 (by omega)).trans h.c0, (hs 1 (by omega)).trans h.c1, (hs 2 (by omega)).trans h.c2, (hs 5 (by omega)).trans h.c5,
    ⟨a, cap, a6, cap6, (hs 3 (by omega)).trans r0, ?_, ?_, ?_, fun k hk => ⟨.inl (r4 k hk).1, (r4 k hk).2⟩, fun k hk => ⟨.inr hk, h6g k hk, h6a k hk⟩⟩⟩
  · simp only [World.size_setCell]
    rcases hk with hk | hk
    · exact ⟨(h.foot k hk).1, Nat.lt_of_lt_of_le (h.foot k hk).2 hm.size⟩
    · exact hrow6.base_le k hk
  · show (w6.setCell _ _).cell? ⟨g, 4, none⟩ = some (.slice a6 (s.ds ++ [D]).length cap6)
    rw [List.length_append]
    exact World.cell?_setCell_same _ _ _ ((hc 4).trans r1)
  · exact (r2.moves hm fun k hk e => (r5 k e).2.2 hk).setCell _ _ fun k hk => (r4 k hk).2
  · show OwnRow _ base _ 7 a6 (s.ds ++ [D]).length cap6 (flatD (s.ds ++ [D]))
    rw [List.length_append, flatD_append]
    have : flatD [D] = D.cells := by simp [flatD]
    rw [this]
    exact hrow6.setCell _ _ h6g
theorem putDd_moves (w : World) (b : Nat) (e : Dd) : Moves (fun k => k = b) w (putDd w b e) := (((((((Moves.setCell (F := fun k => k = b) w ⟨b, 0, none⟩ _ rfl).trans (Moves.setCell (F := fun k => k = b) _ ⟨b, 1, none⟩ _ rfl) (fun _ _ k => k)).trans (Moves.setCell (F := fun k => k = b) _ ⟨b, 2, none⟩ _ rfl) (fun _ _ k => k)).trans (Moves.setCell (F := fun k => k = b) _ ⟨b, 3, none⟩ _ rfl) (fun _ _ k => k)).trans (Moves.setCell (F := fun k => k = b) _ ⟨b, 4, none⟩ _ rfl) (fun _ _ k => k)).trans (Moves.setCell (F := fun k => k = b) _ ⟨b, 5, none⟩ _ rfl) (fun _ _ k => k)).trans (Moves.setCell (F := fun k => k = b) _ ⟨b, 6, none⟩ _ rfl) (fun _ _ k => k))
theorem doF_code (l : List Ch) (d : Dd) : (doF l d 1073741824).2 = mayDo l d := by
  rcases doF_cases l d 1073741824 with ⟨h1, e⟩ | ⟨_, hn, e⟩ | ⟨h1, hn, hk, e⟩ | ⟨h1, hn, hk2, e⟩
  · rw [e]
  · omega
  · rw [e, h1]
  · rw [e, h1]

theorem apOs_gone {l : List Ch} {ds : List Dd} (h : Chain l ds) (hG : ∀ c ∈ l, i64ok c.Gone) : ∀ c ∈ apOs l ds, i64ok c.Gone := by
  induction ds generalizing l with
  | nil => exact hG
  | cons o os ih =>
    refine ih h.2 ?_
    have := doF_gone l o 1073741824 hG
    rw [apO_doF h.1] at this; exact this
theorem apOs_len {l : List Ch} {ds : List Dd} (h : Chain l ds) (hl : l.length ≤ 1000) : (apOs l ds).length ≤ 1000 := by
  induction ds generalizing l with
  | nil => exact hl
  | cons o os ih =>
    refine ih h.2 ?_
    have := doF_len l o 1073741824
    rw [apO_doF h.1] at this; exact Nat.le_trans this (by omega)

set_option maxRecDepth 100000 in
set_option maxHeartbeats 800000 in
theorem SDo_c {w : World} {base : Nat} {F : Nat → Prop} {g : Nat} {s : ScV} (h : ScrAt w base F g s) (hc : Chain s.L s.ds) (hG : ∀ c ∈ s.L, i64ok c.Gone) (hl : s.L.length ≤ 1000) (hd : s.ds.length ≤ 1000000) (d : Dd) (hdt : d.Text.size ≤ maxLen) (hnx : 0 ≤ s.next ∧ s.next ≤ 1000000) :
    Calls Try.prog 67 #[.pointer (some ⟨g, 0, none⟩), .agg #[.int .i64 d.Kind, .int .i64 d.By, .int .i64 d.No, .int .i64 d.Seen, .int .i64 d.At, .int .i64 d.Many, .string d.Text]] w (SDoPost w base F g s d) := by
  have hb0 := ((Below.refl w.heap.size w).alloc (Nat.le_refl _) (.cells #[.int .i64 d.Kind, .int .i64 d.By, .int .i64 d.No, .int .i64 d.Seen, .int .i64 d.At, .int .i64 d.Many, .string d.Text] 24)).alloc (by simp) (.cells #[.int .i64 zD.Kind, .int .i64 zD.By, .int .i64 zD.No, .int .i64 zD.Seen, .int .i64 zD.At, .int .i64 zD.Many, .string zD.Text] 24)
  have HA0 := Lib.hid (h.later hb0)
  have HD0 := Lib.hid (show DdAt ((w.alloc (.cells #[.int .i64 d.Kind, .int .i64 d.By, .int .i64 d.No, .int .i64 d.Seen, .int .i64 d.At, .int .i64 d.Many, .string d.Text] 24)).alloc (.cells #[.int .i64 zD.Kind, .int .i64 zD.By, .int .i64 zD.No, .int .i64 zD.Seen, .int .i64 zD.At, .int .i64 zD.Many, .string zD.Text] 24)) w.heap.size d from (DdAt.new w d).later ((Below.refl _ _).alloc (Nat.le_refl _) _))
  have HZ0 := Lib.hid (show DdAt ((w.alloc (.cells #[.int .i64 d.Kind, .int .i64 d.By, .int .i64 d.No, .int .i64 d.Seen, .int .i64 d.At, .int .i64 d.Many, .string d.Text] 24)).alloc (.cells #[.int .i64 zD.Kind, .int .i64 zD.By, .int .i64 zD.No, .int .i64 zD.Seen, .int .i64 zD.At, .int .i64 zD.Many, .string zD.Text] 24)) (w.heap.size + 1) zD from by
    have := DdAt.new (w.alloc (.cells #[.int .i64 d.Kind, .int .i64 d.By, .int .i64 d.No, .int .i64 d.Seen, .int .i64 d.At, .int .i64 d.Many, .string d.Text] 24)) zD
    simpa using this)
  have HFD := Lib.hid (show ∀ j, j < 7 → ((w.alloc (.cells #[.int .i64 d.Kind, .int .i64 d.By, .int .i64 d.No, .int .i64 d.Seen, .int .i64 d.At, .int .i64 d.Many, .string d.Text] 24)).alloc (.cells #[.int .i64 zD.Kind, .int .i64 zD.By, .int .i64 zD.No, .int .i64 zD.Seen, .int .i64 zD.At, .int .i64 zD.Many, .string zD.Text] 24)).frozen? ⟨w.heap.size, j, none⟩ = false from fun j _ => by
    rw [((Below.refl (w.alloc (.cells #[.int .i64 d.Kind, .int .i64 d.By, .int .i64 d.No, .int .i64 d.Seen, .int .i64 d.At, .int .i64 d.Many, .string d.Text] 24)).heap.size (w.alloc (.cells #[.int .i64 d.Kind, .int .i64 d.By, .int .i64 d.No, .int .i64 d.Seen, .int .i64 d.At, .int .i64 d.Many, .string d.Text] 24))).alloc (Nat.le_refl _) (.cells #[.int .i64 zD.Kind, .int .i64 zD.By, .int .i64 zD.No, .int .i64 zD.Seen, .int .i64 zD.At, .int .i64 zD.Many, .string zD.Text] 24)).frozen (p := ⟨w.heap.size, j, none⟩) (by simp), World.frozen?_alloc_new])
  have HFZ := Lib.hid (show ∀ j, j < 7 → ((w.alloc (.cells #[.int .i64 d.Kind, .int .i64 d.By, .int .i64 d.No, .int .i64 d.Seen, .int .i64 d.At, .int .i64 d.Many, .string d.Text] 24)).alloc (.cells #[.int .i64 zD.Kind, .int .i64 zD.By, .int .i64 zD.No, .int .i64 zD.Seen, .int .i64 zD.At, .int .i64 zD.Many, .string zD.Text] 24)).frozen? ⟨w.heap.size + 1, j, none⟩ = false from fun j _ => by
    have e : w.heap.size + 1 = (w.alloc (.cells #[.int .i64 d.Kind, .int .i64 d.By, .int .i64 d.No, .int .i64 d.Seen, .int .i64 d.At, .int .i64 d.Many, .string d.Text] 24)).heap.size := by simp
    rw [e, World.frozen?_alloc_new])
  have HM0 := Lib.hid (Moves.of_below (F := F) hb0)
  have HFX := Lib.hid (show ∀ k, F k → k < w.heap.size from fun k hk => (h.foot k hk).2)
  have hbs := h.base_le
  have HFG := Lib.hid h.fg
  have HCH := Lib.hid hc
  have HG := Lib.hid hG
  have HDT := Lib.hid hdt
  clear h hb0 hc hG hdt
  go_enter Try.func67, Try.ntmps67
  go_upto_region 1 with fail
  generalize hw0 : (w.alloc _).alloc _ = w0
  have hw0' : (w.alloc (.cells #[.int .i64 d.Kind, .int .i64 d.By, .int .i64 d.No, .int .i64 d.Seen, .int .i64 d.At, .int .i64 d.Many, .string d.Text] 24)).alloc (.cells #[.int .i64 zD.Kind, .int .i64 zD.By, .int .i64 zD.No, .int .i64 zD.Seen, .int .i64 zD.At, .int .i64 zD.Many, .string zD.Text] 24) = w0 := hw0
  rw [hw0'] at HA0 HD0 HZ0 HFD HFZ HM0
  clear hw0 hw0'
  obtain ⟨X, hX⟩ : ∃ X, X = w.heap.size := ⟨_, rfl⟩
  obtain ⟨Z, hZ⟩ : ∃ Z, Z = w.heap.size + 1 := ⟨_, rfl⟩
  have hXZ : X < Z := by omega
  have hXB : base ≤ X := by omega
  rw [← hZ] at HZ0 HFZ ⊢
  rw [← hX] at HD0 HFD HFX ⊢
  have HXW := Lib.hid hX
  clear hX hZ
  have c0 := HA0.out.c0
  have c1 := HA0.out.c1
  have c2 := HA0.out.c2
  obtain ⟨dlt, d0, d1, d2, d3, d4, d5, d6⟩ := HD0.out
  have f1 := HFD.out 1 (by omega)
  have f2 := HFD.out 2 (by omega)
  have f3 := HFD.out 3 (by omega)
  have HD1 := Lib.hid ((((HD0.out.q1 s.me).q2 s.next).q3 s.seen).later (below_drew _ _))
  have HB1 := Lib.hid (((((Below.refl X w0).setCell (p := ⟨X, 1, none⟩) (Nat.le_refl _) (.int .i64 s.me)).setCell (p := ⟨X, 2, none⟩) (Nat.le_refl _) (.int .i64 s.next)).setCell (p := ⟨X, 3, none⟩) (Nat.le_refl _) (.int .i64 s.seen)).trans (below_drew _ _))
  have HZ1 := Lib.hid (show DdAt (((w0.setCell ⟨X, 1, none⟩ (.int .i64 s.me)).setCell ⟨X, 2, none⟩ (.int .i64 s.next)).setCell ⟨X, 3, none⟩ (.int .i64 s.seen)).drew Z zD from by
    refine HZ0.out.of_block (by simp [World.drew]) ?_
    show (((w0.setCell ⟨X, 1, none⟩ (.int .i64 s.me)).setCell ⟨X, 2, none⟩ (.int .i64 s.next)).setCell ⟨X, 3, none⟩ (.int .i64 s.seen)).heap[Z]? = _
    rw [Below.heap_setCell _ _ _ _ (by simp; omega), Below.heap_setCell _ _ _ _ (by simp; omega), Below.heap_setCell _ _ _ _ (by simp; omega)])
  have HFZ1 := Lib.hid (fun j (hj : j < 7) => show (((w0.setCell ⟨X, 1, none⟩ (.int .i64 s.me)).setCell ⟨X, 2, none⟩ (.int .i64 s.next)).setCell ⟨X, 3, none⟩ (.int .i64 s.seen)).drew.frozen? ⟨Z, j, none⟩ = false from by
    show (((w0.setCell ⟨X, 1, none⟩ (.int .i64 s.me)).setCell ⟨X, 2, none⟩ (.int .i64 s.next)).setCell ⟨X, 3, none⟩ (.int .i64 s.seen)).frozen? ⟨Z, j, none⟩ = false
    rw [World.frozen?_setCell, World.frozen?_setCell, World.frozen?_setCell]; exact HFZ.out j hj)
  have hgX : g < X := HFX.out g HFG.out
  have hgne : (g = X) = False := by simp; omega
  have hgne2 : (X = g) = False := by simp; omega
  go_region
  clear hgne hgne2
  go_upto_region 2 with fail
  generalize (((w0.setCell ⟨X, 1, none⟩ (.int .i64 s.me)).setCell ⟨X, 2, none⟩ (.int .i64 s.next)).setCell ⟨X, 3, none⟩ (.int .i64 s.seen)).drew = w1 at *
  have HA1 := Lib.hid (HA0.out.above HB1.out HFX.out)
  have HM1 := Lib.hid (HM0.out.above (HB1.out.mono (Nat.le_of_eq HXW.out.symm)))
  clear c0 c1 c2 d0 d1 d2 d3 d4 d5 d6 f1 f2 f3 HA0 HD0 HZ0 HFD HFZ HM0 HB1 dlt
  obtain ⟨D, hD⟩ : ∃ D, D = s.deed d := ⟨_, rfl⟩
  have HDD1 := Lib.hid (show DdAt w1 X D from by rw [hD]; exact HD1.out)
  have HDE := Lib.hid hD
  have HDT2 := Lib.hid (show D.Text.size ≤ maxLen from by rw [hD]; exact HDT.out)
  clear hD HD1
  obtain ⟨dlt, d0, d1, d2, d3, d4, d5, d6⟩ := HDD1.out
  have D0 := later_cell d0
  have D1 := later_cell d1
  have D2 := later_cell d2
  have D3 := later_cell d3
  have D4 := later_cell d4
  have D5 := later_cell d5
  have D6 := later_cell d6
  clear d0 d1 d2 d3 d4 d5 d6
  have hL : ∀ q : Lt w1, Later w1 q.v := fun q => q.h
  refine wp_region_mix [1, 3] [0, 2, 1, 3, 4, 5, 6, 7, 8] (by kernel_rfl) (by kernel_rfl) ?_
  iterate 2 (refine wpMix_step rfl (fun K hK => ?_); go_simp; refine hK _ _ ?_; clear hK K)
  refine wpMix_step rfl (fun K hK => ?_)
  go_simp
  intro p
  refine (SChars_c (HA1.out.later (hL p)) HCH.out HG.out hl hd).mono ?_
  rintro e w2 ⟨aC, capC, rfl, hsC, hnC, hbC⟩
  refine ⟨_, rfl, hbC, hK _ _ ?_⟩
  clear hK K
  have hl2 : Later w1 w2 := (hL p).trans hbC
  have HSC := Lib.hid hsC; have HNC := Lib.hid hnC
  clear hsC hnC hbC p hL
  have HGC := Lib.hid (apOs_gone HCH.out HG.out)
  have HLC := Lib.hid (apOs_len HCH.out hl)
  refine wpMix_step rfl (fun K hK => ?_)
  go_simp
  intro p
  refine (RDo_c aC capC (apOs s.L s.ds) D 1073741824 p.v (HSC.out.below p.h) HNC.out (by have := HLC.out; omega) HDT2.out HGC.out).mono ?_
  rintro e w3 ⟨a3, cap3, rfl, ho3, hb3⟩
  rw [doF_code]
  refine ⟨_, rfl, hb3, hK _ _ ?_⟩
  clear hK K ho3
  have hl3 : Later w1 w3 := (hl2.trans p.h).trans hb3
  clear hl2 hb3 p HSC HNC HGC HLC D0 D1 D2 D3 D4 D5 D6
  generalize (doF (apOs s.L s.ds) D 1073741824).1.length = n3
  iterate 5 (refine wpMix_step rfl (fun K hK => ?_); go_simp; refine hK _ _ ?_; clear hK K)
  refine wpMix_nil ?_
  intro w4 hL4
  have hl4 : Later w1 w4 := hl3.trans hL4
  have HA4 := Lib.hid (HA1.out.later hl4)
  have HD4 := Lib.hid (HDD1.out.later hl4)
  have HZ4 := Lib.hid (HZ1.out.later hl4)
  have HFZ4 := Lib.hid (fun j (hj : j < 7) => (Below.frozen hl4 (p := ⟨Z, j, none⟩) HZ1.out.lt).trans (HFZ1.out j hj))
  have HM4 := Lib.hid (HM1.out.trans (Moves.of_below (F := F) hl4) (fun _ _ k => k))
  clear hl3 hl4 hL4 HA1 HDD1 HZ1 HFZ1 HM1
  by_cases hmd : mayDo (apOs s.L s.ds) D = 0
  case neg =>
    have hneB : (mayDo (apOs s.L s.ds) D != 0) = true := by simpa using hmd
    have HMD := Lib.hid (show mayDo s.chars (s.deed d) ≠ 0 from by rw [← HDE.out]; exact hmd)
    have HME := Lib.hid (show mayDo s.chars (s.deed d) = mayDo (apOs s.L s.ds) D from by rw [← HDE.out]; rfl)
    clear hmd
    generalize mayDo (apOs s.L s.ds) D = code at *
    have HP := Lib.hid (HZ4.out.putAll zD)
    have HBP := Lib.hid (putDd_below zD (Below.refl Z w4) (Nat.le_refl _))
    obtain ⟨zlt, z0, z1, z2, z3, z4, z5, z6⟩ := HZ4.out
    have f0 := HFZ4.out 0 (by omega)
    have f1 := HFZ4.out 1 (by omega)
    have f2 := HFZ4.out 2 (by omega)
    have f3 := HFZ4.out 3 (by omega)
    have f4 := HFZ4.out 4 (by omega)
    have f5 := HFZ4.out 5 (by omega)
    have f6 := HFZ4.out 6 (by omega)
    go_wp2
    change bodyPost _ _ _ _ _ (putDd w4 Z zD)
    obtain ⟨_, p0, p1, p2, p3, p4, p5, p6⟩ := HP.out
    refine bodyPost_ret (v := .tuple #[.agg #[.int .i64 zD.Kind, .int .i64 zD.By, .int .i64 zD.No, .int .i64 zD.Seen, .int .i64 zD.At, .int .i64 zD.Many, .string zD.Text], .int .i64 code]) (by simp [results, Try.results67, go_sem, p0, p1, p2, p3, p4, p5, p6]) rfl ?_
    refine Or.inl ⟨HMD.out, by rw [HME.out], HA4.out.above HBP.out (fun k hk => by have := HFX.out k hk; omega), HM4.out.above (HBP.out.mono ?_)⟩
    have := HXW.out; omega
  have hneB : (mayDo (apOs s.L s.ds) D != 0) = false := by simpa using hmd
  have HMD := Lib.hid (show mayDo s.chars (s.deed d) = 0 from by rw [← HDE.out]; exact hmd)
  rw [hmd]
  clear hmd hneB
  obtain ⟨a, cap, oa, ocap, r0, r1, r2, r3, r4, r5⟩ := HA4.out.rows
  have k0 := r1
  have kf := HA4.out.fz 4 (by omega)
  have hglt := HA4.out.lt
  go_upto_region 5 with fail
  have HRow := Lib.hid r3
  have HR5 := Lib.hid r5
  have HR4 := Lib.hid r4
  have HR2 := Lib.hid r2
  have HR0 := Lib.hid r0
  obtain ⟨dlt, d0, d1, d2, d3, d4, d5, d6⟩ := HD4.out
  have hbs : base ≤ w4.heap.size := HA4.out.base_le
  have HAd := Lib.hid HA4.out.drew
  have HRd := Lib.hid HRow.out.drew
  have HR2d := Lib.hid HR2.out.drew
  have HDd := Lib.hid (HD4.out.later (below_drew w4 w4.heap.size))
  have HZd := Lib.hid (HZ4.out.later (below_drew w4 w4.heap.size))
  have HMd := Lib.hid (HM4.out.trans (Moves.of_below (F := F) (below_drew w4 w4.heap.size)) (fun _ _ k => k))
  have HKd := Lib.hid (show w4.drew.cell? ⟨g, 4, none⟩ = some (.slice oa s.ds.length ocap) ∧ w4.drew.frozen? ⟨g, 4, none⟩ = false from ⟨k0, kf⟩)
  have HFZd := Lib.hid (fun j (hj : j < 7) => show w4.drew.frozen? ⟨Z, j, none⟩ = false from HFZ4.out j hj)
  have hXlt : X < w4.heap.size := dlt
  have hZlt : Z < w4.heap.size := HZ4.out.lt
  have hbs : base ≤ w4.drew.heap.size := hbs
  clear HRow HA4 HD4 HZ4 HFZ4 HM4 HR2 r0 r2 r3 r4 r5
  have hngX : ¬ ownB oa ocap = some X := fun e => by have := HFX.out _ (HR5.out _ e).1; omega
  have hngZ : ¬ ownB oa ocap = some Z := fun e => by have := HFX.out _ (HR5.out _ e).1; omega
  have HG0 := Lib.hid (show ∀ w6, w4.drew.grownBy w6 (ownB oa ocap) → w6.cell? ⟨g, 4, none⟩ = some (.slice oa s.ds.length ocap) ∧ w6.frozen? ⟨g, 4, none⟩ = false ∧ DdAt w6 X D ∧ DdAt w6 Z zD ∧ (∀ j, j < 7 → w6.frozen? ⟨Z, j, none⟩ = false) from fun w6 hg6 => by
    have hm6 : Moves (fun k => ownB oa ocap = some k) w4.drew w6 := Moves.of_grown hg6 fun k hk => hk
    have hn : ¬ ownB oa ocap = some g := fun e => (HR5.out g e).2.1 rfl
    exact ⟨(hm6.cell hglt hn 4).trans HKd.out.1, (hm6.frozen hglt hn 4).trans HKd.out.2, HDd.out.of_block hm6.size (hm6.block _ hXlt hngX), HZd.out.of_block hm6.size (hm6.block _ hZlt hngZ), fun j hj => (hm6.frozen hZlt hngZ j).trans (HFZd.out j hj)⟩)
  obtain ⟨iT, zT, hiT, hzT, hsT, hbT, hzsT, hbpT⟩ := ti_Deed
  have hds : (w4.drew.alloc (.cells (Dd.cells D).toArray 24)).heap.size = w4.drew.heap.size + 1 := by rw [World.size_alloc]
  have hbsA : base ≤ (w4.drew.alloc (.cells (Dd.cells D).toArray 24)).heap.size := by omega
  obtain ⟨a6, cap6, w6, hrun, hown6, hg6', hn6'⟩ := run_append_row2 (P := Try.prog) (w4.drew.alloc (.cells (Dd.cells D).toArray 24)) base 45 45 24 iT zT 7 64 Try.underlying45 hiT hzT hsT hbT hzsT oa s.ds.length ocap _ (HRd.out.alloc _)
    (some ⟨w4.drew.heap.size, 0, none⟩) 1 1 (Dd.cells D) rfl (.inr ⟨_, rfl, fun j u hu => by rw [Addr.add_lit, Nat.zero_add, World.cell?_alloc_new]; simpa using hu⟩) (Dd.cells_one D) (by unfold maxLen; omega) (by omega) hbsA
  have hg6 : w4.drew.grownBy w6 (ownB oa ocap) := ⟨hg6'.os, hg6'.tape, hg6'.output, by have := hg6'.size; omega, fun k hk hne => (hg6'.block k (by omega) hne).trans (Below.heap_alloc _ _ _ hk)⟩
  have hn6 : ∀ k, ownB a6 cap6 = some k → ownB oa ocap = some k ∨ w4.drew.heap.size ≤ k := fun k hk => by rcases hn6' k hk with h | h; exact .inl h; exact .inr (by omega)
  have kg1 : ∀ o, (w4.alloc o).cell? ⟨g, 4, none⟩ = some (.slice oa s.ds.length ocap) := fun o => ((Below.refl w4.heap.size w4).alloc (Nat.le_refl _) o |>.cell (p := ⟨g, 4, none⟩) hglt).trans k0
  have kg := kg1 (.cells #[.int .i64 D.Kind, .int .i64 D.By, .int .i64 D.No, .int .i64 D.Seen, .int .i64 D.At, .int .i64 D.Many, .string D.Text] 24)
  clear hds kg1 hn6' hg6' hbsA hiT hzT hsT hbT hzsT hbpT r1
  have HRUN := Lib.hid hrun
  clear hrun
  obtain ⟨kc6, kf6, kdd6, kzz6, kfz6⟩ := HG0.out w6 hg6
  have HDD6 := Lib.hid kdd6
  have HZZ6 := Lib.hid kzz6
  have HFZ6 := Lib.hid kfz6
  have HL7 := Lib.hid (ScrAt.grown (D := D) HAd.out HR0.out HKd.out.1 HR2d.out HR4.out HR5.out hown6 hg6 hn6)
  have HM6 := Lib.hid (HMd.out.trans (Moves.of_grown (F := fun k => ownB oa ocap = some k) hg6 fun k hk => hk) (fun k _ hk => (HR5.out k hk).1))
  have HM7 := Lib.hid (HM6.out.trans (Moves.setCell w6 ⟨g, 4, none⟩ (.slice a6 (s.ds.length + 1) cap6) HFG.out) (fun _ _ k => k))
  have HDD7 := Lib.hid (HDD6.out.of_block (w' := w6.setCell ⟨g, 4, none⟩ (.slice a6 (s.ds.length + 1) cap6)) (by simp) (Below.heap_setCell w6 ⟨g, 4, none⟩ _ _ (fun e => by simp at e; omega)))
  have HZZ7 := Lib.hid (HZZ6.out.of_block (w' := w6.setCell ⟨g, 4, none⟩ (.slice a6 (s.ds.length + 1) cap6)) (by simp) (Below.heap_setCell w6 ⟨g, 4, none⟩ _ _ (fun e => by simp at e; omega)))
  have HFZ7 := Lib.hid (fun j (hj : j < 7) => show (w6.setCell ⟨g, 4, none⟩ (.slice a6 (s.ds.length + 1) cap6)).frozen? ⟨Z, j, none⟩ = false from (World.frozen?_setCell _ _ _ _).trans (HFZ6.out j hj))
  have hwX : w.heap.size ≤ w4.drew.heap.size := HMd.out.size
  have HGR := Lib.hid (show Grows F w (fun k => F k ∨ ownB a6 cap6 = some k) from fun k hk => by
    rcases hk with hk | hk
    · exact .inl hk
    · rcases hn6 k hk with h | h
      · exact .inl (HR5.out k h).1
      · exact .inr (Nat.le_trans hwX h))
  have h6Z : ∀ k, ownB a6 cap6 = some k → k ≠ Z := fun k hk e => by
    rcases hn6 k hk with h | h
    · exact hngZ (e ▸ h)
    · rw [e] at h; exact absurd hZlt (Nat.not_lt.2 h)
  have H6Z := Lib.hid h6Z
  clear hown6 hg6 hn6 kdd6 kzz6 kfz6 HDD6 HZZ6 HFZ6 HM6 HMd HKd HDd HZd HFZd HRd HR2d HAd HG0 h6Z
  go_region_law (refine step_known HRUN.out rfl _ _ rfl rfl rfl ?_)
  all_goals
    go_upto_region 6 with fail
    generalize w6.setCell ⟨g, 4, none⟩ (.slice a6 (s.ds.length + 1) cap6) = w7 at *
    clear d0 d1 d2 d3 d4 d5 d6 dlt k0 kf kg kc6 kf6 HRUN
    have c2 := HL7.out.c2
    have f2 := HL7.out.fz 2 (by omega)
    have hinc : IntKind.i64.wrap (s.next + 1) = s.next + 1 := by rw [IntKind.wrap_i64]; omega
    have HL8 := Lib.hid (HL7.out.setNext (s.next + 1))
    have hgF : ∀ k, F k ∨ ownB a6 cap6 = some k → k ≠ Z := fun k hk e => by
      rcases hk with h | h
      · have := HFX.out k h; omega
      · exact H6Z.out k h e
    have HGF := Lib.hid hgF
    have HDD8 := Lib.hid (HDD7.out.of_block (w' := w7.setCell ⟨g, 2, none⟩ (.int .i64 (s.next + 1))) (by simp) (Below.heap_setCell w7 ⟨g, 2, none⟩ _ _ (fun e => by simp at e; omega)))
    have HZZ8 := Lib.hid (HZZ7.out.of_block (w' := w7.setCell ⟨g, 2, none⟩ (.int .i64 (s.next + 1))) (by simp) (Below.heap_setCell w7 ⟨g, 2, none⟩ _ _ (fun e => by simp at e; omega)))
    have HFZ8 := Lib.hid (fun j (hj : j < 7) => show (w7.setCell ⟨g, 2, none⟩ (.int .i64 (s.next + 1))).frozen? ⟨Z, j, none⟩ = false from (World.frozen?_setCell _ _ _ _).trans (HFZ7.out j hj))
    have HM8 := Lib.hid (HM7.out.trans (Moves.setCell w7 ⟨g, 2, none⟩ (.int .i64 (s.next + 1)) HFG.out) (fun _ _ k => k))
    clear HL7 HDD7 HZZ7 HFZ7 HM7 hgF
    go_upto_region 7 with fail
    generalize w7.setCell ⟨g, 2, none⟩ (.int .i64 (s.next + 1)) = w8 at *
    clear c2 f2 hinc
    have HP := Lib.hid (HZZ8.out.putAll D)
    have HBP := Lib.hid (putDd_below D (Below.refl Z w8) (Nat.le_refl _))
    have HMP := Lib.hid (putDd_moves w8 Z D)
    obtain ⟨dlt, d0, d1, d2, d3, d4, d5, d6⟩ := HDD8.out
    obtain ⟨zlt, z0, z1, z2, z3, z4, z5, z6⟩ := HZZ8.out
    have f0 := HFZ8.out 0 (by omega)
    have f1 := HFZ8.out 1 (by omega)
    have f2 := HFZ8.out 2 (by omega)
    have f3 := HFZ8.out 3 (by omega)
    have f4 := HFZ8.out 4 (by omega)
    have f5 := HFZ8.out 5 (by omega)
    have f6 := HFZ8.out 6 (by omega)
    go_wp2
    change bodyPost _ _ _ _ _ (putDd w8 Z D)
    obtain ⟨_, p0, p1, p2, p3, p4, p5, p6⟩ := HP.out
    refine bodyPost_ret (v := .tuple #[.agg #[.int .i64 D.Kind, .int .i64 D.By, .int .i64 D.No, .int .i64 D.Seen, .int .i64 D.At, .int .i64 D.Many, .string D.Text], .int .i64 0]) (by simp [results, Try.results67, go_sem, p0, p1, p2, p3, p4, p5, p6]) rfl ?_
    refine Or.inr (And.intro HMD.out (And.intro (by rw [HDE.out]) (Exists.intro (fun k => F k ∨ ownB a6 cap6 = some k) (And.intro ?_ (And.intro ?_ HGR.out)))))
    · have h8 := HL8.out.moves HMP.out (fun k hk e => HGF.out k hk e)
      rw [HDE.out] at h8 ⊢
      exact h8
    · refine HM8.out.above (HBP.out.mono ?_)
      have := HXW.out; omega
end Go.Proofs.Ytneoeokfffnonac
