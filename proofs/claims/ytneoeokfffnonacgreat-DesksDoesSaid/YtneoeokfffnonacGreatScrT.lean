/- The walks of the Scribe's Least and Text. -/
import Derived.Test.YtneoeokfffnonacGreatScrDoW
set_option linter.unusedVariables false
set_option linter.unusedSimpArgs false
namespace Go.Proofs.YtneoeokfffnonacGreat
open Go.RowKit
/-- What the eldest deed that was not sent had seen. -/
def leastD (ds : List Dd) (n : Nat) (seen : Int) : Int := match ds.drop n with
  | [] => seen
  | u :: _ => u.Seen
theorem leastD_at (ds : List Dd) (n : Nat) (seen : Int) (h : n < ds.length) : leastD ds n seen = ds[n].Seen := by
  unfold leastD; rw [List.drop_eq_getElem_cons h]
theorem leastD_end (ds : List Dd) (n : Nat) (seen : Int) (h : ds.length ≤ n) : leastD ds n seen = seen := by
  unfold leastD; rw [List.drop_of_length_le h]
section
variable {w : World} {base : Nat} {F : Nat → Prop} {g : Nat} {s : ScV}
theorem SLeast_c (h : ScrAt w base F g s) (n : Nat) (hn : s.sent = n) (hd : s.ds.length ≤ 1000000) :
    Calls Tryz.prog 36 #[.pointer (some ⟨g, 0, none⟩)] w fun e w' => e = .returned (.int .i64 (leastD s.ds n s.seen)) ∧ Below w.heap.size w w' := by
  obtain ⟨a, cap, oa, ocap, r0, r1, r2, r3, r4, r5⟩ := h.rows
  have HSD := Lib.hid r3.slDd
  have hglt := h.lt
  have c5 := h.c5
  rw [hn] at c5
  have c1 := h.c1
  clear r0 r2 r3 r4 r5 h hn
  go_enter Tryz.func36, Tryz.ntmps36
  by_cases hlt : n < s.ds.length
  · obtain ⟨bb, off, rfl, hq⟩ := HSD.out.nth hlt
    have HLE := Lib.hid (leastD_at s.ds n s.seen hlt)
    have hlt' : (n : Int) < s.ds.length := by omega
    have hn0 : (0 : Int) ≤ (n : Int) := by omega
    have hltB : decide ((n : Int) < (s.ds.length : Int)) = true := decide_eq_true hlt'
    generalize s.ds[n] = d at *
    have HQ := Lib.hid hq
    clear hq
    go_upto_region 1 with fail
    go_quiet (fail)
    have hL1 : Later w (w.drewN nq) := bl_drewN (Below.refl _ _) nq
    generalize w.drewN nq = w1 at *
    have r1 := (hL1.cell (p := ⟨g, 4, none⟩) hglt).trans r1
    have c5 := (hL1.cell (p := ⟨g, 5, none⟩) hglt).trans c5
    have q3 := (HQ.out.below hL1 HQ.out.lt).2.2.2.1
    clear c1
    go_upto_region 2 with fail
    go_quiet (fail)
    have hL2 : Later w1 (w1.drewN nq) := bl_drewN (Below.refl _ _) nq
    generalize w1.drewN nq = w2 at *
    have HL2 := Lib.hid (hL1.trans hL2)
    clear r1 c5 q3 hL1 hL2
    go_wp2
    go_ret
    exact ⟨by rw [HLE.out]; rfl, HL2.out⟩
  · have HLE := Lib.hid (leastD_end s.ds n s.seen (by omega))
    have hltB : decide ((n : Int) < (s.ds.length : Int)) = false := decide_eq_false (by omega)
    go_upto_region 1 with fail
    go_quiet (fail)
    have hL1 : Later w (w.drewN nq) := bl_drewN (Below.refl _ _) nq
    generalize w.drewN nq = w1 at *
    have c1 := (hL1.cell (p := ⟨g, 1, none⟩) hglt).trans c1
    clear r1 c5
    go_wp2
    go_ret
    exact ⟨by rw [HLE.out]; rfl, hL1⟩
set_option maxRecDepth 100000 in
theorem SText_c (h : ScrAt w base F g s) (hc : Chain s.L s.ds) (hG : ∀ c ∈ s.L, i64ok c.Gone) (hl : s.L.length ≤ 1000) (hd : s.ds.length ≤ 1000000) :
    Calls Tryz.prog 45 #[.pointer (some ⟨g, 0, none⟩)] w fun e w' => e = .returned (.string (strOfNums (viewN s.seen s.me (apOs s.L s.ds)))) ∧ Below w.heap.size w w' := by
  have HA := Lib.hid h
  have c0 := h.c0
  have c1 := h.c1
  have HC := Lib.hid hc
  have HG := Lib.hid hG
  have HGC := Lib.hid (apOs_gone hc hG)
  clear h hc hG
  have C0 := later_cell c0
  have C1 := later_cell c1
  clear c0 c1
  have hL : ∀ q : Lt w, Later w q.v := fun q => q.h
  go_enter Tryz.func45, Tryz.ntmps45
  go_upto_region 1 with fail
  refine wp_region_mix [1] [0, 2, 3, 4, 5, 6, 7, 8, 9, 1, 10, 11] (by kernel_rfl) (by kernel_rfl) ?_
  iterate 9 (refine wpMix_step rfl (fun K hK => ?_); go_simp; refine hK _ _ ?_; clear hK K)
  refine wpMix_step rfl (fun K hK => ?_)
  go_simp
  intro p
  refine (SChars_c (HA.out.later (hL p)) HC.out HG.out hl hd).mono ?_
  rintro e w2 ⟨aC, capC, rfl, hsC, hnC, hbC⟩
  refine ⟨_, rfl, hbC, hK _ _ ?_⟩
  clear hK K
  have hl2 : Later w w2 := (hL p).trans hbC
  have HSC := Lib.hid hsC
  clear hsC hnC hbC p hL C0 C1
  refine wpMix_step rfl (fun K hK => ?_)
  go_simp
  refine ⟨_, fun p => quietM p (ViewOf_c aC capC (apOs s.L s.ds) s.seen s.me p.v (HSC.out.below p.h) HGC.out), hK _ _ ?_⟩
  clear hK K
  refine wpMix_step rfl (fun K hK => ?_)
  go_simp
  refine hK _ _ ?_
  clear hK K
  refine wpMix_nil ?_
  intro w4 hL4
  have hl4 : Below w.heap.size w w4 := hl2.trans hL4
  clear hL4 hl2
  go_wp2
  go_ret
  exact ⟨rfl, hl4⟩
end
end Go.Proofs.YtneoeokfffnonacGreat
