/- Printed: the room hears. -/
import Derived.Test.YtneoeokfffnonacRoomW
set_option linter.unusedVariables false
set_option linter.unusedSimpArgs false
namespace Go.Proofs.Ytneoeokfffnonac
open Go.RowKit
section
variable {w : World} {base : Nat} {F : Nat → Prop} {g : Nat} {gw gs : Nat → Nat} {d : DkM} {e : Nat → Option ScV} {bare : Bool}
theorem doF_codeR (l : List Ch) (d : Dd) (n : Int) (hn1 : 1 ≤ n) : (doF l d n).2 = mayDo l d := by
  rcases doF_cases l d n with ⟨h1, e⟩ | ⟨_, hn, e⟩ | ⟨h1, hn, hk, e⟩ | ⟨h1, hn, hk2, e⟩
  · rw [e]
  · omega
  · rw [e, h1]
  · rw [e, h1]
/-- Deed, with one form of what it tells. -/
theorem Deed_gR {F : Nat → Prop} {g : Nat} {m : LogM} (h : LogAt w base F g m) (n : Int) : Calls Try.prog 32 #[.pointer (some ⟨g, 0, none⟩), .int .i64 n] w fun e w' => ∃ dd b, e = .returned (.tuple #[.agg #[.int .i64 dd.Kind, .int .i64 dd.By, .int .i64 dd.No, .int .i64 dd.Seen, .int .i64 dd.At, .int .i64 dd.Many, .string dd.Text], .bool b]) ∧ Below w.heap.size w w' ∧
    (b = false ∧ dd = zD ∧ (n < 1 ∨ (m.L.length : Int) < n) ∨ b = true ∧ ∃ (k : Nat) (hk : k < m.L.length), n = (k : Int) + 1 ∧ dd = m.L[k]) :=
  (Deed_c h n).mono fun e w' ⟨hb, hc⟩ => by
    rcases hc with ⟨rfl, h1⟩ | ⟨k, hk, h1, rfl⟩
    · exact ⟨zD, false, rfl, hb, .inl ⟨rfl, rfl, h1⟩⟩
    · exact ⟨m.L[k], true, rfl, hb, .inr ⟨rfl, k, hk, h1, rfl⟩⟩
def hearC (m : WM) (u : Dd) : Int := if u.By = m.me then 0 else mayDo m.chars u
def hearM (m : WM) (u : Dd) : WM := if u.By ≠ m.me ∧ mayDo m.chars u ≠ 0 then m else m.hear u
theorem RHear_c (h : RmAt w base F g gw gs d e bare) (ho : d.Ok) (hs : d.Sm 1000) {j : Nat} (hj : j < 4) {m : WM} (hw : d.writer (j : Int) = some m) (hlt : m.seen < d.lm.L.length) (u : Dd) (hu : u = d.lm.L[m.seen]) :
    Calls Try.prog 24 #[.pointer (some ⟨(gw j), 0, none⟩), .agg #[.int .i64 u.Kind, .int .i64 u.By, .int .i64 u.No, .int .i64 u.Seen, .int .i64 u.At, .int .i64 u.Many, .string u.Text]] w fun en w' => en = .returned (.int .i64 (hearC m u)) ∧ RmS w base F g gw gs bare (d.setW j (some (hearM m u))) e w' := by
  obtain ⟨hx, hme, hW, tt, hin⟩ := ho.of_writer hw
  rw [Int.toNat_natCast] at hW
  obtain ⟨FW, hFW, _, hwr, put⟩ := h.wrZ hj hW
  have hos : m.opn.length ≤ 1000 := hs.writer hw
  have hsl := hin.seen
  have hlen := ho.lm.len
  have hvs : m.v.seen = (m.seen : Int) := rfl
  have hdk := ho.lm.deeds m.seen hlt
  have hf := fault_okR hdk.f
  have hoo := fun hb h0 => hin.hearO ho.lm hlt hb h0
  have hoi := fun hb => hin.own_head hlt hb
  have hoj := fun hb o os hop => hin.hearI ho.lm hlt hb o os hop
  rw [← hu] at hf hoo hoi hoj
  refine (WHear_c hwr (hin.chars_gone ho.lm) (by have := hin.chars_len ho.lm; show m.chars.length ≤ 1000; omega) (by show m.opn.length ≤ 1000000; omega) (by show 0 ≤ (m.seen : Int) ∧ (m.seen : Int) ≤ 1000000; omega) u hf.1 hf.2).mono ?_
  rintro en w' hp
  unfold hearC hearM
  rcases hp with ⟨hne, rfl, hm6, hcs⟩ | ⟨hby, hno, _, _, _⟩ | ⟨hby, o, os, hop, hod, rfl, hm6, hA6⟩
  · have hne' : ¬ u.By = m.me := hne
    rw [if_neg hne']
    rw [show (doF m.v.L u (m.v.seen + 1)).2 = mayDo m.chars u from doF_codeR _ _ _ (by rw [hvs]; omega)] at hcs ⊢
    refine ⟨rfl, ?_⟩
    by_cases hc : mayDo m.chars u = 0
    · rcases hcs with ⟨h1, _⟩ | ⟨_, F', hA6, hG6⟩
      · exact absurd hc h1
      rw [if_neg (fun h => h.2 hc)]
      have hmv : (m.hear u).v = { m.v with L := (doF m.v.L u (m.v.seen + 1)).1, seen := m.v.seen + 1 } := by
        have e : m.hear u = m.hearO u := by unfold WM.hear; exact if_neg hne
        have h2 := (hoo hne hc).2.2
        rw [e]
        unfold WM.v
        rw [h2]
        show (⟨m.me, ((m.seen + 1 : Nat) : Int), m.next, ap m.chars u ((m.seen : Int) + 1), m.opn, m.ns⟩ : WrV) = ⟨m.me, (m.seen : Int) + 1, m.next, (doF m.chars u ((m.seen : Int) + 1)).1, m.opn, m.ns⟩
        rw [doF_ap hc (by omega)]; simp
      rw [← hmv] at hA6
      obtain ⟨F4, q1, q2, q3⟩ := put w' F' (m.hear u) hm6 hA6 hG6
      exact ⟨F4, q1, q2, q3⟩
    · rcases hcs with ⟨_, hA6⟩ | ⟨h1, _⟩
      case inr => exact absurd h1 hc
      rw [if_pos ⟨hne, hc⟩]
      obtain ⟨F4, q1, q2, q3⟩ := put w' FW m hm6 hA6 (fun k hk => .inl hk)
      exact ⟨F4, q1, q2, q3⟩
  · exfalso
    obtain ⟨o, os, hop, hod, _⟩ := hoi hby
    exact hno o (by show m.opn.head? = some o; rw [hop]; rfl) hod
  · have hby' : u.By = m.me := hby
    rw [if_pos hby', if_neg (fun h => h.1 hby')]
    refine ⟨rfl, ?_⟩
    have hmv : (m.hear u).v = { m.v with L := m.v.L.map (numC m.v.me u.No (m.v.seen + 1) fun k => decide (k ∈ o.took.map key)), os := os, ns := m.v.ns - 1, seen := m.v.seen + 1 } := by
      have e : m.hear u = m.hearI u := by unfold WM.hear; exact if_pos hby
      have h2 := (hoj hby o os hop).2.2.2.1
      rw [e]
      unfold WM.v
      rw [h2]
      show (⟨m.me, ((m.seen + 1 : Nat) : Int), m.next, m.chars.map (numsOf m u o), m.opn.tail, m.ns - 1⟩ : WrV) = ⟨m.me, (m.seen : Int) + 1, m.next, m.chars.map (numC m.me u.No ((m.seen : Int) + 1) fun k => decide (k ∈ o.took.map key)), os, m.ns - 1⟩
      have ho : m.opn = o :: os := hop
      rw [ho, Int.natCast_add]; rfl
    rw [← hmv] at hA6
    obtain ⟨F4, q1, q2, q3⟩ := put w' FW (m.hear u) hm6 hA6 (fun k hk => .inl hk)
    exact ⟨F4, q1, q2, q3⟩
theorem RSHear_c (h : RmAt w base F g gw gs d e bare) {d0 : DkM} (ho : d0.Ok) (hs : d0.Sm 1000) {j : Nat} (hj : j < 4) {m : WM} (hw : d0.writer (j : Int) = some m) (he : e j = some m.sc) (hlt : m.seen < d0.lm.L.length) (u : Dd) (hu : u = d0.lm.L[m.seen]) :
    Calls Try.prog 70 #[.pointer (some ⟨(gs j), 0, none⟩), .agg #[.int .i64 u.Kind, .int .i64 u.By, .int .i64 u.No, .int .i64 u.Seen, .int .i64 u.At, .int .i64 u.Many, .string u.Text]] w fun en w' => en = .returned (.int .i64 (hearC m u)) ∧ RmS w base F g gw gs bare d (setN e j (some (hearM m u).sc)) w' := by
  obtain ⟨hx, hme, hW, tt, hin⟩ := ho.of_writer hw
  obtain ⟨FSk, hFS, _, hsc, put⟩ := h.scZ hj he
  have hos : m.opn.length ≤ 1000 := hs.writer hw
  have hsl := hin.seen
  have hlen := ho.lm.len
  have hnsl := hin.ns
  have hdk := ho.lm.deeds m.seen hlt
  have hf := fault_okR hdk.f
  have hoo := fun hb h0 => hin.hearO ho.lm hlt hb h0
  have hoi := fun hb => hin.own_head hlt hb
  have hoj := fun hb o os hop => hin.hearI ho.lm hlt hb o os hop
  rw [← hu] at hf hoo hoi hoj
  have hdl : m.sc.ds.length = m.opn.length := by show m.ds.length = _; unfold WM.ds; rw [List.length_map]
  refine (SHear_c hsc hin.chain (hin.base_gone ho.lm) (by have := hin.base_len ho.lm; exact this) (by rw [hdl]; omega) (by show 0 ≤ (m.seen : Int) ∧ (m.seen : Int) ≤ 1000000; omega) (by show 0 ≤ (m.ns : Int) ∧ (m.ns : Int) ≤ 1000000; omega) u hf.1).mono ?_
  rintro en w' hp
  unfold hearC hearM
  rcases hp with ⟨hne, rfl, hm6, hcs⟩ | ⟨hby, hno, _, _, _⟩ | ⟨hby, os, hop, rfl, hm6, F', hA6, hG6⟩
  · have hne' : ¬ u.By = m.me := hne
    rw [if_neg hne']
    rw [show (doF (apOs m.sc.L m.sc.ds) u (m.sc.seen + 1)).2 = mayDo m.chars u from doF_codeR _ _ _ (by show (1 : Int) ≤ (m.seen : Int) + 1; omega)] at hcs ⊢
    refine ⟨rfl, ?_⟩
    by_cases hc : mayDo m.chars u = 0
    · rcases hcs with ⟨h1, _⟩ | ⟨_, F', hA6, hG6⟩
      · exact absurd hc h1
      rw [if_neg (fun h => h.2 hc)]
      have hmv : (m.hear u).sc = { m.sc with L := (doF m.sc.L u (m.sc.seen + 1)).1, seen := m.sc.seen + 1 } := by
        have e : m.hear u = m.hearO u := by unfold WM.hear; exact if_neg hne
        have h2 := (hoo hne hc).2.1
        rw [e]
        show (⟨m.me, ((m.seen + 1 : Nat) : Int), m.next, ap m.base u ((m.seen : Int) + 1), m.ds, m.ns⟩ : ScV) = ⟨m.me, (m.seen : Int) + 1, m.next, (doF m.base u ((m.seen : Int) + 1)).1, m.ds, m.ns⟩
        rw [doF_ap h2 (by omega)]; simp
      rw [← hmv] at hA6
      obtain ⟨F4, q1, q2, q3⟩ := put w' F' _ hm6 hA6 hG6
      exact ⟨F4, q1, q2, q3⟩
    · rcases hcs with ⟨_, hA6⟩ | ⟨h1, _⟩
      case inr => exact absurd h1 hc
      rw [if_pos ⟨hne, hc⟩]
      obtain ⟨F4, q1, q2, q3⟩ := put w' FSk m.sc hm6 hA6 (fun k hk => .inl hk)
      exact ⟨F4, q1, q2, q3⟩
  · exfalso
    obtain ⟨o, os, hop, hod, _⟩ := hoi hby
    exact hno o.d (by show m.ds.head? = some o.d; unfold WM.ds; rw [hop]; rfl) hod
  · have hby' : u.By = m.me := hby
    rw [if_pos hby', if_neg (fun h => h.1 hby')]
    refine ⟨rfl, ?_⟩
    obtain ⟨o, os', hop', hod, hn1, _⟩ := hoi hby
    have h2 := (hoj hby o os' hop').2.2.1
    have hoe : os = os'.map (·.d) := by
      have e1 : m.sc.ds = o.d :: os'.map (·.d) := by show m.ds = _; unfold WM.ds; rw [hop']; rfl
      rw [e1] at hop
      exact (List.cons.inj hop).2.symm
    have hmv : (m.hear u).sc = { m.sc with L := (doF m.sc.L u (m.sc.seen + 1)).1, ds := os, sent := if 0 < m.sc.sent then m.sc.sent - 1 else m.sc.sent, seen := m.sc.seen + 1 } := by
      have e : m.hear u = m.hearI u := by unfold WM.hear; exact if_pos hby
      rw [e]
      have e3 : (m.hearI u).ds = os := by show m.opn.tail.map (·.d) = os; rw [hop', hoe]; rfl
      have e4 : ((m.ns - 1 : Nat) : Int) = if 0 < (m.ns : Int) then (m.ns : Int) - 1 else (m.ns : Int) := by
        rw [if_pos (by omega)]; omega
      show (⟨m.me, ((m.seen + 1 : Nat) : Int), m.next, ap m.base u ((m.seen : Int) + 1), (m.hearI u).ds, ((m.ns - 1 : Nat) : Int)⟩ : ScV) = ⟨m.me, (m.seen : Int) + 1, m.next, (doF m.base u ((m.seen : Int) + 1)).1, os, if 0 < (m.ns : Int) then (m.ns : Int) - 1 else (m.ns : Int)⟩
      rw [doF_ap h2 (by omega), e3, e4]; simp
    rw [← hmv] at hA6
    obtain ⟨F4, q1, q2, q3⟩ := put w' F' _ hm6 hA6 hG6
    exact ⟨F4, q1, q2, q3⟩
end
section
variable {w : World} {base : Nat} {F : Nat → Prop} {g : Nat} {gw gs : Nat → Nat} {d : DkM} {bare : Bool}
set_option maxRecDepth 100000 in
set_option maxHeartbeats 2000000 in
theorem RStep_hear (h : RmAt w base F g gw gs d d.scs bare) (ho : d.Ok) (hs : d.Sm 1000) (x : RStep) (hx : x.ok) (hiw : isWriter x.W = true) {m : WM} (hw : d.writer x.W = some m) (hd : x.Do = 4) :
    Calls Try.prog 17 #[.pointer (some ⟨g, 0, none⟩), .agg #[.int .i64 x.Do, .int .i64 x.W, .int .i64 x.At, .int .i64 x.Many, .string x.Text]] w (RStepPost w base F g bare d x) := by
  have HDo := Lib.hid hd
  clear hd
  have HR := Lib.hid h
  have HXK := Lib.hid hx
  have hb0 := (Below.refl w.heap.size w).alloc (Nat.le_refl _) (.cells #[.int .i64 x.Do, .int .i64 x.W, .int .i64 x.At, .int .i64 x.Many, .string x.Text] 32)
  have HB0 := Lib.hid hb0
  have HR0 := Lib.hid (h.later hb0)
  have HX0 := Lib.hid (show RsC (w.alloc (.cells #[.int .i64 x.Do, .int .i64 x.W, .int .i64 x.At, .int .i64 x.Many, .string x.Text] 32)) w.heap.size 0 x by simp [RsC])
  have HO := Lib.hid ho
  have HSM := Lib.hid hs
  have HFX := Lib.hid (show ∀ k, F k → k < w.heap.size from fun k hk => (h.foot k hk).2)
  clear hb0 h ho hx hs
  go_enter Try.func17, Try.ntmps17
  go_upto_region 1 with fail
  generalize hw0 : w.alloc _ = w0
  have hw0' : w.alloc (.cells #[.int .i64 x.Do, .int .i64 x.W, .int .i64 x.At, .int .i64 x.Many, .string x.Text] 32) = w0 := hw0
  rw [hw0'] at HB0 HR0 HX0
  clear hw0 hw0'
  obtain ⟨X, hX⟩ : ∃ X, X = w.heap.size := ⟨_, rfl⟩
  rw [← hX] at HX0 HFX ⊢
  clear hX
  have hXl := HX0.out.lt
  obtain ⟨b0, b1, b2, b3, b4⟩ := HX0.out
  go_wp2_with fail
  refine (IsWriter_c x.W _).mono ?_
  rintro e w1 ⟨rfl, rfl⟩
  obtain ⟨j, hj, hxj⟩ := writer_natR hiw
  rw [hiw]
  have hcl := HR0.out.cells j hj
  obtain ⟨hcw, hcs⟩ := hcl
  have HWn := Lib.hid hw
  have hwj : d.W j = some m := by
    have e := HWn.out
    rw [hxj] at e
    unfold DkM.writer at e
    rw [if_pos (isWriter_nat hj)] at e
    simpa using e
  have HPT := Lib.hid (show d.ptrN gw j = .pointer (some ⟨(gw j), 0, none⟩) ∧ d.ptrN gs j = .pointer (some ⟨(gs j), 0, none⟩) from by unfold DkM.ptrN; rw [hwj]; exact ⟨rfl, rfl⟩)
  rw [HPT.out.1] at hcw
  rw [HPT.out.2] at hcs
  have HWJ := Lib.hid hwj
  have HXJ := Lib.hid hxj
  have HWN := Lib.hid (show d.writer (j : Int) = some m from by rw [← hxj]; exact HWn.out)
  rw [hxj] at b1
  have hj0 : (0 : Int) ≤ (j : Int) := by omega
  have hj4 : (j : Int) < 4 := by omega
  clear hwj hxj HPT hw
  go_upto_region 3 with fail
  go_quiet (fail)
  have hL1 : Later w1 (w1.drewN nq) := bl_drewN (Below.refl _ _) nq
  generalize w1.drewN nq = w2 at *
  have HR2 := Lib.hid (HR0.out.later hL1)
  have HX2 := Lib.hid (HX0.out.below hL1 HX0.out.lt)
  have HB2 := Lib.hid (HB0.out.trans (hL1.mono HB0.out.size))
  clear hL1 hcw hcs b0 b1 b2 b3 b4 HR0 HX0 HB0 hXl
  obtain ⟨b0, b1, b2, b3, b4⟩ := HX2.out
  rw [HXJ.out] at b1
  rw [HDo.out] at b0
  have HRO := Lib.hid (show d.room bare x = (d.hear m).1 from by
    have hd := HDo.out
    rw [room_is HO.out ⟨by omega, by omega, hiw, fun a => by have := a.2; omega⟩ HWn.out]
    rw [if_neg (by omega), if_neg (by omega), if_neg (by omega), if_neg (by omega), if_pos hd])
  have HOV := Lib.hid (over_hear HWn.out HDo.out)
  obtain ⟨FW, hFW, _, hwr, _⟩ := HR2.out.wrZ hj HWJ.out
  obtain ⟨gl, FL, hFL, c0, hlog, _⟩ := HR2.out.logZ
  have HWR := Lib.hid hwr
  have HLG := Lib.hid hlog
  obtain ⟨_, hme, _, t, hin⟩ := HO.out.of_writer HWN.out
  have HME := Lib.hid hme
  have hsl := hin.seen
  have hlen := HO.out.lm.len
  have hglt := HR2.out.lt
  have hsn : IntKind.i64.wrap ((m.seen : Int) + 1) = (m.seen : Int) + 1 := by rw [IntKind.wrap_i64]; omega
  have hvs : m.v.seen = (m.seen : Int) := rfl
  clear hwr hlog hFW hFL hin hme t HDo
  go_upto_region 31 with fail
  go_cut [25, 26] (fun s7 s8 wx => ∃ (Y : Nat) (dd : Dd) (b : Bool), s7 = (.pointer (some ⟨Y, 0, none⟩)) ∧ s8 = .bool b ∧ Hid (DdAt wx Y dd) ∧ Hid (w2.heap.size ≤ Y) ∧ Hid (Below w2.heap.size w2 wx) ∧
    Hid (b = false ∧ m.seen = d.lm.L.length ∨ b = true ∧ ∃ (hk : m.seen < d.lm.L.length), dd = d.lm.L[m.seen]))
  case first =>
    have hB : w2.heap.size ≤ w2.heap.size := Nat.le_refl _
    have C0 := MB.cellB (B := w2.heap.size) c0 hglt
    refine MB.wp_region_mixb w2.heap.size [7, 11, 12] [] (.ops [0, 1, 2, 3, 4, 5, 6] (.fork 7 (.ops [8, 9, 10, 11, 12, 13] .nil) 11 (.ops [7, 8, 9, 10, 12, 13] .nil))) (by kernel_rfl) (by kernel_rfl) ?_
    iterate 5 (refine MB.wpMixF_step hB rfl (fun K hK => ?_); go_simp; refine hK _ _ ?_; clear hK K)
    refine MB.wpMixF_step hB rfl (fun K hK => ?_)
    go_simp
    refine ⟨_, fun p => MB.quiet_same (WSeen_c (HWR.out.later p.h)), hK _ _ ?_⟩
    rw [hvs]
    clear hK K
    (refine MB.wpMixF_step hB rfl (fun K hK => ?_); go_simp; refine hK _ _ ?_; clear hK K)
    refine MB.wpMixF_fork ?_ ?_
    · refine MB.wpCut_step rfl (fun K hK => ?_)
      go_simp
      intro p
      refine (Deed_gR (HLG.out.later p.h) ((m.seen : Int) + 1)).mono ?_
      rintro e v2 ⟨dd, b, rfl, hbv2, h2⟩
      refine ⟨_, rfl, MB.Eff.of hbv2, hK _ _ ?_⟩
      clear hK K
      have hv2 : Below w2.heap.size w2 v2 := Below.trans p.h (hbv2.mono p.h.size)
      have hB : w2.heap.size ≤ v2.heap.size := hv2.size
      have H2 := Lib.hid h2
      clear hbv2 p C0 h2
      iterate 3 (refine MB.wpMixF_step hB rfl (fun K hK => ?_); go_simp; refine hK _ _ ?_; clear hK K)
      refine MB.wpMixF_step hB rfl (fun K hK => ?_)
      go_simp
      intro p
      have hbp := (Below.refl p.v.heap.size p.v).alloc (Nat.le_refl _) (.cells #[.int .i64 0, .int .i64 0, .int .i64 0, .int .i64 0, .int .i64 0, .int .i64 0, .string ⟨#[]⟩] 24)
      refine ⟨MB.Eff.of hbp, hK _ _ ?_⟩
      clear hK K
      have HX := Lib.hid (show DdAt (p.v.alloc (.cells #[.int .i64 0, .int .i64 0, .int .i64 0, .int .i64 0, .int .i64 0, .int .i64 0, .string ⟨#[]⟩] 24)) p.v.heap.size zD from DdAt.new p.v zD)
      have HFX := Lib.hid (show ∀ j, j < 7 → (p.v.alloc (.cells #[.int .i64 0, .int .i64 0, .int .i64 0, .int .i64 0, .int .i64 0, .int .i64 0, .string ⟨#[]⟩] 24)).frozen? ⟨p.v.heap.size, j, none⟩ = false from fun j _ => by simp)
      have hw3 : Below w2.heap.size w2 (p.v.alloc (.cells #[.int .i64 0, .int .i64 0, .int .i64 0, .int .i64 0, .int .i64 0, .int .i64 0, .string ⟨#[]⟩] 24)) := (hv2.trans (Below.mono p.h hB)).trans (hbp.mono (Nat.le_trans hB p.h.size))
      have HYW := Lib.hid (show w2.heap.size ≤ p.v.heap.size from Nat.le_trans hB p.h.size)
      generalize p.v.alloc (.cells #[.int .i64 0, .int .i64 0, .int .i64 0, .int .i64 0, .int .i64 0, .int .i64 0, .string ⟨#[]⟩] 24) = w3 at *
      generalize p.v.heap.size = Y at *
      clear hbp p hB hv2
      have hB : w2.heap.size ≤ w3.heap.size := hw3.size
      refine MB.wpMixF_step hB rfl (fun K hK => ?_)
      go_simp
      intro p
      have hXp := HX.out.later p.h
      obtain ⟨dlt, d0, d1, d2, d3, d4, d5, d6⟩ := hXp
      have f0 := (Below.frozen p.h (p := ⟨Y, 0, none⟩) HX.out.lt).trans (HFX.out 0 (by omega))
      have f1 := (Below.frozen p.h (p := ⟨Y, 1, none⟩) HX.out.lt).trans (HFX.out 1 (by omega))
      have f2 := (Below.frozen p.h (p := ⟨Y, 2, none⟩) HX.out.lt).trans (HFX.out 2 (by omega))
      have f3 := (Below.frozen p.h (p := ⟨Y, 3, none⟩) HX.out.lt).trans (HFX.out 3 (by omega))
      have f4 := (Below.frozen p.h (p := ⟨Y, 4, none⟩) HX.out.lt).trans (HFX.out 4 (by omega))
      have f5 := (Below.frozen p.h (p := ⟨Y, 5, none⟩) HX.out.lt).trans (HFX.out 5 (by omega))
      have f6 := (Below.frozen p.h (p := ⟨Y, 6, none⟩) HX.out.lt).trans (HFX.out 6 (by omega))
      go_simp
      change MB.Eff _ _ (putDd p.v Y dd) ∧ K _ (putDd p.v Y dd)
      have hbp := putDd_below dd (Below.refl Y p.v) (Nat.le_refl _)
      refine ⟨fun _ => hbp.mono HYW.out, hK _ _ ?_⟩
      clear hK K
      have HX4 := Lib.hid ((HX.out.later p.h).putAll dd)
      have hw4 : Below w2.heap.size w2 (putDd p.v Y dd) := (hw3.trans (Below.mono p.h hB)).trans (hbp.mono HYW.out)
      generalize putDd p.v Y dd = w4 at *
      clear d0 d1 d2 d3 d4 d5 d6 dlt f0 f1 f2 f3 f4 f5 f6 hbp p hw3 HX HFX hB
      have hB : w2.heap.size ≤ w4.heap.size := hw4.size
      (refine MB.wpMixF_step hB rfl (fun K hK => ?_); go_simp; refine hK _ _ ?_; clear hK K)
      refine MB.wpMixF_nil ?_
      intro w5 hL5
      have HX5 := Lib.hid (HX4.out.later hL5)
      have hw5 := Lib.hid (hw4.trans (Below.mono hL5 hB))
      have HC5 := Lib.hid (show b = false ∧ m.seen = d.lm.L.length ∨ b = true ∧ ∃ (hk : m.seen < d.lm.L.length), dd = d.lm.L[m.seen] from by
        rcases H2.out with ⟨e1, _, e2⟩ | ⟨e1, k, hk, e2, e3⟩
        · exact .inl ⟨e1, by omega⟩
        · obtain rfl : k = m.seen := by omega
          exact .inr ⟨e1, hk, e3⟩)
      clear hL5 HX4 hw4 hB H2
      go_wp2
      go_meet
      exact ⟨Y, dd, b, rfl, rfl, HX5, HYW, hw5, HC5⟩
    · have hw0 : Below w2.heap.size w2 w2 := Below.refl _ _
      refine MB.wpCut_step rfl (fun K hK => ?_)
      go_simp
      intro p
      have hbp := (Below.refl p.v.heap.size p.v).alloc (Nat.le_refl _) (.cells #[.int .i64 0, .int .i64 0, .int .i64 0, .int .i64 0, .int .i64 0, .int .i64 0, .string ⟨#[]⟩] 24)
      refine ⟨MB.Eff.of hbp, hK _ _ ?_⟩
      clear hK K
      have HX := Lib.hid (show DdAt (p.v.alloc (.cells #[.int .i64 0, .int .i64 0, .int .i64 0, .int .i64 0, .int .i64 0, .int .i64 0, .string ⟨#[]⟩] 24)) p.v.heap.size zD from DdAt.new p.v zD)
      have HFX := Lib.hid (show ∀ j, j < 7 → (p.v.alloc (.cells #[.int .i64 0, .int .i64 0, .int .i64 0, .int .i64 0, .int .i64 0, .int .i64 0, .string ⟨#[]⟩] 24)).frozen? ⟨p.v.heap.size, j, none⟩ = false from fun j _ => by simp)
      have hw3 : Below w2.heap.size w2 (p.v.alloc (.cells #[.int .i64 0, .int .i64 0, .int .i64 0, .int .i64 0, .int .i64 0, .int .i64 0, .string ⟨#[]⟩] 24)) := (hw0.trans (Below.mono p.h hB)).trans (hbp.mono (Nat.le_trans hB p.h.size))
      have HYW := Lib.hid (show w2.heap.size ≤ p.v.heap.size from Nat.le_trans hB p.h.size)
      generalize p.v.alloc (.cells #[.int .i64 0, .int .i64 0, .int .i64 0, .int .i64 0, .int .i64 0, .int .i64 0, .string ⟨#[]⟩] 24) = w3 at *
      generalize p.v.heap.size = Y at *
      clear hbp p hB hw0
      have hB : w2.heap.size ≤ w3.heap.size := hw3.size
      refine MB.wpMixF_step hB rfl (fun K hK => ?_)
      go_simp
      intro p
      refine (Deed_gR (HLG.out.later (hw3.trans (Below.mono p.h hB))) ((m.seen : Int) + 1)).mono ?_
      rintro e v2 ⟨dd, b, rfl, hbv2, h2⟩
      refine ⟨_, rfl, MB.Eff.of hbv2, hK _ _ ?_⟩
      clear hK K
      have hl2 : Below w3.heap.size w3 v2 := Below.trans p.h (hbv2.mono p.h.size)
      have hv2 : Below w2.heap.size w2 v2 := hw3.trans (hl2.mono hB)
      have HX2 := Lib.hid (HX.out.later hl2)
      have HFX2 := Lib.hid (fun j (hj : j < 7) => (Below.frozen hl2 (p := ⟨Y, j, none⟩) HX.out.lt).trans (HFX.out j hj))
      have H2 := Lib.hid h2
      clear hbv2 p C0 h2 hl2 hB HX HFX hw3
      have HX := HX2; have HFX := HFX2; have hw3 := hv2
      clear HX2 HFX2 hv2
      have hB : w2.heap.size ≤ v2.heap.size := hw3.size
      iterate 3 (refine MB.wpMixF_step hB rfl (fun K hK => ?_); go_simp; refine hK _ _ ?_; clear hK K)
      refine MB.wpMixF_step hB rfl (fun K hK => ?_)
      go_simp
      intro p
      have hXp := HX.out.later p.h
      obtain ⟨dlt, d0, d1, d2, d3, d4, d5, d6⟩ := hXp
      have f0 := (Below.frozen p.h (p := ⟨Y, 0, none⟩) HX.out.lt).trans (HFX.out 0 (by omega))
      have f1 := (Below.frozen p.h (p := ⟨Y, 1, none⟩) HX.out.lt).trans (HFX.out 1 (by omega))
      have f2 := (Below.frozen p.h (p := ⟨Y, 2, none⟩) HX.out.lt).trans (HFX.out 2 (by omega))
      have f3 := (Below.frozen p.h (p := ⟨Y, 3, none⟩) HX.out.lt).trans (HFX.out 3 (by omega))
      have f4 := (Below.frozen p.h (p := ⟨Y, 4, none⟩) HX.out.lt).trans (HFX.out 4 (by omega))
      have f5 := (Below.frozen p.h (p := ⟨Y, 5, none⟩) HX.out.lt).trans (HFX.out 5 (by omega))
      have f6 := (Below.frozen p.h (p := ⟨Y, 6, none⟩) HX.out.lt).trans (HFX.out 6 (by omega))
      go_simp
      change MB.Eff _ _ (putDd p.v Y dd) ∧ K _ (putDd p.v Y dd)
      have hbp := putDd_below dd (Below.refl Y p.v) (Nat.le_refl _)
      refine ⟨fun _ => hbp.mono HYW.out, hK _ _ ?_⟩
      clear hK K
      have HX4 := Lib.hid ((HX.out.later p.h).putAll dd)
      have hw4 : Below w2.heap.size w2 (putDd p.v Y dd) := (hw3.trans (Below.mono p.h hB)).trans (hbp.mono HYW.out)
      generalize putDd p.v Y dd = w4 at *
      clear d0 d1 d2 d3 d4 d5 d6 dlt f0 f1 f2 f3 f4 f5 f6 hbp p hw3 HX HFX hB
      have hB : w2.heap.size ≤ w4.heap.size := hw4.size
      (refine MB.wpMixF_step hB rfl (fun K hK => ?_); go_simp; refine hK _ _ ?_; clear hK K)
      refine MB.wpMixF_nil ?_
      intro w5 hL5
      have HX5 := Lib.hid (HX4.out.later hL5)
      have hw5 := Lib.hid (hw4.trans (Below.mono hL5 hB))
      have HC5 := Lib.hid (show b = false ∧ m.seen = d.lm.L.length ∨ b = true ∧ ∃ (hk : m.seen < d.lm.L.length), dd = d.lm.L[m.seen] from by
        rcases H2.out with ⟨e1, _, e2⟩ | ⟨e1, k, hk, e2, e3⟩
        · exact .inl ⟨e1, by omega⟩
        · obtain rfl : k = m.seen := by omega
          exact .inr ⟨e1, hk, e3⟩)
      clear hL5 HX4 hw4 hB H2
      go_wp2
      go_meet
      exact ⟨Y, dd, b, rfl, rfl, HX5, HYW, hw5, HC5⟩
  case rest =>
    obtain ⟨Y, dd, b, rfl, rfl, HY, HYW, hwx, HC⟩ := hcut
    have HRx := Lib.hid (HR2.out.later hwx.out)
    have HXx := Lib.hid (HX2.out.below hwx.out HX2.out.lt)
    have HMx := Lib.hid (Moves.of_below (F := F) hwx.out)
    clear b0 b1 b2 b3 b4 c0
    obtain ⟨b0, b1, b2, b3, b4⟩ := HXx.out
    rw [HXJ.out] at b1
    rcases HC.out with ⟨rfl, hse⟩ | ⟨rfl, hlt, hdd⟩
    · have hse2 : d.hear m = (d, 5) := by unfold DkM.hear; rw [List.getElem?_eq_none (by omega)]
      have HFIN := Lib.hid (RStepPost.done (x := x) HR.out (show d.over x = false from by rw [HOV.out, hse2]; simp) (by
        rw [HRO.out, hse2]
        exact RmPost.of HB2.out (RmS.start HR2.out hwx.out) rfl))
      clear hse hse2
      go_wp2
      go_ret2
      exact HFIN.out
    · have HU := Lib.hid hdd
      have HLT := Lib.hid hlt
      have HHE := Lib.hid (HO.out.hear HWN.out).2
      have HHD := Lib.hid (show d.hear m = if dd.By ≠ m.me ∧ mayDo m.chars dd ≠ 0 then (d.drop m.me, mayDo m.chars dd) else (d.set (d.lm.saysF m.me (m.hear dd).least).1 m.me (some (m.hear dd)), 0) from by
        unfold DkM.hear; rw [List.getElem?_eq_getElem hlt, ← hdd])
      have HWH := Lib.hid (RHear_c HRx.out HO.out HSM.out hj HWN.out hlt dd hdd)
      have HSH := Lib.hid (fun (w' : World) (F' : Nat → Prop) (d' : DkM) (h' : RmAt w' base F' g gw gs d' d.scs bare) => RSHear_c h' HO.out HSM.out hj HWN.out (show d.scs j = some m.sc from by unfold DkM.scs; rw [HWJ.out]; rfl) hlt dd hdd)
      obtain ⟨c, hc⟩ : ∃ c, c = hearC m dd := ⟨_, rfl⟩
      have HCE := Lib.hid hc
      rw [← hc] at HWH
      simp only [← hc] at HSH
      obtain ⟨m', hm'⟩ : ∃ m', m' = hearM m dd := ⟨_, rfl⟩
      have HME2 := Lib.hid hm'
      rw [← hm'] at HWH
      simp only [← hm'] at HSH
      clear hdd hc hm'
      obtain ⟨_, d0, d1, d2, d3, d4, d5, d6⟩ := HY.out
      go_wp2_with fail
      refine HWH.out.mono ?_
      rintro e w3 ⟨rfl, F3, h3, m3, g3⟩
      have HR3 := Lib.hid h3; have HM3 := Lib.hid (HMx.out.trans m3 (fun _ _ k => k))
      have HG3 := Lib.hid (show Grows F w2 F3 from fun k hk => by
        rcases g3 k hk with h | h
        · exact .inl h
        · exact .inr (Nat.le_trans hwx.out.size h))
      have HYF := Lib.hid (show ∀ k, F k → k ≠ Y from fun k hk e => by have := HFX.out k hk; have := HYW.out; have := HX2.out.lt; omega)
      have HY3 := Lib.hid (HY.out.of_block m3.size (m3.block Y HY.out.lt fun e => HYF.out Y e rfl))
      have HX3 := Lib.hid (HXx.out.of_block (m3.block X HXx.out.lt fun e => by have := HFX.out X e; omega))
      clear h3 m3 g3 b0 b1 b2 b3 b4 d0 d1 d2 d3 d4 d5 d6 HWH HY HXx HRx HMx hwx
      obtain ⟨b0, b1, b2, b3, b4⟩ := HX3.out
      rw [HXJ.out] at b1
      obtain ⟨_, d0, d1, d2, d3, d4, d5, d6⟩ := HY3.out
      go_wp2_with fail
      refine (HSH.out _ _ _ HR3.out).mono ?_
      rintro e w5 ⟨rfl, F5, h5, m5, g5⟩
      have HR5 := Lib.hid h5
      have HM5 := Lib.hid (MovesR.transG HM3.out HG3.out m5)
      have HG5 := Lib.hid (GrowsR.trans HG3.out HM3.out.size g5)
      have HX5 := Lib.hid (HX2.out.of_block (HM5.out.block X HX2.out.lt fun e => by have := HFX.out X e; omega))
      clear h5 m5 g5 b0 b1 b2 b3 b4 d0 d1 d2 d3 d4 d5 d6 HSH HY3 HX3 HR3 HM3 HG3 HYF
      obtain ⟨b0, b1, b2, b3, b4⟩ := HX5.out
      rw [HXJ.out] at b1
      by_cases hc0 : c = 0
      · have hno : ¬ (dd.By ≠ m.me ∧ mayDo m.chars dd ≠ 0) := by
          intro h
          have := HCE.out
          unfold hearC at this
          rw [if_neg h.1] at this
          exact h.2 (by rw [← this]; exact hc0)
        have HMM := Lib.hid (show m' = m.hear dd from by rw [HME2.out]; unfold hearM; exact if_neg hno)
        have HHS := Lib.hid (show d.hear m = (d.set (d.lm.saysF m.me (m.hear dd).least).1 m.me (some (m.hear dd)), 0) from by rw [HHD.out, if_neg hno])
        have HSY := Lib.hid (show (d.lm.saysF m.me (m.hear dd).least).2 = 0 from by
          rcases HHE.out with ⟨_, hl, _, ⟨t', hin'⟩, _⟩ | ⟨e, _⟩ | ⟨e, _⟩
          · rw [← HU.out] at hin'
            have h1 := hin'.says.1
            rw [(WM.hear_seen m dd).2] at h1; exact h1
          · rw [HHS.out] at e; cases e
          · rw [HHS.out] at e; cases e)
        subst hc0
        obtain ⟨FW5, _, _, hw5, _⟩ := HR5.out.wrZ hj (show (d.setW j (some m')).W j = some m' from by unfold DkM.setW; simp)
        have HW5 := Lib.hid hw5
        have HO5 := Lib.hid (show m'.v.os.length ≤ 1000000 from by
          rw [HMM.out]
          have h1 := WM.hear_opn m dd
          have h2 : m.opn.length ≤ 1000 := HSM.out.writer HWN.out
          show (m.hear dd).opn.length ≤ 1000000
          omega)
        obtain ⟨gl5, FL5, _, c5, hlog5, put5⟩ := HR5.out.logZ
        have HL5 := Lib.hid (show LogAt w5 base FL5 gl5 d.lm from hlog5)
        have HP5 := Lib.hid put5
        have C05 := later_cell c5
        have B0 := later_cell b0
        have B1 := later_cell b1
        have B2 := later_cell b2
        have B3 := later_cell b3
        have B4 := later_cell b4
        clear hw5 c5 hlog5 put5 b0 b1 b2 b3 b4 hno
        have hL5 : ∀ q : Lt w5, Later w5 q.v := fun q => q.h
        go_upto_region 38 with fail
        refine wp_region_mixh [] [8] [0, 1, 2, 3, 4, 5, 6, 7, 8, 9, 10, 11] (by kernel_rfl) (by kernel_rfl) ?_
        iterate 7 (refine wpMixH_step rfl (fun K hK => ?_); go_simp; refine hK _ _ ?_; clear hK K)
        refine wpMixH_step rfl (fun K hK => ?_)
        go_simp
        refine ⟨_, fun p => quietM p (WLeast_c (HW5.out.later (hL5 p)) HO5.out), hK _ _ ?_⟩
        clear hK K
        refine wpMixH_step rfl (fun K hK => ?_)
        go_simp
        intro p
        rw [WM.v_least]
        refine (Says_c (HL5.out.later (hL5 p)) (j : Int) m'.least).mono ?_
        rintro e w7 ⟨rfl, hL7, hM7⟩
        refine ⟨_, rfl, hK _ _ ?_⟩
        clear hK K
        obtain ⟨F8, q1, q2, q3⟩ := HP5.out w7 FL5 _ ((Moves.of_below (F := FL5) (hL5 p)).trans hM7 (fun _ _ k => k)) hL7 (fun k hk => .inl hk)
        have HS7 := Lib.hid (show RmS w2 base F g gw gs bare ((d.setW j (some m')).setL (d.lm.saysF (j : Int) m'.least).1) (setN d.scs j (some m'.sc)) w7 from ⟨F8, q1, MovesR.transG HM5.out HG5.out q2, GrowsR.trans HG5.out HM5.out.size q3⟩)
        clear q1 q2 q3 hL7 hM7 p hL5 C05 HL5 HP5 HR5 HM5 HG5 B0 B1 B2 B3 B4 HW5
        have hsy : (d.lm.saysF (j : Int) m'.least).2 = 0 := by rw [HMM.out, ← HME.out]; exact HSY.out
        rw [hsy]
        iterate 3 (refine wpMixH_step rfl (fun K hK => ?_); go_simp; refine hK _ _ ?_; clear hK K)
        refine wpMixH_nil ?_
        intro w8 hL8
        have HFIN := Lib.hid (RStepPost.done (x := x) HR.out (show d.over x = false from by rw [HOV.out, HHS.out]; simp) (by
          rw [HRO.out, HHS.out, DkM.set_eq, HME.out, Int.toNat_natCast, ← HMM.out]
          exact RmPost.of HB2.out (HS7.out.later hL8) (scs_setW (d.setL (d.lm.saysF (j : Int) m'.least).1) j m').symm))
        clear hL8 HS7 hsy
        go_wp2
        go_ret2
        exact HFIN.out
      · have hyes : dd.By ≠ m.me ∧ mayDo m.chars dd ≠ 0 := by
          have h := HCE.out
          unfold hearC at h
          by_cases hb : dd.By = m.me
          · rw [if_pos hb] at h; exact absurd h hc0
          · rw [if_neg hb] at h; exact ⟨hb, fun h0 => hc0 (by rw [h]; exact h0)⟩
        have HHS : d.hear m = (d.drop m.me, mayDo m.chars dd) := by rw [HHD.out, if_pos hyes]
        have h9 : mayDo m.chars dd = 9 := by
          rcases HHE.out with ⟨e, _⟩ | ⟨e, he, _⟩ | ⟨e, _⟩
          · rw [HHS] at e; exact absurd e hyes.2
          · have := HLT.out; omega
          · rw [HHS] at e; exact e
        have hc9 : c = 9 := by
          have h := HCE.out
          unfold hearC at h
          rw [if_neg hyes.1, h9] at h; exact h
        have hov : d.over x = true := by rw [HOV.out, HHS, h9, hiw]; rfl
        have HFIN := Lib.hid (show RStepPost w base F g bare d x (.returned (.tuple #[.bool true, .bool true])) w5 from ⟨by rw [hov], fun h => (by rw [hov] at h; cases h), RmS.belowB HR.out HB2.out ⟨F5, HR5.out, HM5.out, HG5.out⟩⟩)
        subst hc9
        clear hc0 hyes HHS h9 hov
        go_wp2
        go_ret2
        exact HFIN.out
end
end Go.Proofs.Ytneoeokfffnonac
