/- What the parts of a town do: its Scribes, its book, who goes. -/
import Derived.Test.YtneoeokfffnonacGreatTnObj
import Derived.Test.YtneoeokfffnonacGreatScrDoW
import Derived.Test.YtneoeokfffnonacGreatScrT
import Derived.Test.YtneoeokfffnonacGreatBookW3
import Derived.Test.YtneoeokfffnonacGreatDkW
import Derived.Test.YtneoeokfffnonacGreatMixH
set_option linter.unusedVariables false
set_option linter.unusedSimpArgs false
namespace Go.Proofs.YtneoeokfffnonacGreat
open Go.RowKit
section
variable {w : World} {base : Nat} {F : Nat → Prop} {g : Nat} {gw : Nat → Nat} {d : DkM}
/-- The town, further on. -/
def TnS (w : World) (base : Nat) (F : Nat → Prop) (g : Nat) (gw : Nat → Nat) (d : DkM) (w' : World) : Prop := ∃ F', TnAt w' base F' g gw d ∧ Moves F w w' ∧ Grows F w F'
theorem TnS.start {w' : World} (h : TnAt w base F g gw d) (hb : Below w.heap.size w w') : TnS w base F g gw d w' := ⟨F, h.later hb, Moves.of_below hb, fun _ hk => .inl hk⟩
theorem TnS.later {w1 w2 : World} (h : TnS w base F g gw d w1) (hb : Below w1.heap.size w1 w2) : TnS w base F g gw d w2 := by
  obtain ⟨F', h1, h2, h3⟩ := h
  exact ⟨F', h1.later hb, h2.trans (Moves.of_below (F := F) hb) (fun _ _ k => k), h3⟩
theorem TnS.trans {d1 d2 : DkM} {w1 w2 : World} (h : TnS w base F g gw d1 w1) (k : ∀ F1, TnAt w1 base F1 g gw d1 → TnS w1 base F1 g gw d2 w2) : TnS w base F g gw d2 w2 := by
  obtain ⟨F1, h1, h2, h3⟩ := h
  obtain ⟨F2, k1, k2, k3⟩ := k F1 h1
  exact ⟨F2, k1, h2.transG h3 k2, h3.trans h2.size k3⟩
theorem TnS.congr {d1 d2 : DkM} {w1 : World} (h : TnS w base F g gw d1 w1) (hd : d1 = d2) : TnS w base F g gw d2 w1 := hd ▸ h
/-- What a step of the town leaves behind; who comes has a new place. -/
def TPost (w : World) (base : Nat) (F : Nat → Prop) (g : Nat) (d : DkM) (w' : World) : Prop := ∃ F' gw, TnAt w' base F' g gw d ∧ Moves F w w' ∧ Grows F w F'
theorem TnS.post {w' : World} (h : TnS w base F g gw d w') : TPost w base F g d w' := by
  obtain ⟨F', h1, h2, h3⟩ := h
  exact ⟨F', gw, h1, h2, h3⟩
theorem TPost.after {w0 w' : World} (hb : Below w.heap.size w w0) (h : TPost w0 base F g d w') : TPost w base F g d w' := by
  obtain ⟨F', gw', h1, h2, h3⟩ := h
  refine ⟨F', gw', h1, (Moves.of_below (F := F) hb).trans h2 (fun _ _ k => k), fun k hk => ?_⟩
  rcases h3 k hk with h | h
  · exact .inl h
  · exact .inr (Nat.le_trans hb.size h)
theorem TPost.later {w1 w2 : World} (h : TPost w base F g d w1) (hb : Below w1.heap.size w1 w2) : TPost w base F g d w2 := by
  obtain ⟨F', gw', h1, h2, h3⟩ := h
  exact ⟨F', gw', h1.later hb, h2.trans (Moves.of_below (F := F) hb) (fun _ _ k => k), h3⟩

/-- What a Scribe hands back, and what it is then. -/
def putRT (m : WM) (u : Dd) : Dd := if mayDo m.chars u = 0 then u else zD
def putMT (m : WM) (u : Dd) : WM := if mayDo m.chars u = 0 then m.doF u else m
theorem put_eqT (d : DkM) {j : Nat} {m : WM} (hW : d.W j = some m) (hm : m.me = (j : Int)) (u : Dd) : d.put m u = (d.setW j (some (putMT m u)), mayDo m.chars u) := by
  unfold DkM.put putMT
  by_cases h : mayDo m.chars u = 0
  · rw [if_pos h, if_pos h, h, hm, DkM.set_eq, Int.toNat_natCast]; rfl
  · rw [if_neg h, if_neg h, DkM.setW_same hW]
theorem TSDo_c (h : TnAt w base F g gw d) (ho : d.Ok) (hs : d.Sm 1000) {j : Nat} (hj : j < 4) {m : WM} (hw : d.writer (j : Int) = some m) (k a n : Int) (t : ByteArray) (ht : t.size ≤ maxLen) :
    Calls Tryz.prog 30 #[.pointer (some ⟨(gw j), 0, none⟩), .agg #[.int .i64 k, .int .i64 0, .int .i64 0, .int .i64 0, .int .i64 a, .int .i64 n, .string t]] w fun en w' => en = .returned (.tuple #[.agg #[.int .i64 (putRT m (m.deed k a n t)).Kind, .int .i64 (putRT m (m.deed k a n t)).By, .int .i64 (putRT m (m.deed k a n t)).No, .int .i64 (putRT m (m.deed k a n t)).Seen, .int .i64 (putRT m (m.deed k a n t)).At, .int .i64 (putRT m (m.deed k a n t)).Many, .string (putRT m (m.deed k a n t)).Text], .int .i64 (mayDo m.chars (m.deed k a n t))]) ∧ TnS w base F g gw (d.setW j (some (putMT m (m.deed k a n t)))) w' := by
  obtain ⟨hx, hme, hW, tt, hin⟩ := ho.of_writer hw
  rw [Int.toNat_natCast] at hW
  obtain ⟨FSk, hFS, _, hsc, put⟩ := h.wrZ hj hW
  have hos : m.opn.length ≤ 1000 := hs.writer hw
  obtain ⟨hn1, hn2⟩ := hin.next_le ho.lm 1000 hos
  refine (SDo_c hsc hin.chain (hin.base_gone ho.lm) (by have := hin.base_len ho.lm; show m.base.length ≤ 1000; omega) (by show m.ds.length ≤ 1000000; unfold WM.ds; rw [List.length_map]; omega) ⟨k, 0, 0, 0, a, n, t⟩ ht (by show 0 ≤ m.next ∧ m.next ≤ 1000000; omega)).mono ?_
  intro en w' hp
  unfold putRT putMT
  rcases hp with ⟨h1, rfl, h3, h4⟩ | ⟨h1, rfl, F3, h3, h4, h5⟩
  · have h1' : ¬ mayDo m.chars (m.deed k a n t) = 0 := h1
    obtain ⟨q1, q2, q3⟩ := put w' FSk m h4 h3 (fun k hk => .inl hk)
    rw [if_neg h1', if_neg h1']
    exact ⟨rfl, _, q1, q2, q3⟩
  · have h1' : mayDo m.chars (m.deed k a n t) = 0 := h1
    have e2 : ({ m.sc with ds := m.sc.ds ++ [m.sc.deed ⟨k, 0, 0, 0, a, n, t⟩], next := m.sc.next + 1 } : ScV) = (m.doF (m.deed k a n t)).sc := by
      unfold WM.sc WM.doF WM.ds
      simp only [List.map_append, List.map_cons, List.map_nil]
      rfl
    rw [e2] at h3
    obtain ⟨q1, q2, q3⟩ := put w' F3 _ h4 h3 h5
    rw [if_pos h1', if_pos h1', h1']
    exact ⟨rfl, _, q1, q2, q3⟩
/-- What a Scribe sends. -/
def sendRT (m : WM) : Dd := match m.unsent with
  | [] => zD
  | u :: _ => u
def sendBT (m : WM) : Bool := match m.unsent with
  | [] => false
  | _ :: _ => true
def sendMT (m : WM) : WM := match m.unsent with
  | [] => m
  | _ :: _ => m.sendF
theorem unsent_nilT {m : WM} (h : m.opn.length ≤ m.ns) : m.unsent = [] := List.drop_eq_nil_of_le (by show m.ds.length ≤ m.ns; unfold WM.ds; rw [List.length_map]; exact h)
theorem unsent_consT {m : WM} (h : m.ns < m.opn.length) : ∃ us, m.unsent = (m.opn[m.ns]'h).d :: us := by
  have hltd : m.ns < m.ds.length := by unfold WM.ds; rw [List.length_map]; exact h
  refine ⟨m.ds.drop (m.ns + 1), ?_⟩
  unfold WM.unsent; rw [List.drop_eq_getElem_cons hltd]
  congr 1
  simp [WM.ds]
theorem TSSend_c (h : TnAt w base F g gw d) (ho : d.Ok) (hs : d.Sm 1000) {j : Nat} (hj : j < 4) {m : WM} (hw : d.writer (j : Int) = some m) :
    Calls Tryz.prog 31 #[.pointer (some ⟨(gw j), 0, none⟩)] w fun en w' => en = .returned (.tuple #[.agg #[.int .i64 (sendRT m).Kind, .int .i64 (sendRT m).By, .int .i64 (sendRT m).No, .int .i64 (sendRT m).Seen, .int .i64 (sendRT m).At, .int .i64 (sendRT m).Many, .string (sendRT m).Text], .bool (sendBT m)]) ∧ TnS w base F g gw (d.setW j (some (sendMT m))) w' := by
  obtain ⟨hx, hme, hW, tt, hin⟩ := ho.of_writer hw
  rw [Int.toNat_natCast] at hW
  obtain ⟨FSk, hFS, _, hsc, put⟩ := h.wrZ hj hW
  have hos : m.opn.length ≤ 1000 := hs.writer hw
  have hdl : m.sc.ds.length = m.opn.length := by show m.ds.length = _; unfold WM.ds; rw [List.length_map]
  refine (SSend_c hsc m.ns rfl (by omega) (by rw [hdl]; exact hin.ns)).mono ?_
  rintro en w' ⟨hB1, hM1, hcase⟩
  unfold sendRT sendBT sendMT
  rcases hcase with ⟨hle, rfl, hA1⟩ | ⟨hlt, rfl, hA1⟩
  · rw [unsent_nilT (by omega)]
    obtain ⟨q1, q2, q3⟩ := put w' FSk m hM1 hA1 (fun k hk => .inl hk)
    exact ⟨rfl, _, q1, q2, q3⟩
  · obtain ⟨us, hus⟩ := unsent_consT (m := m) (by omega)
    rw [hus]
    have e2 : m.sc.ds[m.ns] = (m.opn[m.ns]'(by omega)).d := by simp [WM.sc, WM.ds]
    rw [e2]
    obtain ⟨q1, q2, q3⟩ := put w' FSk m.sendF hM1 hA1 (fun k hk => .inl hk)
    exact ⟨rfl, _, q1, q2, q3⟩
/-- What a Scribe hears. -/
def hearCT (m : WM) (u : Dd) : Int := if u.By = m.me then 0 else mayDo m.chars u
def hearMT (m : WM) (u : Dd) : WM := if u.By ≠ m.me ∧ mayDo m.chars u ≠ 0 then m else m.hear u
theorem TSHear_c (h : TnAt w base F g gw d) (ho : d.Ok) (hs : d.Sm 1000) {j : Nat} (hj : j < 4) {m : WM} (hw : d.writer (j : Int) = some m) (hlt : m.seen < d.lm.L.length) (u : Dd) (hu : u = d.lm.L[m.seen]) :
    Calls Tryz.prog 34 #[.pointer (some ⟨(gw j), 0, none⟩), .agg #[.int .i64 u.Kind, .int .i64 u.By, .int .i64 u.No, .int .i64 u.Seen, .int .i64 u.At, .int .i64 u.Many, .string u.Text]] w fun en w' => en = .returned (.int .i64 (hearCT m u)) ∧ TnS w base F g gw (d.setW j (some (hearMT m u))) w' := by
  obtain ⟨hx, hme, hW, tt, hin⟩ := ho.of_writer hw
  rw [Int.toNat_natCast] at hW
  obtain ⟨FSk, hFS, _, hsc, put⟩ := h.wrZ hj hW
  have hos : m.opn.length ≤ 1000 := hs.writer hw
  have hsl := hin.seen
  have hlen := ho.lm.len
  have hnsl := hin.ns
  have hdk := ho.lm.deeds m.seen hlt
  have hf := fault_ok hdk.f
  have hoo := fun hb h0 => hin.hearO ho.lm hlt hb h0
  have hoi := fun hb => hin.own_head hlt hb
  have hoj := fun hb o os hop => hin.hearI ho.lm hlt hb o os hop
  rw [← hu] at hf hoo hoi hoj
  have hdl : m.sc.ds.length = m.opn.length := by show m.ds.length = _; unfold WM.ds; rw [List.length_map]
  refine (SHear_c hsc hin.chain (hin.base_gone ho.lm) (by have := hin.base_len ho.lm; exact this) (by rw [hdl]; omega) (by show 0 ≤ (m.seen : Int) ∧ (m.seen : Int) ≤ 1000000; omega) (by show 0 ≤ (m.ns : Int) ∧ (m.ns : Int) ≤ 1000000; omega) u hf.1).mono ?_
  rintro en w' hp
  unfold hearCT hearMT
  rcases hp with ⟨hne, rfl, hm6, hcs⟩ | ⟨hby, hno, _, _, _⟩ | ⟨hby, os, hop, rfl, hm6, F', hA6, hG6⟩
  · have hne' : ¬ u.By = m.me := hne
    rw [if_neg hne']
    rw [show (doF (apOs m.sc.L m.sc.ds) u (m.sc.seen + 1)).2 = mayDo m.chars u from doF_codeN _ _ _ (by show (1 : Int) ≤ (m.seen : Int) + 1; omega)] at hcs ⊢
    refine ⟨rfl, ?_⟩
    by_cases hc : mayDo m.chars u = 0
    · rcases hcs with ⟨h1, _⟩ | ⟨_, F', hA6, hG6⟩
      · exact absurd hc h1
      rw [if_neg (fun h => h.2 hc)]
      have hmv : (m.hear u).sc = { m.sc with L := (doF m.sc.L u (m.sc.seen + 1)).1, seen := m.sc.seen + 1 } := by
        have e : m.hear u = m.hearO u := by unfold WM.hear; exact if_neg hne
        have h2 := (hoo hne hc).2.1
        rw [e]
        show (⟨m.me, ((m.seen + 1 : Nat) : Int), m.next, ap m.base u ((m.seen : Int) + 1), m.ds, m.ns⟩ : ScV) = ⟨m.me, (m.seen : Int) + 1, m.next, (doF m.base u ((m.seen : Int) + 1)).1, m.ds, m.ns⟩
        rw [doF_ap h2 (by omega)]; simp
      rw [← hmv] at hA6
      obtain ⟨q1, q2, q3⟩ := put w' F' _ hm6 hA6 hG6
      exact ⟨_, q1, q2, q3⟩
    · rcases hcs with ⟨_, hA6⟩ | ⟨h1, _⟩
      case inr => exact absurd h1 hc
      rw [if_pos ⟨hne, hc⟩]
      obtain ⟨q1, q2, q3⟩ := put w' FSk m hm6 hA6 (fun k hk => .inl hk)
      exact ⟨_, q1, q2, q3⟩
  · exfalso
    obtain ⟨o, os, hop, hod, _⟩ := hoi hby
    exact hno o.d (by show m.ds.head? = some o.d; unfold WM.ds; rw [hop]; rfl) hod
  · have hby' : u.By = m.me := hby
    rw [if_pos hby', if_neg (fun h => h.1 hby')]
    refine ⟨rfl, ?_⟩
    obtain ⟨o, os', hop', hod, hn1, _⟩ := hoi hby
    have h2 := (hoj hby o os' hop').2.2.1
    have hoe : os = os'.map (·.d) := by
      have e1 : m.sc.ds = o.d :: os'.map (·.d) := by show m.ds = _; unfold WM.ds; rw [hop']; rfl
      rw [e1] at hop
      exact (List.cons.inj hop).2.symm
    have hmv : (m.hear u).sc = { m.sc with L := (doF m.sc.L u (m.sc.seen + 1)).1, ds := os, sent := if 0 < m.sc.sent then m.sc.sent - 1 else m.sc.sent, seen := m.sc.seen + 1 } := by
      have e : m.hear u = m.hearI u := by unfold WM.hear; exact if_pos hby
      rw [e]
      have e3 : (m.hearI u).ds = os := by show m.opn.tail.map (·.d) = os; rw [hop', hoe]; rfl
      have e4 : ((m.ns - 1 : Nat) : Int) = if 0 < (m.ns : Int) then (m.ns : Int) - 1 else (m.ns : Int) := by
        rw [if_pos (by omega)]; omega
      show (⟨m.me, ((m.seen + 1 : Nat) : Int), m.next, ap m.base u ((m.seen : Int) + 1), (m.hearI u).ds, ((m.ns - 1 : Nat) : Int)⟩ : ScV) = ⟨m.me, (m.seen : Int) + 1, m.next, (doF m.base u ((m.seen : Int) + 1)).1, os, if 0 < (m.ns : Int) then (m.ns : Int) - 1 else (m.ns : Int)⟩
      rw [doF_ap h2 (by omega), e3, e4]; simp
    rw [← hmv] at hA6
    obtain ⟨q1, q2, q3⟩ := put w' F' _ hm6 hA6 hG6
    exact ⟨_, q1, q2, q3⟩
theorem TSClear_c (h : TnAt w base F g gw d) (ho : d.Ok) {j : Nat} (hj : j < 4) {m : WM} (hw : d.writer (j : Int) = some m) (n : Int) :
    Calls Tryz.prog 37 #[.pointer (some ⟨(gw j), 0, none⟩), .int .i64 n] w fun en w' => (∃ v, en = .returned v) ∧ TnS w base F g gw (d.setW j (some (m.clearF n))) w' := by
  obtain ⟨hx, hme, hW, tt, hin⟩ := ho.of_writer hw
  rw [Int.toNat_natCast] at hW
  obtain ⟨FSk, hFS, _, hsc, put⟩ := h.wrZ hj hW
  have hbl := hin.base_len ho.lm
  refine (SClear_c hsc n (by show m.base.length ≤ 1000; omega)).mono ?_
  rintro en w' ⟨hv, F4, h4, hm4, hg4⟩
  obtain ⟨q1, q2, q3⟩ := put w' F4 (m.clearF n) hm4 h4 hg4
  exact ⟨hv, _, q1, q2, q3⟩
/-- How far it has seen the log for all that it will ever speak of. -/
theorem TSLeast_c (h : TnAt w base F g gw d) (hs : d.Sm 1000) {j : Nat} (hj : j < 4) {m : WM} (hW : d.W j = some m) :
    Calls Tryz.prog 36 #[.pointer (some ⟨(gw j), 0, none⟩)] w fun en w' => en = .returned (.int .i64 m.least) ∧ Below w.heap.size w w' := by
  obtain ⟨FSk, hFS, _, hsc, put⟩ := h.wrZ hj hW
  have hos : m.opn.length ≤ 1000 := hs j m hW
  have hdl : m.sc.ds.length = m.opn.length := by show m.ds.length = _; unfold WM.ds; rw [List.length_map]
  exact SLeast_c hsc m.ns rfl (by omega)

set_option maxRecDepth 100000 in
theorem Tdrop_c (h : TnAt w base F g gw d) (x : Int) (hx : isWriter x = true) : Calls Tryz.prog 33 #[.pointer (some ⟨g, 0, none⟩), .int .i64 x] w fun e w' => (∃ v, e = .returned v) ∧ TnS w base F g gw (d.drop x) w' := by
  obtain ⟨gl, FL, hFL, c0, hlog, put⟩ := h.logZ
  obtain ⟨j, hj, rfl⟩ := writer_nat hx
  have HPut := Lib.hid put
  have hj0 : (0 : Int) ≤ (j : Int) := by omega
  have hj4 : (j : Int) < 4 := by omega
  clear put h
  go_enter Tryz.func33, Tryz.ntmps33
  go_wp2_with fail
  refine (BLeave_c hlog (j : Int)).mono ?_
  rintro e w1 ⟨rfl, hL1, hM1⟩
  obtain ⟨hD1, hm1, hg1⟩ := HPut.out w1 FL (d.lm.leaveF (j : Int)).1 hM1 hL1 (fun k hk => .inl hk)
  have hfz := hD1.fz (1 + j) (by omega)
  obtain ⟨_, _, _, rr⟩ := hD1.rows
  have hcell := rr.cellW j hj
  obtain ⟨q1, q2⟩ := hD1.goneW hj
  have HQ := Lib.hid (show TnS w base F g gw (d.drop (j : Int)) (w1.setCell ⟨g, 1 + j, none⟩ (.pointer none)) from ⟨_, q1.congr (by simp only [DkM.drop, DkM.set_eq, Int.toNat_natCast]), hm1.transG hg1 q2, hg1⟩)
  clear rr q1 q2 hD1 hm1 hg1 hL1 hM1 HPut hlog hFL c0
  generalize (d.lm.leaveF (j : Int)).2 = code
  go_wp2
  refine bodyPost_end (results_none rfl _ _ _) rfl ?_
  exact ⟨⟨_, rfl⟩, HQ.out⟩
end
section
variable {w : World} {base : Nat} {F : Nat → Prop} {g : Nat} {m : LogM}
theorem BLeastFor_c (h : BookAt w base F g m) (ho : m.Ok) (n : Nat) (hn : n ≤ m.L.length) :
    Calls Tryz.prog 38 #[.pointer (some ⟨g, 0, none⟩), .int .i64 (n : Int)] w fun e w' => e = .returned (.int .i64 (leastFor m n)) ∧ w' = w := by
  obtain ⟨a, cap, r0, r2, _⟩ := h.rows
  have HSD := Lib.hid r2.slDd
  have hlen := ho.len
  have HB := Lib.hid h
  have HLE := Lib.hid (leastTo_end m n)
  have HLS := Lib.hid (leastTo_start m n)
  have HST := Lib.hid (leastTo_step m n)
  clear r2 h ho
  go_enter Tryz.func38, Tryz.ntmps38
  go_wp2_with fail
  refine (BLeast_c HB.out).mono ?_
  rintro e w1 ⟨rfl, rfl⟩
  go_wp2
  go_loopw [5, 6] (fun s5 s6 wr => ∃ i : Nat, n ≤ i ∧ i ≤ m.L.length ∧ s6 = (.int .i64 i) ∧ s5 = (.int .i64 (leastTo m n i)) ∧ w1 = wr) (fun _ s6 _ => m.L.length - (intOf s6).toNat)
  case atStart => exact ⟨n, Nat.le_refl _, hn, rfl, by rw [HLS.out], rfl⟩
  case round =>
    obtain ⟨i, hi1, hi2, rfl, rfl, rfl⟩ := hrel
    generalize hlo : leastTo m n i = n0 at *
    by_cases hlt : i < m.L.length
    · obtain ⟨bb, off, rfl, q0, q1, q2, q3, q4, q5, q6⟩ := HSD.out.nth hlt
      have HS := Lib.hid (HST.out i hi1 hlt)
      rw [hlo] at HS
      have hlt' : (i : Int) < m.L.length := by omega
      have hi0 : (0 : Int) ≤ (i : Int) := by omega
      have hltB : decide ((i : Int) < (m.L.length : Int)) = true := decide_eq_true hlt'
      clear hlo q0 q1 q2 q4 q5 q6
      generalize m.L[i] = dd at *
      by_cases hc : dd.Seen < n0
      · have hcB : decide (dd.Seen < n0) = true := decide_eq_true hc
        have HMN := Lib.hid (show min n0 dd.Seen = dd.Seen by omega)
        go_wp2
        exact ⟨⟨i + 1, by omega, by omega, by go_num, by rw [HS.out, HMN.out], by first | rfl | trivial⟩, by simp [intOf]; omega⟩
      · have hcB : decide (dd.Seen < n0) = false := decide_eq_false hc
        have HMN := Lib.hid (show min n0 dd.Seen = n0 by omega)
        go_wp2
        exact ⟨⟨i + 1, by omega, by omega, by go_num, by rw [HS.out, HMN.out], by first | rfl | trivial⟩, by simp [intOf]; omega⟩
    · obtain rfl : i = m.L.length := by omega
      have hltB : decide ((m.L.length : Int) < (m.L.length : Int)) = false := by simp
      go_wp2
      go_ret
      exact ⟨by rw [← HLE.out, hlo]; rfl, rfl⟩
end
end Go.Proofs.YtneoeokfffnonacGreat
