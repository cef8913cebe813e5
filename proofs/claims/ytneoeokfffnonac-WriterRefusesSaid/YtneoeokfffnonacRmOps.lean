/- What the methods of a writer, a Scribe and the log do in a room. -/
import Derived.Test.YtneoeokfffnonacRmObj
import Derived.Test.YtneoeokfffnonacRsW
import Derived.Test.YtneoeokfffnonacScrDoW
import Derived.Test.YtneoeokfffnonacWrDo
import Derived.Test.YtneoeokfffnonacLogW4
import Derived.Test.YtneoeokfffnonacMixH
set_option linter.unusedVariables false
set_option linter.unusedSimpArgs false
namespace Go.Proofs.Ytneoeokfffnonac
open Go.RowKit

theorem writer_natR {x : Int} (h : isWriter x = true) : ∃ j : Nat, j < 4 ∧ x = (j : Int) := ⟨x.toNat, (toNat_lt h).1, (toNat_lt h).2.symm⟩
theorem WM.did_vR (m : WM) (hw : isWriter m.me = true) (k a n : Int) (t : ByteArray) : (m.v).did ⟨k, 0, 0, 0, a, n, t⟩ = (m.doF (m.deed k a n t)).v := by
  have e : (m.v).deed ⟨k, 0, 0, 0, a, n, t⟩ = m.deed k a n t := rfl
  have ec : (m.doF (m.deed k a n t)).chars = ap m.chars (m.deed k a n t) 1073741824 := by
    simp only [WM.chars, WM.ds, WM.doF, List.map_append, List.map_cons, List.map_nil, apOs, List.foldl_append, List.foldl_cons, List.foldl_nil]; rfl
  unfold WrV.did
  rw [e]
  have et : tookOf m.chars (ap m.chars (m.deed k a n t) 1073741824) (m.deed k a n t) = takenOf m.chars (m.deed k a n t) := tookOf_ap m.chars (m.deed k a n t) 1073741824 hw
  show (⟨m.me, m.seen, m.next + 1, ap m.chars (m.deed k a n t) 1073741824, m.opn ++ [⟨m.deed k a n t, tookOf m.chars (ap m.chars (m.deed k a n t) 1073741824) (m.deed k a n t)⟩], m.ns⟩ : WrV) = ⟨m.me, m.seen, m.next + 1, (m.doF (m.deed k a n t)).chars, m.opn ++ [⟨m.deed k a n t, takenOf m.chars (m.deed k a n t)⟩], m.ns⟩
  rw [ec, et]
theorem scs_setW (d : DkM) (j : Nat) (m : WM) : (d.setW j (some m)).scs = setN d.scs j (some m.sc) := by
  funext i; unfold DkM.scs DkM.setW setN
  by_cases h : i = j
  · simp [h]
  · simp [h]
theorem setW_sameR {d : DkM} {j : Nat} {m : WM} (h : d.W j = some m) : d.setW j (some m) = d := by
  cases d with
  | mk lm W =>
    unfold DkM.setW
    congr
    funext i
    by_cases hi : i = j
    · subst hi; simp only [if_pos]; exact h.symm
    · rw [if_neg hi]
theorem setW_setWR (d : DkM) (j : Nat) (a b : Option WM) : (d.setW j a).setW j b = d.setW j b := by
  unfold DkM.setW
  congr 1
  funext i
  by_cases e : i = j
  · simp only [if_pos e]
  · simp only [if_neg e]
theorem setN_sameR {d : DkM} {j : Nat} {m : WM} (h : d.W j = some m) : setN d.scs j (some m.sc) = d.scs := by
  rw [← scs_setW, setW_sameR h]
theorem fault_okR {u : Dd} (h : deedFault u = 0) : u.Text.size ≤ maxLen ∧ i64ok u.Many := by
  rcases (deedFault_zero h).2.2.2.2.2.2.2 with ⟨_, h1, h2⟩ | ⟨_, h1, h2, h3⟩
  · have := (textOk_size h2).2
    exact ⟨by unfold maxLen; omega, by unfold i64ok; omega⟩
  · exact ⟨by unfold maxLen; omega, by unfold i64ok; omega⟩

section
variable {w : World} {base : Nat} {F : Nat → Prop} {g : Nat} {gw gs : Nat → Nat} {d : DkM} {e : Nat → Option ScV} {bare : Bool}
theorem GrowsR.trans {F F1 F2 : Nat → Prop} {w w1 : World} (h : Grows F w F1) (hs : w.heap.size ≤ w1.heap.size) (k : Grows F1 w1 F2) : Grows F w F2 := fun i hi => by
  rcases k i hi with h1 | h1
  · exact h i h1
  · exact .inr (Nat.le_trans hs h1)
theorem MovesR.transG {F F1 : Nat → Prop} {w w1 w2 : World} (h : Moves F w w1) (hg : Grows F w F1) (k : Moves F1 w1 w2) : Moves F w w2 := h.trans k fun i hi h1 => by
  rcases hg i h1 with h2 | h2
  · exact h2
  · omega
/-- The room, further on. -/
def RmS (w : World) (base : Nat) (F : Nat → Prop) (g : Nat) (gw gs : Nat → Nat) (bare : Bool) (d : DkM) (e : Nat → Option ScV) (w' : World) : Prop :=
  ∃ F', RmAt w' base F' g gw gs d e bare ∧ Moves F w w' ∧ Grows F w F'
theorem RmS.start {w' : World} (h : RmAt w base F g gw gs d e bare) (hb : Below w.heap.size w w') : RmS w base F g gw gs bare d e w' := ⟨F, h.later hb, Moves.of_below hb, fun _ hk => .inl hk⟩
theorem RmS.later {w1 w2 : World} (h : RmS w base F g gw gs bare d e w1) (hb : Below w1.heap.size w1 w2) : RmS w base F g gw gs bare d e w2 := by
  obtain ⟨F', h1, h2, h3⟩ := h
  exact ⟨F', h1.later hb, h2.trans (Moves.of_below (F := F) hb) (fun _ _ k => k), h3⟩
theorem RmS.trans {d1 d2 : DkM} {e1 e2 : Nat → Option ScV} {w1 w2 : World} (h : RmS w base F g gw gs bare d1 e1 w1) (k : ∀ F1, RmAt w1 base F1 g gw gs d1 e1 bare → RmS w1 base F1 g gw gs bare d2 e2 w2) : RmS w base F g gw gs bare d2 e2 w2 := by
  obtain ⟨F1, h1, h2, h3⟩ := h
  obtain ⟨F2, k1, k2, k3⟩ := k F1 h1
  exact ⟨F2, k1, MovesR.transG h2 h3 k2, GrowsR.trans h3 h2.size k3⟩
theorem RmS.congr {d1 d2 : DkM} {e1 e2 : Nat → Option ScV} {w1 : World} (h : RmS w base F g gw gs bare d1 e1 w1) (hd : d1 = d2) (he : e1 = e2) : RmS w base F g gw gs bare d2 e2 w1 := hd ▸ he ▸ h
/-- What lies outside of the room stays. -/
theorem RmS.block {d1 : DkM} {e1 : Nat → Option ScV} {w1 : World} (h : RmS w base F g gw gs bare d1 e1 w1) (b : Nat) (hb : b < w.heap.size) (hn : ¬ F b) : w1.heap[b]? = w.heap[b]? := by
  obtain ⟨_, _, h2, _⟩ := h
  exact h2.block b hb hn

/-- What a writer hands back, and what it is then. -/
def putR (m : WM) (u : Dd) : Dd := if mayDo m.chars u = 0 then u else zD
def putM (m : WM) (u : Dd) : WM := if mayDo m.chars u = 0 then m.doF u else m
theorem put_eq (d : DkM) {j : Nat} {m : WM} (hW : d.W j = some m) (hm : m.me = (j : Int)) (u : Dd) : (d.put m u).1 = d.setW j (some (putM m u)) := by
  unfold DkM.put putM
  by_cases h : mayDo m.chars u = 0
  · rw [if_pos h, if_pos h, hm, DkM.set_eq, Int.toNat_natCast]; rfl
  · rw [if_neg h, if_neg h, setW_sameR hW]
theorem RPost_of (h : RmAt w base F g gw gs d e bare) {j : Nat} (hj : j < 4) {m : WM} (hW : d.W j = some m) (hx : isWriter m.me = true) {FW : Nat → Prop}
    (put : ∀ (w' : World) (F' : Nat → Prop) (m' : WM), Moves FW w w' → WrAt w' base F' (gw j) m'.v → Grows FW w F' → ∃ F2, RmAt w' base F2 g gw gs (d.setW j (some m')) e bare ∧ Moves F w w' ∧ Grows F w F2)
    (k a n : Int) (t : ByteArray) {en : Ending} {w' : World} (hp : WDoPost w base FW (gw j) m.v ⟨k, 0, 0, 0, a, n, t⟩ en w') :
    en = .returned (.tuple #[.agg #[.int .i64 (putR m (m.deed k a n t)).Kind, .int .i64 (putR m (m.deed k a n t)).By, .int .i64 (putR m (m.deed k a n t)).No, .int .i64 (putR m (m.deed k a n t)).Seen, .int .i64 (putR m (m.deed k a n t)).At, .int .i64 (putR m (m.deed k a n t)).Many, .string (putR m (m.deed k a n t)).Text], .int .i64 (mayDo m.chars (m.deed k a n t))]) ∧ RmS w base F g gw gs bare (d.setW j (some (putM m (m.deed k a n t)))) e w' := by
  unfold putR putM
  rcases hp with ⟨h1, rfl, h3, h4⟩ | ⟨h1, rfl, F3, h3, h4, h5⟩
  · have h1' : ¬ mayDo m.chars (m.deed k a n t) = 0 := h1
    obtain ⟨F4, q1, q2, q3⟩ := put w' FW m h4 h3 (fun k hk => .inl hk)
    rw [if_neg h1', if_neg h1']
    exact ⟨rfl, F4, q1, q2, q3⟩
  · have h1' : mayDo m.chars (m.deed k a n t) = 0 := h1
    rw [WM.did_vR m hx] at h3
    obtain ⟨F4, q1, q2, q3⟩ := put w' F3 (m.doF (m.deed k a n t)) h4 h3 h5
    rw [if_pos h1', if_pos h1', h1']
    exact ⟨rfl, F4, q1, q2, q3⟩
theorem RPut_c (h : RmAt w base F g gw gs d e bare) (ho : d.Ok) (hs : d.Sm 1000) {j : Nat} (hj : j < 4) {m : WM} (hw : d.writer (j : Int) = some m) (a : Int) (t : ByteArray) (ht : t.size ≤ maxLen) :
    Calls Try.prog 22 #[.pointer (some ⟨(gw j), 0, none⟩), .int .i64 a, .string t] w fun en w' => en = .returned (.tuple #[.agg #[.int .i64 (putR m (m.deed 1 a 0 t)).Kind, .int .i64 (putR m (m.deed 1 a 0 t)).By, .int .i64 (putR m (m.deed 1 a 0 t)).No, .int .i64 (putR m (m.deed 1 a 0 t)).Seen, .int .i64 (putR m (m.deed 1 a 0 t)).At, .int .i64 (putR m (m.deed 1 a 0 t)).Many, .string (putR m (m.deed 1 a 0 t)).Text], .int .i64 (mayDo m.chars (m.deed 1 a 0 t))]) ∧ RmS w base F g gw gs bare (d.setW j (some (putM m (m.deed 1 a 0 t)))) e w' := by
  obtain ⟨hx, hme, hW, tt, hin⟩ := ho.of_writer hw
  rw [Int.toNat_natCast] at hW
  obtain ⟨FW, hFW, _, hwr, put⟩ := h.wrZ hj hW
  have hos : m.opn.length ≤ 1000 := hs.writer hw
  obtain ⟨hn1, hn2⟩ := hin.next_le ho.lm 1000 hos
  refine (WPut_c hwr (hin.chars_gone ho.lm) (by have := hin.chars_len ho.lm; show m.chars.length ≤ 1000; omega) (by show m.opn.length ≤ 1000000; omega) hin.ns a t ht (by show 0 ≤ m.next ∧ m.next ≤ 1000000; omega)).mono ?_
  intro en w' hp
  exact RPost_of h hj hW (by rw [hme]; exact hx) put 1 a 0 t hp
theorem RTake_c (h : RmAt w base F g gw gs d e bare) (ho : d.Ok) (hs : d.Sm 1000) {j : Nat} (hj : j < 4) {m : WM} (hw : d.writer (j : Int) = some m) (a n : Int) (hn : i64ok n) :
    Calls Try.prog 23 #[.pointer (some ⟨(gw j), 0, none⟩), .int .i64 a, .int .i64 n] w fun en w' => en = .returned (.tuple #[.agg #[.int .i64 (putR m (m.deed 2 a n ByteArray.empty)).Kind, .int .i64 (putR m (m.deed 2 a n ByteArray.empty)).By, .int .i64 (putR m (m.deed 2 a n ByteArray.empty)).No, .int .i64 (putR m (m.deed 2 a n ByteArray.empty)).Seen, .int .i64 (putR m (m.deed 2 a n ByteArray.empty)).At, .int .i64 (putR m (m.deed 2 a n ByteArray.empty)).Many, .string (putR m (m.deed 2 a n ByteArray.empty)).Text], .int .i64 (mayDo m.chars (m.deed 2 a n ByteArray.empty))]) ∧ RmS w base F g gw gs bare (d.setW j (some (putM m (m.deed 2 a n ByteArray.empty)))) e w' := by
  obtain ⟨hx, hme, hW, tt, hin⟩ := ho.of_writer hw
  rw [Int.toNat_natCast] at hW
  obtain ⟨FW, hFW, _, hwr, put⟩ := h.wrZ hj hW
  have hos : m.opn.length ≤ 1000 := hs.writer hw
  obtain ⟨hn1, hn2⟩ := hin.next_le ho.lm 1000 hos
  refine (WTake_c hwr (hin.chars_gone ho.lm) (by have := hin.chars_len ho.lm; show m.chars.length ≤ 1000; omega) (by show m.opn.length ≤ 1000000; omega) hin.ns a n hn (by show 0 ≤ m.next ∧ m.next ≤ 1000000; omega)).mono ?_
  intro en w' hp
  exact RPost_of h hj hW (by rw [hme]; exact hx) put 2 a n ByteArray.empty hp
/-- The Scribe's Do. -/
theorem RSDo_c (h : RmAt w base F g gw gs d e bare) {d0 : DkM} (ho : d0.Ok) (hs : d0.Sm 1000) {j : Nat} (hj : j < 4) {m : WM} (hw : d0.writer (j : Int) = some m) (he : e j = some m.sc) (k a n : Int) (t : ByteArray) (ht : t.size ≤ maxLen) :
    Calls Try.prog 67 #[.pointer (some ⟨(gs j), 0, none⟩), .agg #[.int .i64 k, .int .i64 0, .int .i64 0, .int .i64 0, .int .i64 a, .int .i64 n, .string t]] w fun en w' => en = .returned (.tuple #[.agg #[.int .i64 (putR m (m.deed k a n t)).Kind, .int .i64 (putR m (m.deed k a n t)).By, .int .i64 (putR m (m.deed k a n t)).No, .int .i64 (putR m (m.deed k a n t)).Seen, .int .i64 (putR m (m.deed k a n t)).At, .int .i64 (putR m (m.deed k a n t)).Many, .string (putR m (m.deed k a n t)).Text], .int .i64 (mayDo m.chars (m.deed k a n t))]) ∧ RmS w base F g gw gs bare d (setN e j (some (putM m (m.deed k a n t)).sc)) w' := by
  obtain ⟨hx, hme, hW, tt, hin⟩ := ho.of_writer hw
  obtain ⟨FSk, hFS, _, hsc, put⟩ := h.scZ hj he
  have hos : m.opn.length ≤ 1000 := hs.writer hw
  obtain ⟨hn1, hn2⟩ := hin.next_le ho.lm 1000 hos
  refine (SDo_c hsc hin.chain (hin.base_gone ho.lm) (by have := hin.base_len ho.lm; show m.base.length ≤ 1000; omega) (by show m.ds.length ≤ 1000000; unfold WM.ds; rw [List.length_map]; omega) ⟨k, 0, 0, 0, a, n, t⟩ ht (by show 0 ≤ m.next ∧ m.next ≤ 1000000; omega)).mono ?_
  intro en w' hp
  unfold putR putM
  rcases hp with ⟨h1, rfl, h3, h4⟩ | ⟨h1, rfl, F3, h3, h4, h5⟩
  · have h1' : ¬ mayDo m.chars (m.deed k a n t) = 0 := h1
    obtain ⟨F4, q1, q2, q3⟩ := put w' FSk m.sc h4 h3 (fun k hk => .inl hk)
    rw [if_neg h1', if_neg h1']
    exact ⟨rfl, F4, q1, q2, q3⟩
  · have h1' : mayDo m.chars (m.deed k a n t) = 0 := h1
    have e2 : ({ m.sc with ds := m.sc.ds ++ [m.sc.deed ⟨k, 0, 0, 0, a, n, t⟩], next := m.sc.next + 1 } : ScV) = (m.doF (m.deed k a n t)).sc := by
      unfold WM.sc WM.doF WM.ds
      simp only [List.map_append, List.map_cons, List.map_nil]
      rfl
    rw [e2] at h3
    obtain ⟨F4, q1, q2, q3⟩ := put w' F3 _ h4 h3 h5
    rw [if_pos h1', if_pos h1', h1']
    exact ⟨rfl, F4, q1, q2, q3⟩
/-- What a writer sends. -/
def sendR (m : WM) : Dd := match m.unsent with
  | [] => zD
  | u :: _ => u
def sendB (m : WM) : Bool := match m.unsent with
  | [] => false
  | _ :: _ => true
def sendM (m : WM) : WM := match m.unsent with
  | [] => m
  | _ :: _ => m.sendF
theorem unsent_nil {m : WM} (h : m.opn.length ≤ m.ns) : m.unsent = [] := List.drop_eq_nil_of_le (by show m.ds.length ≤ m.ns; unfold WM.ds; rw [List.length_map]; exact h)
theorem unsent_cons {m : WM} (h : m.ns < m.opn.length) : ∃ us, m.unsent = (m.opn[m.ns]'h).d :: us := by
  have hltd : m.ns < m.ds.length := by unfold WM.ds; rw [List.length_map]; exact h
  refine ⟨m.ds.drop (m.ns + 1), ?_⟩
  unfold WM.unsent; rw [List.drop_eq_getElem_cons hltd]
  congr 1
  simp [WM.ds]
theorem RSend_c (h : RmAt w base F g gw gs d e bare) (ho : d.Ok) (hs : d.Sm 1000) {j : Nat} (hj : j < 4) {m : WM} (hw : d.writer (j : Int) = some m) :
    Calls Try.prog 61 #[.pointer (some ⟨(gw j), 0, none⟩)] w fun en w' => en = .returned (.tuple #[.agg #[.int .i64 (sendR m).Kind, .int .i64 (sendR m).By, .int .i64 (sendR m).No, .int .i64 (sendR m).Seen, .int .i64 (sendR m).At, .int .i64 (sendR m).Many, .string (sendR m).Text], .bool (sendB m)]) ∧ RmS w base F g gw gs bare (d.setW j (some (sendM m))) e w' := by
  obtain ⟨hx, hme, hW, tt, hin⟩ := ho.of_writer hw
  rw [Int.toNat_natCast] at hW
  obtain ⟨FW, hFW, _, hwr, put⟩ := h.wrZ hj hW
  have hos : m.opn.length ≤ 1000 := hs.writer hw
  refine (WSend_c hwr (by show m.opn.length ≤ 1000000; omega)).mono ?_
  rintro en w' ⟨hB1, hM1, hcase⟩
  unfold sendR sendB sendM
  rcases hcase with ⟨hle, rfl, hA1⟩ | ⟨hlt, rfl, hA1⟩
  · rw [unsent_nil hle]
    obtain ⟨F4, q1, q2, q3⟩ := put w' FW m hM1 hA1 (fun k hk => .inl hk)
    exact ⟨rfl, F4, q1, q2, q3⟩
  · obtain ⟨us, hus⟩ := unsent_cons (m := m) hlt
    rw [hus]
    obtain ⟨F4, q1, q2, q3⟩ := put w' FW m.sendF hM1 hA1 (fun k hk => .inl hk)
    exact ⟨rfl, F4, q1, q2, q3⟩
theorem RSSend_c (h : RmAt w base F g gw gs d e bare) {d0 : DkM} (ho : d0.Ok) (hs : d0.Sm 1000) {j : Nat} (hj : j < 4) {m : WM} (hw : d0.writer (j : Int) = some m) (he : e j = some m.sc) :
    Calls Try.prog 68 #[.pointer (some ⟨(gs j), 0, none⟩)] w fun en w' => en = .returned (.tuple #[.agg #[.int .i64 (sendR m).Kind, .int .i64 (sendR m).By, .int .i64 (sendR m).No, .int .i64 (sendR m).Seen, .int .i64 (sendR m).At, .int .i64 (sendR m).Many, .string (sendR m).Text], .bool (sendB m)]) ∧ RmS w base F g gw gs bare d (setN e j (some (sendM m).sc)) w' := by
  obtain ⟨hx, hme, hW, tt, hin⟩ := ho.of_writer hw
  obtain ⟨FSk, hFS, _, hsc, put⟩ := h.scZ hj he
  have hos : m.opn.length ≤ 1000 := hs.writer hw
  have hdl : m.sc.ds.length = m.opn.length := by show m.ds.length = _; unfold WM.ds; rw [List.length_map]
  refine (SSend_c hsc m.ns rfl (by omega) (by rw [hdl]; exact hin.ns)).mono ?_
  rintro en w' ⟨hB1, hM1, hcase⟩
  unfold sendR sendB sendM
  rcases hcase with ⟨hle, rfl, hA1⟩ | ⟨hlt, rfl, hA1⟩
  · rw [unsent_nil (by omega)]
    obtain ⟨F4, q1, q2, q3⟩ := put w' FSk m.sc hM1 hA1 (fun k hk => .inl hk)
    exact ⟨rfl, F4, q1, q2, q3⟩
  · obtain ⟨us, hus⟩ := unsent_cons (m := m) (by omega)
    rw [hus]
    have e2 : m.sc.ds[m.ns] = (m.opn[m.ns]'(by omega)).d := by simp [WM.sc, WM.ds]
    rw [e2]
    obtain ⟨F4, q1, q2, q3⟩ := put w' FSk m.sendF.sc hM1 hA1 (fun k hk => .inl hk)
    exact ⟨rfl, F4, q1, q2, q3⟩
end
end Go.Proofs.Ytneoeokfffnonac
