/- Merged: PlainD PlainR. -/
import Derived.Test.YtneoeokfffnonacPlainW
set_option linter.unusedVariables false
set_option linter.unusedSimpArgs false

/- Desks played by steps, and what the laws' beginnings and ends come to. No program in sight. -/
namespace Go.Proofs.Ytneoeokfffnonac
open Go.RowKit

def DkM.plays (d : DkM) (l : List DStep) : DkM := l.foldl (fun d x => (d.step x).1) d
theorem DkM.plays_snoc (d : DkM) (l : List DStep) (k : Nat) (h : k < l.length) : d.plays (l.take (k + 1)) = ((d.plays (l.take k)).step l[k]).1 := by
  rw [List.take_succ_eq_append_getElem h]; unfold DkM.plays; rw [List.foldl_append]; rfl
theorem DkM.Ok.plays (l : List DStep) : ∀ {d : DkM}, d.Ok → (d.plays l).Ok := by
  induction l with
  | nil => intro d h; exact h
  | cons x l ih => intro d h; exact ih (h.step x)

def sJ (w : Int) : DStep := ⟨1, w, 0, 0, ⟨#[]⟩⟩
def sA : DStep := ⟨2, 0, 0, 0, ⟨#[97, 98]⟩⟩
def sB : DStep := ⟨2, 1, 0, 0, ⟨#[99]⟩⟩
def e1 : DkM := (DkM.new.step (sJ 0)).1
def e2 : DkM := (e1.step (sJ 1)).1
def e3 : DkM := (e2.step sA).1
def e4 : DkM := (e3.step sB).1
set_option maxRecDepth 100000 in
theorem e1_c : (DkM.new.step (sJ 0)).2 = 0 := by decide
set_option maxRecDepth 100000 in
theorem e2_c : (e1.step (sJ 1)).2 = 0 := by decide
set_option maxRecDepth 100000 in
theorem e3_c : (e2.step sA).2 = 0 := by decide
set_option maxRecDepth 100000 in
theorem e4_c : (e3.step sB).2 = 0 := by decide
set_option maxRecDepth 100000 in
theorem e4_len : (settle e4).lm.L.length = 2 := by decide
set_option maxRecDepth 100000 in
theorem e4_w : ∃ m, (settle e4).writer 1 = some m := by
  have : ((settle e4).writer 1).isSome = true := by decide
  exact Option.isSome_iff_exists.1 this
set_option maxRecDepth 100000 in
theorem e4_view : (settle e4).lm.view.length = 3 := by decide
end Go.Proofs.Ytneoeokfffnonac

/- How large a writer and desks are. No program in sight. -/
namespace Go.Proofs.Ytneoeokfffnonac
open Go.RowKit

theorem chain_small {ds : List Dd} : ∀ {l : List Ch}, Chain l ds → l.length ≤ 200 → (apOs l ds).length ≤ 200 := by
  induction ds with
  | nil => intro l _ h; exact h
  | cons o os ih =>
    intro l h hl
    refine ih h.2 ?_
    have h1 := chain_len [o] l ⟨h.1, trivial⟩
    have h2 := (mayDo_zero h.1).2.2
    simp only [List.map_cons, List.map_nil, List.sum_cons, List.sum_nil] at h1
    show (apOs l [o]).length ≤ 200
    omega
theorem WIn.base_len {lm : LogM} {m : WM} {t : Int} (h : WIn lm m t) (ho : lm.Ok) : m.base.length ≤ 200 := by
  obtain ⟨X, e, _⟩ := h.bare
  rw [e]
  have := (ho.lok.made m.seen h.seen).max
  exact Nat.le_trans (List.length_filter_le _ _) this
theorem WIn.chars_len {lm : LogM} {m : WM} {t : Int} (h : WIn lm m t) (ho : lm.Ok) : m.chars.length ≤ 200 := chain_small h.chain (h.base_len ho)
theorem WIn.base_gone {lm : LogM} {m : WM} {t : Int} (h : WIn lm m t) (ho : lm.Ok) : ∀ c ∈ m.base, i64ok c.Gone := by
  obtain ⟨X, e, _⟩ := h.bare
  intro c hc
  rw [e] at hc
  have := bad1_false ((ho.lok.made m.seen h.seen).good c ((List.mem_filter.1 hc).1)).b1
  unfold i64ok; omega
theorem WIn.next_le {lm : LogM} {m : WM} {t : Int} (h : WIn lm m t) (ho : lm.Ok) (N : Nat) (hN : m.opn.length ≤ N) : 1 ≤ m.next ∧ m.next ≤ 121 + N := by
  have h1 := h.next
  have h2 := cntBy_le m.me lm.L
  have h3 := cntBy_nonneg m.me lm.L
  have h4 := ho.len
  have h5 : m.unsent.length ≤ m.opn.length := by unfold WM.unsent WM.ds; rw [List.length_drop, List.length_map]; omega
  omega

/-- No writer has more open deeds than so many. -/
def DkM.Sm (d : DkM) (N : Nat) : Prop := ∀ j m, d.W j = some m → m.opn.length ≤ N
theorem DkM.Sm.mono {d : DkM} {N M : Nat} (h : d.Sm N) (hm : N ≤ M) : d.Sm M := fun j m e => Nat.le_trans (h j m e) hm
theorem DkM.Sm.set {d : DkM} {N : Nat} (h : d.Sm N) (lm : LogM) (w : Int) (o : Option WM) (ho : ∀ m, o = some m → m.opn.length ≤ N) : (d.set lm w o).Sm N := by
  intro j m e
  simp only [DkM.set] at e
  split at e
  · exact ho m e
  · exact h j m e
theorem DkM.Sm.writer {d : DkM} {N : Nat} (h : d.Sm N) {w : Int} {m : WM} (hw : d.writer w = some m) : m.opn.length ≤ N := by
  unfold DkM.writer at hw
  split at hw
  · exact h _ _ hw
  · cases hw
theorem DkM.new_sm : DkM.new.Sm 0 := fun j m e => by cases e
theorem DkM.Sm.drop {d : DkM} {N : Nat} (h : d.Sm N) (w : Int) : (d.drop w).Sm N := h.set _ _ _ (fun m e => by cases e)
theorem DkM.Sm.put {d : DkM} {N : Nat} (h : d.Sm N) {m : WM} (hm : m.opn.length ≤ N) (x : Dd) : (d.put m x).1.Sm (N + 1) := by
  unfold DkM.put
  split
  · refine (h.mono (by omega)).set _ _ _ fun m' e => ?_
    cases e
    simp [WM.doF]; omega
  · exact h.mono (by omega)
theorem DkM.Sm.send {d : DkM} {N : Nat} (h : d.Sm N) {m : WM} (hm : m.opn.length ≤ N) : (d.send m).1.Sm N := by
  unfold DkM.send
  split
  · exact h
  · split
    · refine h.set _ _ _ fun m' e => ?_
      cases e; exact hm
    · exact h.drop _
theorem WM.hear_opn (m : WM) (x : Dd) : (m.hear x).opn.length ≤ m.opn.length := by
  unfold WM.hear
  split
  · simp [WM.hearI]
  · exact Nat.le_refl _
theorem DkM.Sm.hear {d : DkM} {N : Nat} (h : d.Sm N) {m : WM} (hm : m.opn.length ≤ N) : (d.hear m).1.Sm N := by
  unfold DkM.hear
  split
  · exact h
  · split
    · exact h.drop _
    · refine h.set _ _ _ fun m' e => ?_
      cases e; exact Nat.le_trans (m.hear_opn _) hm
theorem DkM.Sm.step {d : DkM} {N : Nat} (h : d.Sm N) (x : DStep) : (d.step x).1.Sm (N + 1) := by
  have h1 := h.mono (show N ≤ N + 1 by omega)
  unfold DkM.step
  split
  · exact h1
  · split
    · split
      · exact h1.set _ _ _ fun m' e => by cases e; simp [WM.new]
      · exact h1
    · split
      · exact h1
      · rename_i m hw
        have hm := h.writer hw
        split
        · exact h.put hm _
        · split
          · exact h.put hm _
          · split
            · exact (h.send hm).mono (by omega)
            · split
              · exact (h.hear hm).mono (by omega)
              · split
                · refine h1.set _ _ _ fun m' e => ?_
                  cases e
                  show m.opn.length ≤ N + 1; omega
                · exact h1.drop _
theorem DkM.Sm.plays (l : List DStep) : ∀ {d : DkM} {N : Nat}, d.Sm N → (d.plays l).Sm (N + l.length) := by
  induction l with
  | nil => intro d N h; exact h
  | cons x l ih => intro d N h; exact (ih (h.step x)).mono (by simp; omega)
theorem DkM.Sm.sendLoop {N : Nat} : ∀ (n : Nat) {d : DkM} (k : Int), d.Sm N → (Go.Proofs.Ytneoeokfffnonac.sendLoop n d k).Sm N := by
  intro n
  induction n with
  | zero => intro d k h; exact h
  | succ n ih =>
    intro d k h
    unfold Go.Proofs.Ytneoeokfffnonac.sendLoop
    split
    · exact h
    · rename_i m hw
      split
      · exact ih k (h.send (h.writer hw))
      · exact h.send (h.writer hw)
theorem DkM.Sm.hearLoop {N : Nat} : ∀ (n : Nat) {d : DkM} (k : Int), d.Sm N → (Go.Proofs.Ytneoeokfffnonac.hearLoop n d k).Sm N := by
  intro n
  induction n with
  | zero => intro d k h; exact h
  | succ n ih =>
    intro d k h
    unfold Go.Proofs.Ytneoeokfffnonac.hearLoop
    split
    · exact h
    · rename_i m hw
      split
      · exact ih k (h.hear (h.writer hw))
      · exact h.hear (h.writer hw)
theorem DkM.Sm.settle {d : DkM} {N : Nat} (h : d.Sm N) : (Go.Proofs.Ytneoeokfffnonac.settle d).Sm N := by
  unfold Go.Proofs.Ytneoeokfffnonac.settle hearAll sendAll
  repeat first | exact h | apply DkM.Sm.hearLoop | apply DkM.Sm.sendLoop
end Go.Proofs.Ytneoeokfffnonac

/- The room of a log and its writers, as a plain model: what desks are, where nobody leaves. No program in sight. -/
namespace Go.Proofs.Ytneoeokfffnonac
open Go.RowKit

structure RStep where
  (Do W At Many : Int) (Text : ByteArray)
def RStep.d (x : RStep) : DStep := ⟨x.Do + 1, x.W, x.At, x.Many, x.Text⟩
def RStep.acts (bare : Bool) (x : RStep) : Prop := 0 ≤ x.Do ∧ x.Do ≤ 5 ∧ isWriter x.W = true ∧ ¬ (bare = true ∧ x.Do = 5)
instance (bare : Bool) (x : RStep) : Decidable (x.acts bare) := by unfold RStep.acts; infer_instance
def DkM.room (d : DkM) (bare : Bool) (x : RStep) : DkM := if x.acts bare then (d.step x.d).1 else d
def DkM.over (d : DkM) (x : RStep) : Bool := isWriter x.W && (x.Do == 3 || x.Do == 4) && (d.step x.d).2 == 9

/-- What a step in a room may do. -/
inductive RoomDoes (d : DkM) (x : RStep) : DkM → Prop
  | none : RoomDoes d x d
  | join (hw : isWriter x.W = true) (hd : x.Do = 0) (hn : d.writer x.W = .none) (hh : (d.lm.seat x.W).here = false) (hj : d.lm.joinF x.W = (d.lm.put x.W ⟨true, (d.lm.seat x.W).last, d.lm.L.length⟩, (d.lm.seat x.W).last + 1, 0)) :
      RoomDoes d x (d.set (d.lm.joinF x.W).1 x.W (some (WM.new d.lm x.W)))
  | put (m : WM) (hm : d.writer x.W = some m) (hd : x.Do = 1 ∨ x.Do = 2) (u : Dd) (hu : ∃ k a n t, u = m.deed k a n t) (h0 : mayDo m.chars u = 0) : RoomDoes d x (d.set d.lm x.W (some (m.doF u)))
  | send (m : WM) (hm : d.writer x.W = some m) (hd : x.Do = 3) (u : Dd) (us : List Dd) (hu : m.unsent = u :: us) (h0 : (d.lm.takeF u).2.2 = 0) : RoomDoes d x (d.set (d.lm.takeF u).1 x.W (some m.sendF))
  | hear (m : WM) (hm : d.writer x.W = some m) (hd : x.Do = 4) (hl : m.seen < d.lm.L.length) (h0 : d.lm.L[m.seen].By = m.me ∨ mayDo m.chars d.lm.L[m.seen] = 0) : RoomDoes d x (d.set (d.lm.saysF m.me (m.hear d.lm.L[m.seen]).least).1 x.W (some (m.hear d.lm.L[m.seen])))
  | clear (m : WM) (hm : d.writer x.W = some m) (hd : x.Do = 5) : RoomDoes d x (d.set d.lm x.W (some (m.clearF (leastFor d.lm m.seen))))

theorem DkM.Ok.here_of {d : DkM} (h : d.Ok) {w : Int} {m : WM} (hw : d.writer w = some m) : (d.lm.seat w).here = true := by
  obtain ⟨_, hme, _, t, hin⟩ := h.of_writer hw
  rw [← hme]; exact hin.here
theorem room_does {d : DkM} (h : d.Ok) (bare : Bool) (x : RStep) (ho : d.over x = false) : RoomDoes d x (d.room bare x) := by
  unfold DkM.room
  by_cases ha : x.acts bare
  case neg => rw [if_neg ha]; exact .none
  rw [if_pos ha]
  obtain ⟨a0, a5, aw, ab⟩ := ha
  have hk : x.d.Kind = x.Do + 1 := rfl
  have hW : x.d.W = x.W := rfl
  unfold DkM.step
  rw [if_neg (by rw [hk]; omega)]
  by_cases h1 : x.Do = 0
  · rw [if_pos (by rw [hk]; omega), hW]
    by_cases h0 : (d.lm.joinF x.W).2.2 = 0
    · rw [if_pos h0]
      obtain ⟨_, _, hh⟩ := h.join x.W h0
      have hn : d.writer x.W = Option.none := by
        cases e : d.writer x.W with
        | none => rfl
        | some m => rw [h.here_of e] at hh; cases hh
      exact .join aw h1 hn hh (by unfold LogM.joinF; rw [if_pos aw, if_neg (by rw [hh]; simp)])
    · rw [if_neg h0]; exact .none
  · rw [if_neg (by rw [hk]; omega), hW]
    cases hw : d.writer x.W with
    | none => exact .none
    | some m =>
      simp only
      obtain ⟨_, hme, _⟩ := h.of_writer hw
      by_cases h2 : x.Do = 1
      · rw [if_pos (by rw [hk]; omega)]
        unfold DkM.put; split
        · rename_i hp; rw [hme]; exact .put m hw (.inl h2) _ ⟨_, _, _, _, rfl⟩ hp
        · exact .none
      rw [if_neg (by rw [hk]; omega)]
      by_cases h3 : x.Do = 2
      · rw [if_pos (by rw [hk]; omega)]
        unfold DkM.put; split
        · rename_i hp; rw [hme]; exact .put m hw (.inr h3) _ ⟨_, _, _, _, rfl⟩ hp
        · exact .none
      rw [if_neg (by rw [hk]; omega)]
      have hov : ∀ c, (d.step x.d).2 = c → x.Do = 3 ∨ x.Do = 4 → c ≠ 9 := fun c hc h34 e => by
        unfold DkM.over at ho
        rw [hc, e, aw] at ho
        rcases h34 with h34 | h34 <;> rw [h34] at ho <;> simp at ho
      have hst : (d.step x.d) = if x.Do = 3 then d.send m else if x.Do = 4 then d.hear m else if x.Do = 5 then (d.set d.lm m.me (some (m.clearF (leastFor d.lm m.seen))), 0) else (d.drop m.me, 0) := by
        unfold DkM.step
        rw [if_neg (by rw [hk]; omega), if_neg (by rw [hk]; omega), hW, hw]
        simp only
        rw [if_neg (by rw [hk]; omega), if_neg (by rw [hk]; omega)]
        have e4 : (x.d.Kind = 4) = (x.Do = 3) := by rw [hk]; apply propext; omega
        have e5 : (x.d.Kind = 5) = (x.Do = 4) := by rw [hk]; apply propext; omega
        have e6 : (x.d.Kind = 6) = (x.Do = 5) := by rw [hk]; apply propext; omega
        simp only [e4, e5, e6]
      by_cases h4 : x.Do = 3
      · rw [if_pos (by rw [hk]; omega)]
        have h9 := hov (d.send m).2 (by rw [hst, if_pos h4]) (.inl h4)
        rcases (h.send hw).2 with c0 | ⟨c5, _, e⟩ | ⟨c9, _⟩
        · obtain ⟨u, us, hu, ht, e, _⟩ := h.send_next hw c0
          rw [e]; exact .send m hw h4 u us hu ht
        · rw [e]; exact .none
        · exact absurd c9 h9
      rw [if_neg (by rw [hk]; omega)]
      by_cases h5 : x.Do = 4
      · rw [if_pos (by rw [hk]; omega)]
        have h9 := hov (d.hear m).2 (by rw [hst, if_neg h4, if_pos h5]) (.inr h5)
        rcases (h.hear hw).2 with ⟨c0, hl, e, _⟩ | ⟨_, _, e⟩ | ⟨c9, _⟩
        · rw [e]
          refine .hear m hw h5 hl ?_
          unfold DkM.hear at c0
          rw [List.getElem?_eq_getElem hl] at c0
          simp only at c0
          by_cases hb : d.lm.L[m.seen].By = m.me
          · exact .inl hb
          · right
            apply Classical.byContradiction
            intro hm0
            rw [if_pos ⟨hb, hm0⟩] at c0
            exact hm0 c0
        · rw [e]; exact .none
        · exact absurd c9 h9
      rw [if_neg (by rw [hk]; omega)]
      have h6 : x.Do = 5 := by omega
      rw [if_pos (by rw [hk]; omega), hme]
      exact .clear m hw h6

theorem DkM.Ok.room {d : DkM} (h : d.Ok) (bare : Bool) (x : RStep) : (d.room bare x).Ok := by
  unfold DkM.room; split
  · exact h.step _
  · exact h
theorem DkM.Sm.room {d : DkM} {N : Nat} (h : d.Sm N) (bare : Bool) (x : RStep) : (d.room bare x).Sm (N + 1) := by
  unfold DkM.room; split
  · exact h.step _
  · exact h.mono (by omega)

/-- To hear its own changes nothing that it sees. -/
theorem room_acks {d : DkM} (h : d.Ok) (bare : Bool) (x : RStep) (ho : d.over x = false) (hd : x.Do = 4) {m : WM} (hw : d.writer x.W = some m) (hl : m.seen < d.lm.L.length) :
    ∃ m', (d.room bare x).writer x.W = some m' ∧ (d.lm.L[m.seen].By = x.W → m'.view = m.view ∧ m.ds ≠ [] ∧ m'.ds = m.ds.tail) ∧ (d.lm.L[m.seen].By ≠ x.W → m'.ds = m.ds) := by
  obtain ⟨hi, hme, hW, t, hin⟩ := h.of_writer hw
  have hst : d.room bare x = (d.hear m).1 := by
    unfold DkM.room
    rw [if_pos ⟨by omega, by omega, hi, fun e => by omega⟩]
    have hk : x.d.Kind = x.Do + 1 := rfl
    have hW : x.d.W = x.W := rfl
    unfold DkM.step
    rw [if_neg (by rw [hk]; omega), if_neg (by rw [hk]; omega), hW, hw]
    simp only
    rw [if_neg (by rw [hk]; omega), if_neg (by rw [hk]; omega), if_neg (by rw [hk]; omega), if_pos (by rw [hk]; omega)]
  have hc : (d.hear m).2 ≠ 9 := fun e => by
    unfold DkM.over at ho
    have : (d.step x.d).2 = (d.hear m).2 := by
      have hk : x.d.Kind = x.Do + 1 := rfl
      have hW : x.d.W = x.W := rfl
      unfold DkM.step
      rw [if_neg (by rw [hk]; omega), if_neg (by rw [hk]; omega), hW, hw]
      simp only
      rw [if_neg (by rw [hk]; omega), if_neg (by rw [hk]; omega), if_neg (by rw [hk]; omega), if_pos (by rw [hk]; omega)]
    rw [this, e, hi, hd] at ho
    simp at ho
  rcases (h.hear hw).2 with ⟨_, hl', e, _⟩ | ⟨_, e5, _⟩ | ⟨c9, _⟩
  · refine ⟨m.hear d.lm.L[m.seen], ?_, fun hb => ?_, fun hb => ?_⟩
    · rw [hst, e, set_writer _ _ _ _ hi]
    · rw [← hme] at hb
      have eh : m.hear d.lm.L[m.seen] = m.hearI d.lm.L[m.seen] := by unfold WM.hear; rw [if_pos hb]
      rw [eh]
      refine ⟨?_, ?_, m.ds_hearI _⟩
      · exact hin.acks h.lm hl hb
      · obtain ⟨o, os, hop, _⟩ := hin.own_head hl hb
        unfold WM.ds; rw [hop]; simp
    · rw [← hme] at hb
      have eh : m.hear d.lm.L[m.seen] = m.hearO d.lm.L[m.seen] := by unfold WM.hear; rw [if_neg hb]
      rw [eh]; rfl
  · omega
  · exact absurd c9 hc

/-- How many deeds a writer did. -/
def DkM.done (d : DkM) (w : Int) : Int := match d.writer w with
  | none => 0
  | some m => m.next - 1
/-- Nobody left. -/
structure RIn (d : DkM) : Prop where
  ok : d.Ok
  no : ∀ w, isWriter w = true → d.writer w = none → cntBy w d.lm.L = 0
def DkM.opnLen (d : DkM) (w : Int) : Nat := match d.writer w with
  | none => 0
  | some m => m.opn.length
theorem RIn.new : RIn DkM.new := ⟨DkM.new_ok, fun _ _ _ => rfl⟩
theorem set_lm (d : DkM) (lm : LogM) (w : Int) (o : Option WM) : (d.set lm w o).lm = lm := rfl
theorem saysF_L' (lm : LogM) (w n : Int) : (lm.saysF w n).1.L = lm.L := LogM.saysF_L _ _ _

/-- Its deeds are sent once, in their order. -/
theorem room_tells {d : DkM} (h : RIn d) (bare : Bool) (x : RStep) (ho : d.over x = false) :
    RIn (d.room bare x) ∧ (∀ j, isWriter j = true → (d.room bare x).done j = d.done j + if (x.Do = 1 ∨ x.Do = 2) ∧ j = x.W then (((d.room bare x).opnLen x.W : Int) - (d.opnLen x.W : Int)) else 0) ∧
    ((d.room bare x).lm.L = d.lm.L ∨ ∃ u, (d.room bare x).lm.L = d.lm.L ++ [u] ∧ x.Do = 3 ∧ u.By = x.W ∧ isWriter x.W = true ∧ u.No = cntBy x.W d.lm.L + 1 ∧ u.No ≤ (d.room bare x).done x.W) := by
  have hok := h.ok.room bare x
  have hr := room_does h.ok bare x ho
  generalize d.room bare x = d' at *
  cases hr with
  | none => exact ⟨⟨hok, h.no⟩, fun j _ => by split <;> omega, .inl rfl⟩
  | join hw hd hn hh hj =>
    have hL : (d.lm.joinF x.W).1.L = d.lm.L := by rw [hj]; rfl
    have h0 := h.no x.W hw hn
    have hl := h.ok.lm.last x.W hw
    refine ⟨⟨hok, fun w hwj e => ?_⟩, fun j hjw => ?_, .inl hL⟩
    · rw [set_lm, hL]
      by_cases hxw : w = x.W
      · subst hxw; exact h0
      · rw [set_other _ _ _ _ _ hw hxw] at e; exact h.no w hwj e
    · rw [if_neg (by omega)]
      unfold DkM.done
      by_cases hxw : j = x.W
      · subst hxw; rw [set_writer _ _ _ _ hw, hn]
        show (d.lm.seat x.W).last + 1 - 1 = 0 + 0
        rw [hl, h0]; rfl
      · rw [set_other _ _ _ _ _ hw hxw]; omega
  | put m hm hd u hu h0 =>
    obtain ⟨hi, hme, hW, t, hin⟩ := h.ok.of_writer hm
    refine ⟨⟨hok, fun w hwj e => ?_⟩, fun j hjw => ?_, .inl rfl⟩
    · by_cases hxw : w = x.W
      · subst hxw; rw [set_writer _ _ _ _ hi] at e; cases e
      · rw [set_other _ _ _ _ _ hi hxw] at e; exact h.no w hwj e
    · unfold DkM.done DkM.opnLen
      by_cases hxw : j = x.W
      · subst hxw
        rw [if_pos ⟨hd, rfl⟩, set_writer _ _ _ _ hi, hm]
        show m.next + 1 - 1 = m.next - 1 + ((((m.opn ++ [_]).length : Nat) : Int) - (m.opn.length : Int))
        rw [List.length_append]; simp; omega
      · rw [if_neg (fun e => hxw e.2), set_other _ _ _ _ _ hi hxw]; omega
  | send m hm hd u us hu h0 =>
    obtain ⟨hi, hme, hW, t, hin⟩ := h.ok.of_writer hm
    obtain ⟨q1, q2, q3, q4, q5, q6, e⟩ := LogM.take_of _ h0
    have hb := hin.us 0 (by rw [hu]; simp)
    have e0 : m.unsent[0]'(by rw [hu]; simp) = u := by simp only [hu]; rfl
    rw [e0] at hb
    have hub : u.By = x.W := by rw [hb.b, hme]
    have hno : u.No = cntBy x.W d.lm.L + 1 := by have := hb.no; rw [hme] at this; simpa using this
    have hL : (d.lm.takeF u).1.L = d.lm.L ++ [u] := by rw [e]
    have hnx := hin.next
    rw [hme, hu] at hnx
    simp only [List.length_cons] at hnx
    refine ⟨⟨hok, fun w hwj en => ?_⟩, fun j hjw => ?_, .inr ⟨u, hL, hd, hub, hi, hno, ?_⟩⟩
    · rw [set_lm, hL, cntBy_add]
      by_cases hxw : w = x.W
      · subst hxw; rw [set_writer _ _ _ _ hi] at en; cases en
      · rw [set_other _ _ _ _ _ hi hxw] at en
        rw [if_neg (by rw [hub]; exact fun e => hxw e.symm), h.no w hwj en]; rfl
    · rw [if_neg (by omega)]
      unfold DkM.done
      by_cases hxw : j = x.W
      · subst hxw; rw [set_writer _ _ _ _ hi, hm]
        show m.next - 1 = m.next - 1 + 0
        omega
      · rw [set_other _ _ _ _ _ hi hxw]; omega
    · unfold DkM.done
      rw [set_writer _ _ _ _ hi]
      show u.No ≤ m.next - 1
      omega
  | hear m hm hd hl h0 =>
    obtain ⟨hi, hme, hW, t, hin⟩ := h.ok.of_writer hm
    have hL : (d.lm.saysF m.me (m.hear d.lm.L[m.seen]).least).1.L = d.lm.L := saysF_L' _ _ _
    refine ⟨⟨hok, fun w hwj e => ?_⟩, fun j hjw => ?_, .inl hL⟩
    · rw [set_lm, hL]
      by_cases hxw : w = x.W
      · subst hxw; rw [set_writer _ _ _ _ hi] at e; cases e
      · rw [set_other _ _ _ _ _ hi hxw] at e; exact h.no w hwj e
    · rw [if_neg (by omega)]
      unfold DkM.done
      by_cases hxw : j = x.W
      · subst hxw; rw [set_writer _ _ _ _ hi, hm]
        have : (m.hear d.lm.L[m.seen]).next = m.next := by unfold WM.hear; split <;> rfl
        show (m.hear d.lm.L[m.seen]).next - 1 = m.next - 1 + 0
        omega
      · rw [set_other _ _ _ _ _ hi hxw]; omega
  | clear m hm hd =>
    obtain ⟨hi, hme, hW, t, hin⟩ := h.ok.of_writer hm
    refine ⟨⟨hok, fun w hwj e => ?_⟩, fun j hjw => ?_, .inl rfl⟩
    · by_cases hxw : w = x.W
      · subst hxw; rw [set_writer _ _ _ _ hi] at e; cases e
      · rw [set_other _ _ _ _ _ hi hxw] at e; exact h.no w hwj e
    · rw [if_neg (by omega)]
      unfold DkM.done
      by_cases hxw : j = x.W
      · subst hxw; rw [set_writer _ _ _ _ hi, hm]
        show m.next - 1 = m.next - 1 + 0
        omega
      · rw [set_other _ _ _ _ _ hi hxw]; omega

/-- Nobody ever cleared. -/
def RBare (d : DkM) : Prop := ∀ w m, d.writer w = some m → m.base = pre d.lm.L m.seen
theorem RBare.new : RBare DkM.new := fun w m e => by
  unfold DkM.writer DkM.new at e; split at e <;> cases e
theorem room_bare {d : DkM} (h : d.Ok) (hb : RBare d) (x : RStep) (ho : d.over x = false) : RBare (d.room true x) := by
  have h5 : x.Do = 5 → d.room true x = d := fun e => by unfold DkM.room; rw [if_neg (fun a => a.2.2.2 ⟨rfl, e⟩)]
  have hr := room_does h true x ho
  have keep : ∀ (lm : LogM) (o : Option WM), isWriter x.W = true → (∀ s, s ≤ d.lm.L.length → pre lm.L s = pre d.lm.L s) → (∀ m, o = some m → m.base = pre lm.L m.seen) → RBare (d.set lm x.W o) := fun lm o hi hL hn w m e => by
    by_cases hxw : w = x.W
    · subst hxw; rw [set_writer _ _ _ _ hi] at e; exact hn m e
    · rw [set_other _ _ _ _ _ hi hxw] at e
      obtain ⟨_, _, _, t, hin⟩ := h.of_writer e
      rw [set_lm, hL _ hin.seen]; exact hb w m e
  generalize hd' : d.room true x = d' at *
  cases hr with
  | none => exact hb
  | join hw hd hn hh hj =>
    have hL : (d.lm.joinF x.W).1.L = d.lm.L := by rw [hj]; rfl
    refine keep _ _ hw (fun s _ => by rw [hL]) fun m e => ?_
    cases e; rw [hL]; exact (pre_len _).symm
  | put m hm hd u hu h0 =>
    obtain ⟨hi, hme, hW, t, hin⟩ := h.of_writer hm
    exact keep _ _ hi (fun s _ => rfl) fun m' e => by
      cases e
      show m.base = pre d.lm.L m.seen
      exact hb _ _ hm
  | send m hm hd u us hu h0 =>
    obtain ⟨hi, hme, hW, t, hin⟩ := h.of_writer hm
    obtain ⟨_, _, _, _, _, _, e⟩ := LogM.take_of _ h0
    have hL : (d.lm.takeF u).1.L = d.lm.L ++ [u] := by rw [e]
    refine keep _ _ hi (fun s hs => by rw [hL, pre_append _ _ _ hs]) fun m' e => ?_
    cases e
    rw [hL]
    show m.base = pre (d.lm.L ++ [u]) m.seen
    rw [pre_append _ _ _ hin.seen]; exact hb _ _ hm
  | hear m hm hd hl h0 =>
    obtain ⟨hi, hme, hW, t, hin⟩ := h.of_writer hm
    have hL : (d.lm.saysF m.me (m.hear d.lm.L[m.seen]).least).1.L = d.lm.L := saysF_L' _ _ _
    refine keep _ _ hi (fun s hs => by rw [hL]) fun m' e => ?_
    cases e
    rw [hL]
    have e1 : (m.hear d.lm.L[m.seen]).base = ap m.base d.lm.L[m.seen] ((m.seen : Int) + 1) := by unfold WM.hear; split <;> rfl
    have e2 : (m.hear d.lm.L[m.seen]).seen = m.seen + 1 := (WM.hear_seen _ _).1
    rw [e1, e2, hb _ _ hm]
    exact ((pre_succ h.lm.all m.seen hl).2.1).symm
  | clear m hm hd =>
    have e := h5 hd
    rw [e]; exact hb

/-- What a writer knows is the log, as far as it has seen it. -/
theorem room_knows {d : DkM} (h : d.Ok) {w : Int} {m : WM} (hw : d.writer w = some m) :
    textF (pre d.lm.L m.seen) = textF m.base ∧ clearOf d.lm.least (pre d.lm.L m.seen) = clearOf d.lm.least m.base ∧
    (∀ i (hi : i < m.ds.length), mayDo (apOs (pre d.lm.L m.seen) (m.ds.take i)) m.ds[i] = 0 ∨ mayDo (apOs (pre d.lm.L m.seen) (m.ds.take i)) m.ds[i] = 9) ∧
    viewN m.seen w (apOs (pre d.lm.L m.seen) m.ds) = m.view := by
  obtain ⟨hi, hme, hW, t, hin⟩ := h.of_writer hw
  have hts := hin.tSeen
  have hsl := hin.seen
  have hll := h.lm.len
  refine ⟨(hin.baseN _ _ (by omega)).symm, (hin.base_clear _ hin.tl).symm, hin.chain_pre h.lm, ?_⟩
  unfold WM.view
  rw [hin.viewN h.lm _ _ hts, hme]
end Go.Proofs.Ytneoeokfffnonac
