/- A room in memory: desks, and beside each writer its Scribe. -/
import Derived.Test.YtneoeokfffnonacDkObj
import Derived.Test.YtneoeokfffnonacScrW
import Derived.Test.YtneoeokfffnonacPlainW
set_option linter.unusedVariables false
set_option linter.unusedSimpArgs false
namespace Go.Proofs.Ytneoeokfffnonac
open Go.RowKit

/-- The Scribe of a writer. -/
def WM.sc (m : WM) : ScV := ⟨m.me, m.seen, m.next, m.base, m.ds, m.ns⟩
def DkM.scs (d : DkM) : Nat → Option ScV := fun j => (d.W j).map WM.sc
def setN {α : Type} (e : Nat → α) (j : Nat) (x : α) : Nat → α := fun i => if i = j then x else e i
theorem setN_same {α : Type} (e : Nat → α) (j : Nat) (x : α) : setN e j x j = x := if_pos rfl
theorem setN_other {α : Type} (e : Nat → α) (j i : Nat) (x : α) (h : i ≠ j) : setN e j x i = e i := if_neg h

/-- The Scribes of a room: from cell 5 of its block on. -/
structure ScRows (w : World) (base g : Nat) (gs : Nat → Nat) (FSk : Nat → Nat → Prop) (e : Nat → Option ScV) : Prop where
  no : ∀ j, j < 4 → e j = none → w.cell? ⟨g, 5 + j, none⟩ = some (.pointer none)
  sc : ∀ j, j < 4 → ∀ s, e j = some s → w.cell? ⟨g, 5 + j, none⟩ = some (.pointer (some ⟨(gs j), 0, none⟩)) ∧ ScrAt w base (FSk j) (gs j) s
  ng : ∀ j, j < 4 → ∀ s, e j = some s → ∀ k, FSk j k → k ≠ g
  apart : ∀ i j, i < 4 → j < 4 → i ≠ j → ∀ s t, e i = some s → e j = some t → ∀ k, FSk i k → ¬ FSk j k
structure RmRows (w : World) (base : Nat) (F : Nat → Prop) (g : Nat) (gw gs : Nat → Nat) (d : DkM) (e : Nat → Option ScV) (FD : Nat → Prop) (FSk : Nat → Nat → Prop) : Prop where
  dk : DkAt w base FD g gw d
  sc : ScRows w base g gs FSk e
  fd : ∀ k, FD k → F k
  fs : ∀ j, j < 4 → ∀ s, e j = some s → ∀ k, FSk j k → F k ∧ ¬ FD k
/-- The room of the desks d and the Scribes e lies at block g. -/
structure RmAt (w : World) (base : Nat) (F : Nat → Prop) (g : Nat) (gw gs : Nat → Nat) (d : DkM) (e : Nat → Option ScV) (bare : Bool) : Prop where
  lt : g < w.heap.size
  fg : F g
  foot : ∀ k, F k → base ≤ k ∧ k < w.heap.size
  fz : ∀ o, o < 10 → w.frozen? ⟨g, o, none⟩ = false
  c9 : w.cell? ⟨g, 9, none⟩ = some (.bool bare)
  rows : ∃ FD FSk, RmRows w base F g gw gs d e FD FSk

section
variable {w w' : World} {base : Nat} {F : Nat → Prop} {g : Nat} {gw gs : Nat → Nat} {d : DkM} {e : Nat → Option ScV} {bare : Bool} {FD : Nat → Prop} {FSk : Nat → Nat → Prop}
theorem RmAt.base_le (h : RmAt w base F g gw gs d e bare) : base ≤ w.heap.size := by have := h.foot g h.fg; omega
theorem ScRows.moves (h : ScRows w base g gs FSk e) (hlt : g < w.heap.size) {G : Nat → Prop} (hm : Moves G w w') (hg : ¬ G g) (hd : ∀ j, j < 4 → ∀ s, e j = some s → ∀ k, FSk j k → ¬ G k) : ScRows w' base g gs FSk e := by
  have hc : ∀ o, w'.cell? ⟨g, o, none⟩ = w.cell? ⟨g, o, none⟩ := fun o => hm.cell hlt hg o
  exact ⟨fun j hj en => (hc _).trans (h.no j hj en), fun j hj s es => ⟨(hc _).trans (h.sc j hj s es).1, (h.sc j hj s es).2.moves hm fun k hk => hd j hj s es k hk⟩, h.ng, h.apart⟩
theorem RmAt.moves (h : RmAt w base F g gw gs d e bare) {G : Nat → Prop} (hm : Moves G w w') (hd : ∀ k, F k → ¬ G k) : RmAt w' base F g gw gs d e bare := by
  obtain ⟨FD, FSk, r⟩ := h.rows
  have hg : ¬ G g := hd g h.fg
  exact ⟨Nat.lt_of_lt_of_le h.lt hm.size, h.fg, fun k hk => ⟨(h.foot k hk).1, Nat.lt_of_lt_of_le (h.foot k hk).2 hm.size⟩, fun o ho => (hm.frozen h.lt hg o).trans (h.fz o ho), (hm.cell h.lt hg _).trans h.c9,
    FD, FSk, ⟨r.dk.moves hm fun k hk => hd k (r.fd k hk), r.sc.moves h.lt hm hg fun j hj s es k hk => hd k (r.fs j hj s es k hk).1, r.fd, r.fs⟩⟩
theorem RmAt.later (h : RmAt w base F g gw gs d e bare) (hl : Below w.heap.size w w') : RmAt w' base F g gw gs d e bare := by
  have hb : Moves (fun k => w.heap.size ≤ k) w w' := Moves.of_below hl
  exact h.moves hb fun k hk => by have := (h.foot k hk).2; omega
theorem RmAt.drew (h : RmAt w base F g gw gs d e bare) : RmAt w.drew base F g gw gs d e bare := h.moves (G := fun _ => False) ⟨rfl, rfl, rfl, Nat.le_refl _, fun _ _ _ => rfl⟩ (fun _ _ h => h)
theorem RmAt.below (h : RmAt w base F g gw gs d e bare) (hm : Moves F w w') : Below base w w' := hm.below (fun k hk => (h.foot k hk).1) h.base_le
theorem RmAt.above {A : Nat} (h : RmAt w base F g gw gs d e bare) (hb : Below A w w') (hF : ∀ k, F k → k < A) : RmAt w' base F g gw gs d e bare :=
  h.moves (G := fun k => A ≤ k) ⟨hb.os, hb.tape, hb.output, hb.size, fun k _ hn => hb.block k (by omega)⟩ (fun k h1 h2 => by have := hF k h1; omega)
theorem RmAt.congr {d' : DkM} {e' : Nat → Option ScV} (h : RmAt w base F g gw gs d e bare) (hd : d = d') (he : e = e') : RmAt w base F g gw gs d' e' bare := hd ▸ he ▸ h

/-- What of the desks moves, but not the block of the room itself. -/
theorem RmRows.moveD (h : RmAt w base F g gw gs d e bare) (r : RmRows w base F g gw gs d e FD FSk) {G : Nat → Prop} (hG : ∀ k, G k → FD k ∧ k ≠ g) (hm : Moves G w w') {FD' : Nat → Prop} {d' : DkM} (hd : DkAt w' base FD' g gw d') (hgr : Grows FD w FD') :
    RmAt w' base (fun k => F k ∨ FD' k) g gw gs d' e bare ∧ Moves F w w' ∧ Grows F w (fun k => F k ∨ FD' k) := by
  have hgn : ¬ G g := fun x => (hG g x).2 rfl
  have hold : ∀ k, FD' k → F k ∨ w.heap.size ≤ k := fun k hk => by
    rcases hgr k hk with h1 | h1
    · exact .inl (r.fd k h1)
    · exact .inr h1
  refine ⟨⟨Nat.lt_of_lt_of_le h.lt hm.size, .inl h.fg, fun k hk => ?_, fun o ho => (hm.frozen h.lt hgn o).trans (h.fz o ho), (hm.cell h.lt hgn _).trans h.c9,
    FD', FSk, ⟨hd, r.sc.moves h.lt hm hgn fun j hj s es k hk hk' => (r.fs j hj s es k hk).2 (hG k hk').1, fun k hk => .inr hk, fun j hj s es k hk => ⟨.inl (r.fs j hj s es k hk).1, fun hk' => ?_⟩⟩⟩,
    ⟨hm.os, hm.tape, hm.output, hm.size, fun k hk hn => hm.block k hk fun x => hn (r.fd k (hG k x).1)⟩, fun k hk => ?_⟩
  · rcases hk with hk | hk
    · exact ⟨(h.foot k hk).1, Nat.lt_of_lt_of_le (h.foot k hk).2 hm.size⟩
    · exact hd.foot k hk
  · rcases hgr k hk' with h1 | h1
    · exact (r.fs j hj s es k hk).2 h1
    · have := (h.foot k (r.fs j hj s es k hk).1).2; omega
  · rcases hk with hk | hk
    · exact .inl hk
    · exact hold k hk
/-- One writer of the room taken out, and put back changed. -/
theorem RmAt.wrZ (h : RmAt w base F g gw gs d e bare) {j : Nat} (hj : j < 4) {m : WM} (hjm : d.W j = some m) :
    ∃ FW : Nat → Prop, (∀ k, FW k → F k ∧ k ≠ g) ∧ w.cell? ⟨g, 1 + j, none⟩ = some (.pointer (some ⟨(gw j), 0, none⟩)) ∧ WrAt w base FW (gw j) m.v ∧
      ∀ (w' : World) (F' : Nat → Prop) (m' : WM), Moves FW w w' → WrAt w' base F' (gw j) m'.v → Grows FW w F' → ∃ F2, RmAt w' base F2 g gw gs (d.setW j (some m')) e bare ∧ Moves F w w' ∧ Grows F w F2 := by
  obtain ⟨FD, FSk, r⟩ := h.rows
  obtain ⟨FW, h1, h2, h3, h4⟩ := r.dk.wrZ hj hjm
  refine ⟨FW, fun k hk => ⟨r.fd k (h1 k hk).1, (h1 k hk).2⟩, h2, h3, fun w' F' m' hm hw hg => ?_⟩
  obtain ⟨q1, q2, q3⟩ := h4 w' F' m' hm hw hg
  exact ⟨_, r.moveD h h1 hm q1 q3⟩
/-- The log of the room taken out, and put back changed. -/
theorem RmAt.logZ (h : RmAt w base F g gw gs d e bare) :
    ∃ (gl : Nat) (FL : Nat → Prop), (∀ k, FL k → F k ∧ k ≠ g) ∧ w.cell? ⟨g, 0, none⟩ = some (.pointer (some ⟨gl, 0, none⟩)) ∧ LogAt w base FL gl d.lm ∧
      ∀ (w' : World) (F' : Nat → Prop) (lm' : LogM), Moves FL w w' → LogAt w' base F' gl lm' → Grows FL w F' → ∃ F2, RmAt w' base F2 g gw gs (d.setL lm') e bare ∧ Moves F w w' ∧ Grows F w F2 := by
  obtain ⟨FD, FSk, r⟩ := h.rows
  obtain ⟨gl, FL, h1, h2, h3, h4⟩ := r.dk.logZ
  refine ⟨gl, FL, fun k hk => ⟨r.fd k (h1 k hk).1, (h1 k hk).2⟩, h2, h3, fun w' F' lm' hm hw hg => ?_⟩
  obtain ⟨q1, q2, q3⟩ := h4 w' F' lm' hm hw hg
  exact ⟨_, r.moveD h h1 hm q1 q3⟩
/-- One Scribe of the room taken out, and put back changed. -/
theorem RmAt.scZ (h : RmAt w base F g gw gs d e bare) {j : Nat} (hj : j < 4) {s : ScV} (hjs : e j = some s) :
    ∃ FSk : Nat → Prop, (∀ k, FSk k → F k ∧ k ≠ g) ∧ w.cell? ⟨g, 5 + j, none⟩ = some (.pointer (some ⟨(gs j), 0, none⟩)) ∧ ScrAt w base FSk (gs j) s ∧
      ∀ (w' : World) (F' : Nat → Prop) (s' : ScV), Moves FSk w w' → ScrAt w' base F' (gs j) s' → Grows FSk w F' → ∃ F2, RmAt w' base F2 g gw gs d (setN e j (some s')) bare ∧ Moves F w w' ∧ Grows F w F2 := by
  obtain ⟨FD, FSk, r⟩ := h.rows
  have hng := r.sc.ng j hj s hjs
  refine ⟨FSk j, fun k hk => ⟨(r.fs j hj s hjs k hk).1, hng k hk⟩, (r.sc.sc j hj s hjs).1, (r.sc.sc j hj s hjs).2, fun w' F' s' hm hw hg => ?_⟩
  have hgn : ¬ FSk j g := fun x => hng g x rfl
  have hc : ∀ o, w'.cell? ⟨g, o, none⟩ = w.cell? ⟨g, o, none⟩ := fun o => hm.cell h.lt hgn o
  have hnew : ∀ k, F' k → k ≠ g ∧ ¬ FD k := fun k hk => by
    rcases hg k hk with h1 | h1
    · exact ⟨hng k h1, (r.fs j hj s hjs k h1).2⟩
    · exact ⟨fun x => by have := h.lt; omega, fun x => by have := (r.dk.foot k x).2; omega⟩
  have hoth : ∀ i, i < 4 → i ≠ j → ∀ t, e i = some t → ∀ k, FSk i k → ¬ F' k := fun i hi hij t et k hk hk' => by
    rcases hg k hk' with h1 | h1
    · exact r.sc.apart i j hi hj hij t s et hjs k hk h1
    · have := (h.foot k (r.fs i hi t et k hk).1).2; omega
  refine ⟨fun k => F k ∨ F' k, ⟨Nat.lt_of_lt_of_le h.lt hm.size, .inl h.fg, fun k hk => ?_, fun o ho => (hm.frozen h.lt hgn o).trans (h.fz o ho), (hc _).trans h.c9,
    FD, fun i => if i = j then F' else FSk i, ⟨r.dk.moves hm fun k hk hk' => (r.fs j hj s hjs k hk').2 hk, ⟨fun i hi en => ?_, fun i hi t et => ?_, fun i hi t et k hk => ?_, fun a b ha hb hab x y ex ey k hk hk' => ?_⟩, fun k hk => .inl (r.fd k hk), fun i hi t et k hk => ?_⟩⟩,
    ⟨hm.os, hm.tape, hm.output, hm.size, fun k hk hn => hm.block k hk fun x => hn (r.fs j hj s hjs k x).1⟩, fun k hk => ?_⟩
  · rcases hk with hk | hk
    · exact ⟨(h.foot k hk).1, Nat.lt_of_lt_of_le (h.foot k hk).2 hm.size⟩
    · exact hw.foot k hk
  · by_cases hij : i = j
    · subst hij; rw [setN_same] at en; cases en
    · rw [setN_other _ _ _ _ hij] at en; exact (hc _).trans (r.sc.no i hi en)
  · by_cases hij : i = j
    · subst hij; rw [setN_same] at et; cases et
      simp only [if_pos]
      exact ⟨(hc _).trans (r.sc.sc i hi s hjs).1, hw⟩
    · rw [setN_other _ _ _ _ hij] at et; simp only [if_neg hij]
      exact ⟨(hc _).trans (r.sc.sc i hi t et).1, (r.sc.sc i hi t et).2.moves hm fun k hk hk' => r.sc.apart i j hi hj hij t s et hjs k hk hk'⟩
  · by_cases hij : i = j
    · simp only [if_pos hij] at hk; exact (hnew k hk).1
    · rw [setN_other _ _ _ _ hij] at et; simp only [if_neg hij] at hk; exact r.sc.ng i hi t et k hk
  · by_cases haj : a = j
    · by_cases hbj : b = j
      · omega
      · rw [setN_other _ _ _ _ hbj] at ey; simp only [if_neg hbj] at hk'; simp only [if_pos haj] at hk
        exact hoth b hb hbj y ey k hk' hk
    · rw [setN_other _ _ _ _ haj] at ex; simp only [if_neg haj] at hk
      by_cases hbj : b = j
      · simp only [if_pos hbj] at hk'; exact hoth a ha haj x ex k hk hk'
      · rw [setN_other _ _ _ _ hbj] at ey; simp only [if_neg hbj] at hk'; exact r.sc.apart a b ha hb hab x y ex ey k hk hk'
  · by_cases hij : i = j
    · simp only [if_pos hij] at hk; exact ⟨.inr hk, (hnew k hk).2⟩
    · rw [setN_other _ _ _ _ hij] at et; simp only [if_neg hij] at hk; exact ⟨.inl (r.fs i hi t et k hk).1, (r.fs i hi t et k hk).2⟩
  · rcases hk with hk | hk
    · exact .inl hk
    · rcases hg k hk with h1 | h1
      · exact .inl (r.fs j hj s hjs k h1).1
      · exact .inr h1
/-- A store into the block of the room leaves the Scribes' own blocks. -/
theorem ScRows.setCell (h : ScRows w base g gs FSk e) (o : Nat) (v : Value) (ho : o < 5 ∨ 9 ≤ o) : ScRows (w.setCell ⟨g, o, none⟩ v) base g gs FSk e := by
  have hm : Moves (fun k => k = g) w (w.setCell ⟨g, o, none⟩ v) := Moves.setCell _ _ _ rfl
  have hc : ∀ j, j < 4 → (w.setCell ⟨g, o, none⟩ v).cell? ⟨g, 5 + j, none⟩ = w.cell? ⟨g, 5 + j, none⟩ := fun j hj => World.cell?_setCell_other _ _ _ _ (fun x => by have := congrArg Addr.off x; simp at this; omega)
  exact ⟨fun j hj en => (hc j hj).trans (h.no j hj en), fun j hj s es => ⟨(hc j hj).trans (h.sc j hj s es).1, (h.sc j hj s es).2.moves hm fun k hk => h.ng j hj s es k hk⟩, h.ng, h.apart⟩
/-- A writer comes. -/
theorem RmAt.comeW (h : RmAt w base F g gw gs d e bare) {w1 : World} {j : Nat} (hj : j < 4) (hb : Below w.heap.size w w1) {g2 : Nat} {F2 : Nat → Prop} {m : WM} (hw : WrAt w1 w.heap.size F2 g2 m.v) :
    RmAt (w1.setCell ⟨g, 1 + j, none⟩ (.pointer (some ⟨g2, 0, none⟩))) base (fun k => F k ∨ F2 k) g (setN gw j g2) gs (d.setW j (some m)) e bare ∧ Moves F w (w1.setCell ⟨g, 1 + j, none⟩ (.pointer (some ⟨g2, 0, none⟩))) ∧ Grows F w (fun k => F k ∨ F2 k) := by
  obtain ⟨FD, FSk, r⟩ := h.rows
  obtain ⟨q1, q2, q3⟩ := r.dk.comeW hj hb hw
  have h1 := h.later hb
  have hbm : Moves (fun k => w.heap.size ≤ k) w w1 := Moves.of_below hb
  have r1 := r.sc.moves h.lt hbm (by have := h.lt; omega) (fun j hj s es k hk => by have := (h.foot k (r.fs j hj s es k hk).1).2; omega)
  have hnew : ∀ k, F2 k → w.heap.size ≤ k ∧ k < w1.heap.size := fun k hk => hw.foot k hk
  refine ⟨⟨by simpa using h1.lt, .inl h.fg, fun k hk => ?_, fun o ho => by rw [World.frozen?_setCell]; exact h1.fz o ho, (World.cell?_setCell_other _ _ _ _ (fun x => by have := congrArg Addr.off x; simp at this; omega)).trans h1.c9,
    fun k => FD k ∨ F2 k, FSk, ⟨q1, r1.setCell _ _ (.inl (by omega)), fun k hk => hk.imp (r.fd k) id, fun i hi s es k hk => ⟨.inl (r.fs i hi s es k hk).1, fun hk' => ?_⟩⟩⟩,
    ⟨q2.os, q2.tape, q2.output, q2.size, fun k hk hn => q2.block k hk fun x => hn (r.fd k x)⟩, fun k hk => ?_⟩
  · simp only [World.size_setCell]
    rcases hk with hk | hk
    · exact h1.foot k hk
    · exact ⟨Nat.le_trans h.base_le (hnew k hk).1, (hnew k hk).2⟩
  · rcases hk' with h2 | h2
    · exact (r.fs i hi s es k hk).2 h2
    · have := (hnew k h2).1; have := (h.foot k (r.fs i hi s es k hk).1).2; omega
  · rcases hk with hk | hk
    · exact .inl hk
    · exact .inr (hnew k hk).1
theorem ScrAt.mono {b2 : Nat} {s : ScV} {G : Nat → Prop} (h : ScrAt w b2 G g s) (hb : base ≤ b2) : ScrAt w base G g s := by
  obtain ⟨a, cap, oa, ocap, r0, r1, r2, r3, r4, r5⟩ := h.rows
  exact ⟨h.lt, h.fg, fun k hk => ⟨Nat.le_trans hb (h.foot k hk).1, (h.foot k hk).2⟩, h.fz, h.c0, h.c1, h.c2, h.c5, a, cap, oa, ocap, r0, r1, r2.mono hb, r3.mono hb, r4, r5⟩
/-- A Scribe comes. -/
theorem RmAt.comeS (h : RmAt w base F g gw gs d e bare) {w1 : World} {j : Nat} (hj : j < 4) (hb : Below w.heap.size w w1) {g2 : Nat} {F2 : Nat → Prop} {s : ScV} (hw : ScrAt w1 w.heap.size F2 g2 s) :
    RmAt (w1.setCell ⟨g, 5 + j, none⟩ (.pointer (some ⟨g2, 0, none⟩))) base (fun k => F k ∨ F2 k) g gw (setN gs j g2) d (setN e j (some s)) bare ∧ Moves F w (w1.setCell ⟨g, 5 + j, none⟩ (.pointer (some ⟨g2, 0, none⟩))) ∧ Grows F w (fun k => F k ∨ F2 k) := by
  obtain ⟨FD, FSk, r⟩ := h.rows
  have h1 := h.later hb
  have hbm : Moves (fun k => w.heap.size ≤ k) w w1 := Moves.of_below hb
  have r1 := r.sc.moves h.lt hbm (by have := h.lt; omega) (fun j hj s es k hk => by have := (h.foot k (r.fs j hj s es k hk).1).2; omega)
  have hd1 := (r.dk.later hb).setOther (5 + j) (by omega) (.pointer (some ⟨g2, 0, none⟩))
  have hnew : ∀ k, F2 k → w.heap.size ≤ k ∧ k < w1.heap.size := fun k hk => hw.foot k hk
  have hnF : ∀ k, F2 k → ¬ F k := fun k hk x => by have := (hnew k hk).1; have := (h.foot k x).2; omega
  have hm : Moves (fun k => k = g) w1 (w1.setCell ⟨g, 5 + j, none⟩ (.pointer (some ⟨g2, 0, none⟩))) := Moves.setCell _ _ _ rfl
  have hc : ∀ o, o ≠ 5 + j → (w1.setCell ⟨g, 5 + j, none⟩ (.pointer (some ⟨g2, 0, none⟩))).cell? ⟨g, o, none⟩ = w1.cell? ⟨g, o, none⟩ := fun o ho => World.cell?_setCell_other _ _ _ _ (fun x => by have := congrArg Addr.off x; simp at this; omega)
  obtain ⟨v, hv⟩ : ∃ v, w1.cell? ⟨g, 5 + j, none⟩ = some v := by
    cases en : e j with
    | none => exact ⟨_, r1.no j hj en⟩
    | some s => exact ⟨_, (r1.sc j hj s en).1⟩
  refine ⟨⟨by simpa using h1.lt, .inl h.fg, fun k hk => ?_, fun o ho => by rw [World.frozen?_setCell]; exact h1.fz o ho, (hc _ (by omega)).trans h1.c9,
    FD, fun i => if i = j then F2 else FSk i, ⟨hd1, ⟨fun i hi en => ?_, fun i hi t et => ?_, fun i hi t et k hk => ?_, fun a b ha hb' hab x y ex ey k hk hk' => ?_⟩, fun k hk => .inl (r.fd k hk), fun i hi t et k hk => ?_⟩⟩,
    (Moves.of_below (F := F) hb).trans (Moves.setCell w1 ⟨g, 5 + j, none⟩ (.pointer (some ⟨g2, 0, none⟩)) h.fg) (fun _ _ k => k), fun k hk => ?_⟩
  · simp only [World.size_setCell]
    rcases hk with hk | hk
    · exact h1.foot k hk
    · exact ⟨Nat.le_trans h.base_le (hnew k hk).1, (hnew k hk).2⟩
  · by_cases hij : i = j
    · subst hij; rw [setN_same] at en; cases en
    · rw [setN_other _ _ _ _ hij] at en; exact (hc _ (by omega)).trans (r1.no i hi en)
  · by_cases hij : i = j
    · subst hij; rw [setN_same] at et; cases et
      simp only [if_pos]
      rw [setN_same]
      exact ⟨World.cell?_setCell_same _ _ _ hv, (hw.mono h.base_le).moves hm fun k hk x => hnF k hk (x ▸ h.fg)⟩
    · rw [setN_other _ _ _ _ hij] at et; simp only [if_neg hij]
      rw [setN_other _ _ _ _ hij]
      exact ⟨(hc _ (by omega)).trans (r1.sc i hi t et).1, (r1.sc i hi t et).2.moves hm fun k hk => r1.ng i hi t et k hk⟩
  · by_cases hij : i = j
    · simp only [if_pos hij] at hk; exact fun x => hnF k hk (x ▸ h.fg)
    · rw [setN_other _ _ _ _ hij] at et; simp only [if_neg hij] at hk; exact r1.ng i hi t et k hk
  · by_cases haj : a = j
    · by_cases hbj : b = j
      · omega
      · rw [setN_other _ _ _ _ hbj] at ey; simp only [if_neg hbj] at hk'; simp only [if_pos haj] at hk
        exact hnF k hk (r.fs b hb' y ey k hk').1
    · rw [setN_other _ _ _ _ haj] at ex; simp only [if_neg haj] at hk
      by_cases hbj : b = j
      · simp only [if_pos hbj] at hk'; exact hnF k hk' (r.fs a ha x ex k hk).1
      · rw [setN_other _ _ _ _ hbj] at ey; simp only [if_neg hbj] at hk'; exact r.sc.apart a b ha hb' hab x y ex ey k hk hk'
  · by_cases hij : i = j
    · simp only [if_pos hij] at hk; exact ⟨.inr hk, fun x => hnF k hk (r.fd k x)⟩
    · rw [setN_other _ _ _ _ hij] at et; simp only [if_neg hij] at hk; exact ⟨.inl (r.fs i hi t et k hk).1, (r.fs i hi t et k hk).2⟩
  · rcases hk with hk | hk
    · exact .inl hk
    · exact .inr (hnew k hk).1
end
end Go.Proofs.Ytneoeokfffnonac
