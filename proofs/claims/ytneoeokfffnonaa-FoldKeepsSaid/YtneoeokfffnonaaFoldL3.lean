/- The plain law FoldLists: what deeds make is a list. No program in sight. -/
import Derived.Test.YtneoeokfffnonaaFoldL2
namespace Go.Proofs.Ytneoeokfffnonaa
open Go.RowKit

def cntBy (w : Int) (ds : List Dd) : Int := ((ds.filter fun d => d.By == w).length : Nat)
def numbered (ds : List Dd) : Prop := ∀ i (h : i < ds.length), isWriter ds[i].By = true ∧ ds[i].No = cntBy ds[i].By (ds.take i) + 1 ∧ ds[i].Seen ≤ i
def sumText (ds : List Dd) : Nat := (ds.map fun d => d.Text.size).sum

def key (c : Ch) : Int × Int × Int := (c.By, c.No, c.K)
theorem same_key (a b : Ch) : a.same b = decide (key a = key b) := by
  unfold Ch.same key
  rw [Bool.eq_iff_iff]; simp [and_assoc]
theorem takeGo_key (seen by_ lo hi number : Int) (l : List Ch) : ∀ k, (takeGo seen by_ lo hi number l k).map key = l.map key := by
  induction l with
  | nil => intro k; rfl
  | cons c l ih =>
    intro k; unfold takeGo; split
    · rw [List.map_cons, List.map_cons, ih]; split <;> rfl
    · rw [List.map_cons, List.map_cons, ih]
theorem takeGo_mem (seen by_ lo hi number : Int) (l : List Ch) : ∀ k, ∀ x ∈ takeGo seen by_ lo hi number l k, ∃ c ∈ l, x = c ∨ (c.sees seen by_ = true ∧ x = mark by_ number c) := by
  induction l with
  | nil => intro k x hx; simp [takeGo] at hx
  | cons c l ih =>
    intro k x hx
    unfold takeGo at hx
    split at hx
    · rename_i hs
      rw [List.mem_cons] at hx
      rcases hx with h | h
      · refine ⟨c, by simp, ?_⟩
        rw [h]; split
        · exact .inr ⟨hs, rfl⟩
        · exact .inl rfl
      · obtain ⟨y, hy, h⟩ := ih _ x h
        exact ⟨y, by simp [hy], h⟩
    · rw [List.mem_cons] at hx
      rcases hx with h | h
      · exact ⟨c, by simp, .inl h⟩
      · obtain ⟨y, hy, h⟩ := ih _ x h
        exact ⟨y, by simp [hy], h⟩

theorem pairwise_key (l : List Ch) : l.Pairwise (fun a b => a.same b = false) ↔ (l.map key).Pairwise (· ≠ ·) := by
  rw [List.pairwise_map]
  constructor <;> intro h <;> refine h.imp ?_ <;> intro a b <;> rw [same_key] <;> simp

theorem findFrom_none (c : Ch) (l : List Ch) : ∀ i, (∀ x ∈ l, x.same c = false) → findFrom c l i = -1 := by
  induction l with
  | nil => intro i _; rfl
  | cons y l ih =>
    intro i h
    unfold findFrom
    rw [h y (by simp), if_neg (by simp)]
    exact ih _ fun x hx => h x (by simp [hx])

theorem chk_zero (log : Int) (l : List Ch) : ∀ pre, (∀ c ∈ l, bad1 c = false ∧ bad2 log c = false ∧ bad3 c = false) → (pre ++ l).Pairwise (fun a b => a.same b = false) → chk log pre l = 0 := by
  induction l with
  | nil => intro pre _ _; rfl
  | cons c l ih =>
    intro pre h hp
    unfold chk
    obtain ⟨h1, h2, h3⟩ := h c (by simp)
    have hf : find pre c = -1 := findFrom_none c pre 0 fun x hx => (List.pairwise_append.1 hp).2.2 x hx c (by simp)
    rw [h1, h2, h3, hf]
    simp only [Bool.false_eq_true, if_false]
    rw [if_neg (by omega)]
    exact ih _ (fun x hx => h x (by simp [hx])) (by simpa using hp)

structure Good (k : Nat) (ds : List Dd) (c : Ch) : Prop where
  b1 : bad1 c = false
  in1 : 1 ≤ c.In
  in2 : c.In ≤ k
  out0 : 0 ≤ c.Out
  out1 : c.Out ≤ k
  out2 : 0 < c.Out → c.In < c.Out ∧ 0 < c.Gone
  no : c.No ≤ cntBy c.By (ds.take k)

theorem cntBy_snoc (w : Int) (ds : List Dd) (k : Nat) (h : k < ds.length) : cntBy w (ds.take (k + 1)) = cntBy w (ds.take k) + if ds[k].By = w then 1 else 0 := by
  unfold cntBy
  rw [List.take_succ_eq_append_getElem h, List.filter_append]
  by_cases e : ds[k].By = w <;> simp [e]

theorem cntBy_nonneg (w : Int) (ds : List Dd) : 0 ≤ cntBy w ds := by unfold cntBy; omega

theorem bad1_false {c : Ch} (h : bad1 c = false) : isWriter c.By = true ∧ 1 ≤ c.No ∧ 0 ≤ c.K ∧ c.K < 20 ∧ 0 ≤ c.Gone ∧ c.Gone < 16 := by
  rcases bad1_cases c with h1 | h1 | h1 | h1 | h1 | h1 | h1 <;> first | exact ⟨h1.2.1, h1.2.2.1, h1.2.2.2.1, h1.2.2.2.2.1, h1.2.2.2.2.2⟩ | (rw [h1.1] at h; cases h)
theorem bad1_intro {c : Ch} (h1 : isWriter c.By = true) (h2 : 1 ≤ c.No) (h3 : 0 ≤ c.K) (h4 : c.K < 20) (h5 : 0 ≤ c.Gone) (h6 : c.Gone < 16) : bad1 c = false := by
  unfold bad1; rw [h1]; simp; omega

theorem gone_add (g b : Int) (hb : isWriter b = true) (h : took g b = false) (h0 : 0 ≤ g) (h1 : g < 16) : 0 < g + bitOf b ∧ g + bitOf b < 16 := by
  rcases isWriter_cases hb with rfl | rfl | rfl | rfl
  · rw [took_0] at h; simp [bitOf] at *; omega
  · rw [took_1] at h; simp [bitOf] at *; omega
  · rw [took_2] at h; simp [bitOf] at *; omega
  · rw [took_3] at h; simp [bitOf] at *; omega

structure Made (k : Nat) (ds : List Dd) (l : List Ch) : Prop where
  good : ∀ c ∈ l, Good k ds c
  apart : l.Pairwise (fun a b => a.same b = false)
  len : l.length = sumText (ds.take k)
  max : l.length ≤ 200

theorem textOk_size {s : ByteArray} (h : textOk s = true) : 0 < s.size ∧ s.size ≤ 20 := by
  unfold textOk at h; simp only [Bool.and_eq_true, decide_eq_true_eq] at h; exact h.1

theorem newOf_apart (d : Dd) (n : Int) : (newOf d n).Pairwise (fun a b => a.same b = false) := by
  rw [List.pairwise_iff_getElem]
  intro i j hi hj hij
  have hK : ∀ i (h : i < (newOf d n).length), ((newOf d n)[i]).K = i := by intro i h; simp [newOf]
  have h1 := hK i hi
  have h2 := hK j hj
  rw [same_key]
  simp only [key, decide_eq_false_iff_not, Prod.mk.injEq]
  omega

theorem made_step (k : Nat) (ds : List Dd) (hk : k < ds.length) (hds : ds.length ≤ 150) (hn : numbered ds) (l : List Ch) (h : Made k ds l) (h0 : (doF l ds[k] (k + 1)).2 = 0) : Made (k + 1) ds (doF l ds[k] (k + 1)).1 := by
  obtain ⟨hw, hno, hseen⟩ := hn k hk
  have hcs := fun w => cntBy_snoc w ds k hk
  have hst : sumText (ds.take (k + 1)) = sumText (ds.take k) + ds[k].Text.size := by
    unfold sumText; rw [List.take_succ_eq_append_getElem hk, List.map_append, List.sum_append]; simp
  have hc0 := cntBy_nonneg ds[k].By (ds.take k)
  generalize hd : ds[k] = d at *
  have up : ∀ c, Good k ds c → Good (k + 1) ds c := fun c g => ⟨g.b1, g.in1, by have := g.in2; omega, g.out0, by have := g.out1; omega, g.out2, by have := g.no; rw [hcs]; split <;> omega⟩
  rcases doF_cases l d (k + 1) with ⟨h1, e⟩ | ⟨_, hn, e⟩ | ⟨h1, hn, hk2, e⟩ | ⟨h1, hn, hk2, e⟩
  · rw [e] at h0; exact absurd h0 h1
  · omega
  · rw [e]
    obtain ⟨f1, f2, f3⟩ := mayDo_zero h1
    have hq := (deedFault_zero f1).2.2.2.2.2.2.2
    have ht : textOk d.Text = true := by
      rcases hq with ⟨_, _, h⟩ | ⟨h, _⟩
      · exact h
      · omega
    have hts := textOk_size ht
    refine ⟨fun c hc => ?_, ?_, ?_, ?_⟩
    · simp only [List.mem_append] at hc
      rcases hc with (hc | hc) | hc
      · exact up _ (h.good c (List.mem_of_mem_take hc))
      · obtain ⟨a1, a2, a3, a4, a5, a6, a7⟩ := newOf_mem hc
        refine ⟨bad1_intro (by rw [a1]; exact hw) (by omega) a6 (by omega) (by omega) (by omega), by omega, by omega, by omega, by omega, by omega, ?_⟩
        rw [hcs, a1, if_pos rfl]; omega
      · exact up _ (h.good c (List.mem_of_mem_drop hc))
    · have hap := h.apart
      rw [← List.take_append_drop (putAt l d) l] at hap
      have hold : ∀ x ∈ l, ∀ y ∈ newOf d (k + 1), x.same y = false ∧ y.same x = false := by
        intro x hx y hy
        obtain ⟨a1, a2, _⟩ := newOf_mem hy
        have g := (h.good x hx).no
        have hne : key x ≠ key y ∧ key y ≠ key x := by
          unfold key
          constructor
          · intro e; simp only [Prod.mk.injEq] at e
            rw [e.1, a1] at g; omega
          · intro e; simp only [Prod.mk.injEq] at e
            rw [← e.1, a1] at g; omega
        rw [same_key, same_key]; simp only [decide_eq_false_iff_not]; exact hne
      simp only
      rw [List.append_assoc, List.pairwise_append] at *
      obtain ⟨p1, p2, p3⟩ := hap
      refine ⟨p1, List.pairwise_append.2 ⟨newOf_apart d _, p2, fun x hx y hy => (hold y (List.mem_of_mem_drop hy) x hx).2⟩, fun x hx y hy => ?_⟩
      rw [List.mem_append] at hy
      rcases hy with hy | hy
      · exact (hold x (List.mem_of_mem_take hx) y hy).1
      · exact p3 x hx y hy
    · have := putAt_le l d
      have hl := h.len
      simp only [List.length_append, newOf_length, List.length_take, List.length_drop]
      omega
    · have := putAt_le l d
      simp only [List.length_append, newOf_length, List.length_take, List.length_drop]
      omega
  · rw [e]
    obtain ⟨f1, f2, f3⟩ := mayDo_zero h1
    have hq := (deedFault_zero f1).2.2.2.2.2.2.2
    have ht : d.Text.size = 0 := by
      rcases hq with ⟨h, _⟩ | ⟨_, _, _, h⟩
      · omega
      · exact h
    refine ⟨fun x hx => ?_, ?_, ?_, ?_⟩
    · obtain ⟨c, hc, rfl | ⟨hs, rfl⟩⟩ := takeGo_mem _ _ _ _ _ _ _ x hx
      · exact up _ (h.good _ hc)
      · have g := h.good c hc
        obtain ⟨b1, b2, b3, b4, b5, b6⟩ := bad1_false g.b1
        have ga := gone_add c.Gone d.By hw (sees_took hs) b5 b6
        have hno : (mark d.By (k + 1) c).Out = c.Out ∧ 0 < c.Out ∨ (mark d.By (k + 1) c).Out = k + 1 := by
          rw [mark_Out]; unfold out1
          have := g.out0
          split
          · exact .inr rfl
          · exact .inl ⟨rfl, by omega⟩
        have hg2 := g.out2
        have hg3 := g.in2
        refine ⟨bad1_intro b1 b2 b3 b4 (by show 0 ≤ c.Gone + bitOf d.By; omega) ga.2, g.in1, ?_, ?_, ?_, ?_, (up _ g).no⟩
        · show c.In ≤ _; omega
        · have := g.out0; omega
        · have := g.out1; omega
        · intro _
          refine ⟨?_, ga.1⟩
          show c.In < _
          rcases hno with ⟨h1, h2⟩ | h1
          · rw [h1]; exact (hg2 h2).1
          · rw [h1]; omega
    · rw [pairwise_key]; simp only; rw [takeGo_key, ← pairwise_key]; exact h.apart
    · simp only; rw [takeGo_length, h.len, hst]; omega
    · simp only; rw [takeGo_length]; exact h.max

theorem lists (ds : List Dd) (hds : ds.length ≤ 150) (hn : numbered ds) : ∀ k, k ≤ ds.length → (allF (ds.take k)).2.1 = 0 → Made k ds (allF (ds.take k)).1 := by
  intro k
  induction k with
  | zero => intro _ _; exact ⟨fun c hc => by simp [allF, allFrom] at hc, by simp [allF, allFrom], by simp [allF, allFrom, sumText], by simp [allF, allFrom]⟩
  | succ k ih =>
    intro hk h
    have hk' : k < ds.length := by omega
    unfold allF at h ih ⊢
    rw [List.take_succ_eq_append_getElem hk', allFrom_append] at h ⊢
    by_cases h0 : (allFrom [] 0 (ds.take k)).2.1 = 0
    · rw [if_pos h0] at h ⊢
      have hl : ((ds.take k).length : Int) = k := by simp; omega
      rw [hl, Int.zero_add, allFrom_cons] at h ⊢
      by_cases h1 : (doF (allFrom [] 0 (ds.take k)).1 ds[k] (k + 1)).2 = 0
      · rw [if_pos h1] at h ⊢
        exact made_step k ds hk' hds hn _ (ih (by omega) h0) h1
      · rw [if_neg h1] at h; exact absurd h h1
    · rw [if_neg h0] at h; exact absurd h h0

theorem allFrom_fail (ds : List Dd) : ∀ out i, (allFrom out i ds).2.1 ≠ 0 → (allFrom out i ds).1 = [] := by
  induction ds with
  | nil => intro out i h; exact absurd rfl h
  | cons d ds ih =>
    intro out i h
    rw [allFrom_cons] at h ⊢
    split
    · rename_i h0; rw [if_pos h0] at h; exact ih _ _ h
    · rfl

/-- FoldLists. -/
theorem lists_check (ds : List Dd) (hds : ds.length ≤ 150) (hn : numbered ds) (h : (allF ds).2.1 = 0) : listFault (allF ds).1 ds.length = 0 ∧ (allF ds).1.length = sumText ds := by
  have m := lists ds hds hn ds.length (Nat.le_refl _) (by rw [List.take_length]; exact h)
  rw [List.take_length] at m
  refine ⟨?_, by rw [m.len, List.take_length]⟩
  unfold listFault
  rw [if_neg (by have := m.max; omega)]
  refine chk_zero _ _ [] (fun c hc => ?_) (by simpa using m.apart)
  have g := m.good c hc
  refine ⟨g.b1, ?_, ?_⟩
  · unfold bad2
    have := g.in1; have := g.in2; have := g.out0; have := g.out1
    have e1 : (decide (c.In < 1) || decide ((ds.length : Int) < c.In)) = false := by simp; omega
    rw [e1]; simp; omega
  · unfold bad3
    by_cases ho : 0 < c.Out
    · have := g.out2 ho
      simp; omega
    · simp [ho]
end Go.Proofs.Ytneoeokfffnonaa
