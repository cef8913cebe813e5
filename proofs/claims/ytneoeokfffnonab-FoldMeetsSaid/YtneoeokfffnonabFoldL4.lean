/- The plain law FoldMeets: whoever did not know of it comes left. No program in sight. -/
import Derived.Test.YtneoeokfffnonabFoldL3
namespace Go.Proofs.Ytneoeokfffnonab
open Go.RowKit

theorem behindFrom_prefix (seen by_ : Int) (l : List Ch) : ∀ (n : Nat) (i : Int), 1 ≤ n → n ≤ l.length → (∀ c ∈ l.take n, c.sees seen by_ = true) → behindFrom seen by_ l n i = i + n := by
  induction l with
  | nil => intro n i h1 h2; simp at h2; omega
  | cons c l ih =>
    intro n i h1 h2 h
    obtain ⟨m, rfl⟩ : ∃ m, n = m + 1 := ⟨n - 1, by omega⟩
    rw [List.take_succ_cons] at h
    unfold behindFrom
    rw [h c (by simp)]
    simp only [if_true]
    by_cases hm : m = 0
    · subst hm; rw [if_pos (by simp)]; omega
    · rw [if_neg (by omega), show ((m + 1 : Nat) : Int) - 1 = (m : Nat) by omega, ih m (i + 1) (by omega) (by simp at h2; omega) (fun x hx => h x (by simp [hx]))]
      omega

theorem behind_prefix (seen by_ : Int) (l : List Ch) (n : Nat) (h2 : n ≤ l.length) (h : ∀ c ∈ l.take n, c.sees seen by_ = true) : behind seen by_ l n = n := by
  unfold behind
  by_cases h0 : n = 0
  · subst h0; rw [if_pos (by simp)]; rfl
  · rw [if_neg (by omega), behindFrom_prefix seen by_ l n 0 (by omega) h2 h]; omega

/-- A put at a place that its writer sees all ahead of, where nothing open stands. -/
theorem put_at (l : List Ch) (d : Dd) (k : Nat) (number : Int) (hk : k ≤ l.length) (hat : d.At = k) (hd : deedFault d = 0) (hkind : d.Kind = 1) (hm : d.Many = 0) (hs : ∀ c ∈ l.take k, c.sees d.Seen d.By = true)
    (ho : ∀ c ∈ l, c.In ≠ 1073741824) (hn : 1 ≤ number) (hsz : l.length + d.Text.size ≤ 200) : doF l d number = (l.take k ++ newOf d number ++ l.drop k, 0) := by
  have hb := behind_prefix d.Seen d.By l k hk hs
  have hp : putAt l d = k := by
    unfold putAt; rw [hat, hb, Int.toNat_natCast]
    rcases Nat.lt_or_ge k l.length with h | h
    · rw [skip_step _ _ _ h, if_neg]
      unfold openOther
      have := ho l[k] (List.getElem_mem h)
      simp [this]
    · exact skip_end _ _ _ h
  have hv : k ≤ (vis d.Seen d.By l).length := by
    have e : vis d.Seen d.By l = vis d.Seen d.By (l.take k) ++ vis d.Seen d.By (l.drop k) := by rw [← vis_append, List.take_append_drop]
    rw [e]
    have : vis d.Seen d.By (l.take k) = l.take k := List.filter_eq_self.2 hs
    rw [this]; simp; omega
  have hmay := mayDo_intro (l := l) hd (by omega) hsz
  rcases doF_cases l d number with ⟨h1, e⟩ | ⟨_, hn, e⟩ | ⟨h1, hn, hk2, e⟩ | ⟨h1, hn, hk2, e⟩
  · exact absurd hmay h1
  · omega
  · rw [e, hp]
  · omega

theorem doF_fault (l : List Ch) (d : Dd) (number : Int) (h : deedFault d ≠ 0) : doF l d number = ([], deedFault d) := by
  have : mayDo l d = deedFault d := by unfold mayDo; rw [if_neg h]
  unfold doF; rw [if_neg (by rw [this]; exact h), this]

/-- The list of the writer 0's pieces. -/
structure Base (n : Nat) (bs : List Int) (l : List Ch) : Prop where
  c : l.map Ch.C = bs
  fact : ∀ c ∈ l, c.By = 0 ∧ c.Out = 0 ∧ c.Gone = 0 ∧ c.In ≤ n

def pieceD (j : Nat) (s : ByteArray) : Dd := ⟨1, 0, j + 1, j, 20 * j, 0, s⟩

theorem fault_put (By No Seen At : Int) (s : ByteArray) (hb : isWriter By = true) (h1 : 1 ≤ No) (h2 : No ≤ 120) (h3 : 0 ≤ Seen) (h4 : Seen ≤ 120) (h5 : 0 ≤ At) (h6 : At ≤ 200) : deedFault ⟨1, By, No, Seen, At, 0, s⟩ = if textOk s = true then 0 else 4 := by
  unfold deedFault deedRange
  simp only [if_true, hb, Bool.not_true, Bool.false_or]
  have e : (decide (No < 1) || decide (120 < No) || decide (Seen < 0) || decide (120 < Seen) || decide (At < 0) || decide (200 < At)) = false := by simp; omega
  rw [e]; simp

theorem pieces_ok (txt : Nat → ByteArray) (bs : Nat → List Int) (n : Nat) (hn : n ≤ 100) (h0 : bs 0 = []) (hstep : ∀ j, j < n → bs (j + 1) = bs j ++ bytesOf (txt j)) (hlen : ∀ j, j < n → (bs j).length = 20 * j) (hmax : ∀ j, j ≤ n → (bs j).length ≤ 100) :
    ∀ j, j ≤ n → ((allF ((List.range j).map fun i => pieceD i (txt i))).2 = (0, 0) ∧ Base j (bs j) (allF ((List.range j).map fun i => pieceD i (txt i))).1) ∨
      ∃ i, i < j ∧ deedFault (pieceD i (txt i)) ≠ 0 ∧ (allF ((List.range j).map fun i => pieceD i (txt i))).2 = (deedFault (pieceD i (txt i)), (i : Int)) := by
  intro j
  induction j with
  | zero => intro _; exact .inl ⟨rfl, ⟨by rw [h0]; rfl, fun c hc => by simp [allF, allFrom] at hc⟩⟩
  | succ j ih =>
    intro hj
    have hjn : j < n := by omega
    unfold allF at ih ⊢
    rw [List.range_succ, List.map_append, allFrom_append]
    simp only [List.map_cons, List.map_nil, List.length_map, List.length_range, Int.zero_add]
    rcases ih (by omega) with ⟨h1, hb⟩ | ⟨i, hi, hf, he⟩
    · have h1' : (allFrom [] 0 ((List.range j).map fun i => pieceD i (txt i))).2.1 = 0 := by rw [h1]
      rw [if_pos h1']
      generalize (allFrom [] 0 ((List.range j).map fun i => pieceD i (txt i))).1 = l at *
      rw [allFrom_cons]
      by_cases hd : deedFault (pieceD j (txt j)) = 0
      · have hl : l.length = 20 * j := by have := congrArg List.length hb.c; rw [List.length_map, hlen j hjn] at this; exact this
        have hm := hmax (j + 1) (by omega)
        rw [hstep j hjn, List.length_append, bytesOf_length, hlen j hjn] at hm
        have hp := put_at l (pieceD j (txt j)) (20 * j) (j + 1) (by omega) (by simp [pieceD]) hd rfl rfl (fun c hc => by
            obtain ⟨a1, a2, a3, a4⟩ := hb.fact c (List.mem_of_mem_take hc)
            rw [fresh_sees a2 a3]; unfold Ch.knowsIn; simp [pieceD, a1]) (fun c hc => by
            obtain ⟨a1, a2, a3, a4⟩ := hb.fact c hc; omega) (by omega) (by rw [hl]; simp only [pieceD]; omega)
        rw [hp]
        simp only [if_true]
        left
        refine ⟨rfl, ?_⟩
        show Base (j + 1) (bs (j + 1)) (l.take (20 * j) ++ newOf (pieceD j (txt j)) (j + 1) ++ l.drop (20 * j))
        rw [List.take_of_length_le (by omega), List.drop_of_length_le (by omega), List.append_nil]
        refine ⟨by rw [List.map_append, hb.c, newOf_C, hstep j hjn]; rfl, fun c hc => ?_⟩
        rw [List.mem_append] at hc
        rcases hc with hc | hc
        · obtain ⟨a1, a2, a3, a4⟩ := hb.fact c hc
          exact ⟨a1, a2, a3, by omega⟩
        · obtain ⟨a1, a2, a3, a4, a5, _⟩ := newOf_mem hc
          exact ⟨a1, a4, a5, by omega⟩
      · right
        rw [doF_fault _ _ _ hd, if_neg hd]
        exact ⟨j, by omega, hd, rfl⟩
    · right
      have h1' : (allFrom [] 0 ((List.range j).map fun i => pieceD i (txt i))).2.1 ≠ 0 := by rw [he]; exact hf
      rw [if_neg h1']
      exact ⟨i, by omega, hf, he⟩

theorem Base.len {n : Nat} {bs : List Int} {l : List Ch} (h : Base n bs l) : l.length = bs.length := by rw [← h.c, List.length_map]

theorem Base.sees {n : Nat} {bs : List Int} {l : List Ch} (h : Base n bs l) (seen by_ : Int) (hs : n ≤ seen) : ∀ c ∈ l, c.sees seen by_ = true := by
  intro c hc
  obtain ⟨a1, a2, a3, a4⟩ := h.fact c hc
  rw [fresh_sees a2 a3]; unfold Ch.knowsIn; simp; omega

/-- FoldMeets: of the whole list. -/
theorem meets (txt : Nat → ByteArray) (bs : Nat → List Int) (n : Nat) (hn : n ≤ 100) (h0 : bs 0 = []) (hstep : ∀ j, j < n → bs (j + 1) = bs j ++ bytesOf (txt j)) (hlen : ∀ j, j < n → (bs j).length = 20 * j) (hmax : ∀ j, j ≤ n → (bs j).length ≤ 100)
    (k : Nat) (hk : k ≤ (bs n).length) (a b : ByteArray) (hab : (bs n).length + a.size + b.size ≤ 100) (ds : List Dd) (hds : ds = (List.range n).map (fun i => pieceD i (txt i)) ++ [⟨1, 1, 1, n, k, 0, a⟩, ⟨1, 2, 1, n, k, 0, b⟩]) :
    ((allF ds).2 = (0, 0) ∧ textF (allF ds).1 = (bs n).take k ++ bytesOf b ++ bytesOf a ++ (bs n).drop k) ∨
    ∃ i, ∃ h : i < ds.length, deedFault ds[i] ≠ 0 ∧ (allF ds).2 = (deedFault ds[i], (i : Int)) := by
  have hds2 : ds.length = n + 2 := by rw [hds]; simp
  have e := allFrom_append ((List.range n).map fun i => pieceD i (txt i)) [⟨1, 1, 1, n, k, 0, a⟩, ⟨1, 2, 1, n, k, 0, b⟩] [] 0
  rw [← hds] at e
  have g1 : ∀ i (h : i < ds.length), i < n → ds[i] = pieceD i (txt i) := fun i h hi => by
    have : ds[i]? = some (pieceD i (txt i)) := by rw [hds, List.getElem?_append_left (by simp; exact hi)]; simp [hi]
    rw [List.getElem?_eq_getElem h] at this; exact Option.some.inj this
  have g2 : ∀ (h : n < ds.length), ds[n] = ⟨1, 1, 1, n, k, 0, a⟩ := fun h => by
    have : ds[n]? = some ⟨1, 1, 1, n, k, 0, a⟩ := by rw [hds, List.getElem?_append_right (by simp)]; simp
    rw [List.getElem?_eq_getElem h] at this; exact Option.some.inj this
  have g3 : ∀ (h : n + 1 < ds.length), ds[n + 1] = ⟨1, 2, 1, n, k, 0, b⟩ := fun h => by
    have : ds[n + 1]? = some ⟨1, 2, 1, n, k, 0, b⟩ := by rw [hds, List.getElem?_append_right (by simp)]; simp
    rw [List.getElem?_eq_getElem h] at this; exact Option.some.inj this
  rcases pieces_ok txt bs n hn h0 hstep hlen hmax n (Nat.le_refl _) with ⟨h1, hb⟩ | ⟨i, hi, hf, he⟩
  · unfold allF at h1 hb ⊢
    have h1' : (allFrom [] 0 ((List.range n).map fun i => pieceD i (txt i))).2.1 = 0 := by rw [h1]
    rw [if_pos h1'] at e
    rw [e]
    generalize (allFrom [] 0 ((List.range n).map fun i => pieceD i (txt i))).1 = l at *
    have hl := hb.len
    simp only [List.length_map, List.length_range, Int.zero_add]
    rw [allFrom_cons]
    by_cases hd : deedFault ⟨1, 1, 1, n, k, 0, a⟩ = 0
    · rw [put_at l ⟨1, 1, 1, n, k, 0, a⟩ k (n + 1) (by omega) rfl hd rfl rfl (fun c hc => hb.sees n 1 (Int.le_refl _) c (List.mem_of_mem_take hc)) (fun c hc => by have := (hb.fact c hc).2.2.2; omega) (by omega) (by show l.length + a.size ≤ 200; omega)]
      simp only [if_true]
      rw [allFrom_cons]
      by_cases hd2 : deedFault ⟨1, 2, 1, n, k, 0, b⟩ = 0
      · have hsum : (l.take k ++ newOf ⟨1, 1, 1, n, k, 0, a⟩ (n + 1) ++ l.drop k).length = l.length + a.size := by
          simp only [List.length_append, List.length_take, List.length_drop, newOf_length]; omega
        have ht : (l.take k ++ newOf ⟨1, 1, 1, n, k, 0, a⟩ (n + 1) ++ l.drop k).take k = l.take k := by
          rw [List.append_assoc]; exact List.take_left' (by rw [List.length_take]; omega)
        have hdr : (l.take k ++ newOf ⟨1, 1, 1, n, k, 0, a⟩ (n + 1) ++ l.drop k).drop k = newOf ⟨1, 1, 1, n, k, 0, a⟩ (n + 1) ++ l.drop k := by
          rw [List.append_assoc]; exact List.drop_left' (by rw [List.length_take]; omega)
        rw [put_at _ ⟨1, 2, 1, n, k, 0, b⟩ k (n + 1 + 1) (by omega) rfl hd2 rfl rfl (fun c hc => by
            rw [ht] at hc; exact hb.sees n 2 (Int.le_refl _) c (List.mem_of_mem_take hc)) (fun c hc => by
            simp only [List.mem_append] at hc
            rcases hc with (hc | hc) | hc
            · have := (hb.fact c (List.mem_of_mem_take hc)).2.2.2; omega
            · have := (newOf_mem hc).2.2.1; omega
            · have := (hb.fact c (List.mem_of_mem_drop hc)).2.2.2; omega) (by omega) (by show _ + b.size ≤ 200; omega), ht, hdr]
        simp only [if_true]
        left
        refine ⟨rfl, ?_⟩
        show textF (l.take k ++ newOf ⟨1, 2, 1, n, k, 0, b⟩ (n + 1 + 1) ++ (newOf ⟨1, 1, 1, n, k, 0, a⟩ (n + 1) ++ l.drop k)) = _
        have hv := viewN_all 1073741823 (-1) l (hb.sees 1073741823 (-1) (by omega))
        have e1 : viewN 1073741823 (-1) (l.take k) = (bs n).take k := by
          rw [viewN_all _ _ _ (fun c hc => hb.sees 1073741823 (-1) (by omega) c (List.mem_of_mem_take hc)), List.map_take, hb.c]
        have e2 : viewN 1073741823 (-1) (l.drop k) = (bs n).drop k := by
          rw [viewN_all _ _ _ (fun c hc => hb.sees 1073741823 (-1) (by omega) c (List.mem_of_mem_drop hc)), List.map_drop, hb.c]
        unfold textF
        rw [viewN_append, viewN_append, viewN_append, e1, e2, newOf_late _ _ _ _ (by omega), newOf_late _ _ _ _ (by omega)]
        simp
      · right
        rw [doF_fault _ _ _ hd2, if_neg hd2]
        refine ⟨n + 1, by omega, by rw [g3]; exact hd2, ?_⟩
        rw [g3]; simp
    · right
      rw [doF_fault _ _ _ hd, if_neg hd]
      refine ⟨n, by omega, by rw [g2]; exact hd, ?_⟩
      rw [g2]
  · right
    unfold allF at he ⊢
    have h1' : (allFrom [] 0 ((List.range n).map fun i => pieceD i (txt i))).2.1 ≠ 0 := by rw [he]; exact hf
    rw [if_neg h1'] at e
    refine ⟨i, by omega, by rw [g1 i (by omega) hi]; exact hf, ?_⟩
    rw [e, g1 i (by omega) hi]
    exact he
end Go.Proofs.Ytneoeokfffnonab
