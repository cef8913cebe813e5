/- The plain laws of layer 3, continued: two that take away. No program in sight. -/
import Derived.Test.YtneoeokfffnonaaFoldL
namespace Go.Proofs.Ytneoeokfffnonaa
open Go.RowKit

theorem takeGo_take (seen by_ lo hi number : Int) (l : List Ch) : ∀ (k : Int) (i : Nat), (takeGo seen by_ lo hi number l k).take i = takeGo seen by_ lo hi number (l.take i) k := by
  induction l with
  | nil => intro k i; simp [takeGo]
  | cons c l ih =>
    intro k i
    cases i with
    | zero => simp [takeGo]
    | succ i =>
      rw [List.take_succ_cons]
      unfold takeGo
      split <;> simp [ih]

theorem view_congr (seen by_ : Int) (x y : List Ch) (h : ∀ i : Nat, (x[i]?).map (fun c => (c.C, c.sees seen by_)) = (y[i]?).map (fun c => (c.C, c.sees seen by_))) : viewN seen by_ x = viewN seen by_ y := by
  have e : x.map (fun c => (c.C, c.sees seen by_)) = y.map (fun c => (c.C, c.sees seen by_)) := by
    apply List.ext_getElem?
    intro i; rw [List.getElem?_map, List.getElem?_map]; exact h i
  have v : ∀ l : List Ch, viewN seen by_ l = ((l.map (fun c => (c.C, c.sees seen by_))).filter (·.2)).map (·.1) := by
    intro l; unfold viewN vis
    induction l with
    | nil => rfl
    | cons c l ih => simp only [List.filter_cons, List.map_cons]; split <;> simp_all
  rw [v, v, e]

theorem mark_out_congr (b b' n : Int) (c c' : Ch) (h : c.Out = c'.Out) : (mark b n c).Out = (mark b' n c').Out := by unfold mark; simp only [h]
theorem mark_knowsIn (b n : Int) (c : Ch) (s y : Int) : (mark b n c).knowsIn s y = c.knowsIn s y := rfl
theorem mark_both (b b' m n : Int) (c : Ch) : (mark b n (mark b' m c)).Out = (mark b' n (mark b m c)).Out := mark_out_congr _ _ _ _ _ (mark_out_congr _ _ _ _ _ rfl)
def out1 (n : Int) (o : Int) : Int := if n ≠ 1073741824 ∧ (o = 0 ∨ n < o) then n else o
theorem mark_Out (b n : Int) (c : Ch) : (mark b n c).Out = out1 n c.Out := rfl
theorem out1_late (m n s o : Int) (h1 : 1 ≤ m) (h2 : 1 ≤ n) (hm : m ≤ s) (hn : n ≤ s) (h : s < 1073741824) : (decide (0 < out1 m o) && decide (out1 m o ≤ s)) = (decide (0 < out1 n o) && decide (out1 n o ≤ s)) := by
  unfold out1
  rw [Bool.eq_iff_iff]; simp only [Bool.and_eq_true, decide_eq_true_eq]
  split <;> split <;> omega

/-- FoldTakes. -/
theorem takes' (n : Int) (hn1 : 120 < n) (hn2 : n < 1000) (l : List Ch) (d e : Dd) (hd : d.Kind = 2) (he : e.Kind = 2) (hne : d.By ≠ e.By) (h1 : (doF l d n).2 = 0) (h2 : (doF l e n).2 = 0) :
    (doF (doF l d n).1 e (n + 1)).2 = 0 ∧ (doF (doF l e n).1 d (n + 1)).2 = 0 ∧ viewN (n + 1) (-1) (doF (doF l d n).1 e (n + 1)).1 = viewN (n + 1) (-1) (doF (doF l e n).1 d (n + 1)).1 := by
  have key : ∀ (d : Dd), d.Kind = 2 → (doF l d n).2 = 0 → mayDo l d = 0 ∧ (doF l d n).1 = takeGo d.Seen d.By d.At (d.At + d.Many) n l 0 := by
    intro d hk h
    rcases doF_cases l d n with ⟨h1, e⟩ | ⟨_, hn, e⟩ | ⟨h1, hn, hk2, e⟩ | ⟨h1, hn, hk2, e⟩
    · rw [e] at h; exact absurd h h1
    · omega
    · omega
    · exact ⟨h1, by rw [e]⟩
  obtain ⟨m1, e1⟩ := key d hd h1
  obtain ⟨m2, e2⟩ := key e he h2
  have w1 := deedFault_zero (mayDo_zero m1).1
  have w2 := deedFault_zero (mayDo_zero m2).1
  have step : ∀ d e : Dd, d.By ≠ e.By → mayDo l d = 0 → mayDo l e = 0 → e.Kind = 2 → doF (takeGo d.Seen d.By d.At (d.At + d.Many) n l 0) e (n + 1) = (takeGo e.Seen e.By e.At (e.At + e.Many) (n + 1) (takeGo d.Seen d.By d.At (d.At + d.Many) n l 0) 0, 0) := by
    intro d e hne m1 m2 hk
    have w1 := deedFault_zero (mayDo_zero m1).1
    have w2 := deedFault_zero (mayDo_zero m2).1
    have ev := takeGo_early d.Seen d.By d.At (d.At + d.Many) n w1.1 l e.Seen e.By (fun h => hne h.symm) (by omega) 0
    obtain ⟨f1, f2, f3⟩ := mayDo_zero m2
    have m3 : mayDo (takeGo d.Seen d.By d.At (d.At + d.Many) n l 0) e = 0 := by
      refine mayDo_intro f1 ?_ ?_
      · rw [← viewN_length, ev, viewN_length]; exact f2
      · rw [takeGo_length]; exact f3
    rcases doF_cases (takeGo d.Seen d.By d.At (d.At + d.Many) n l 0) e (n + 1) with ⟨h1, _⟩ | ⟨_, hn, _⟩ | ⟨h1, hn, hk2, _⟩ | ⟨h1, hn, hk2, e⟩
    · exact absurd m3 h1
    · omega
    · omega
    · exact e
  rw [e1, e2, step d e hne m1 m2 he, step e d (fun h => hne h.symm) m2 m1 hd]
  refine ⟨rfl, rfl, ?_⟩
  simp only
  apply view_congr
  intro i
  rw [takeGo_get, takeGo_get, takeGo_get, takeGo_get]
  have c1 : (vis e.Seen e.By (List.take i (takeGo d.Seen d.By d.At (d.At + d.Many) n l 0))).length = (vis e.Seen e.By (l.take i)).length := by
    rw [takeGo_take, ← viewN_length, takeGo_early d.Seen d.By d.At (d.At + d.Many) n w1.1 (l.take i) e.Seen e.By (fun h => hne h.symm) (by omega) 0, viewN_length]
  have c2 : (vis d.Seen d.By (List.take i (takeGo e.Seen e.By e.At (e.At + e.Many) n l 0))).length = (vis d.Seen d.By (l.take i)).length := by
    rw [takeGo_take, ← viewN_length, takeGo_early e.Seen e.By e.At (e.At + e.Many) n w2.1 (l.take i) d.Seen d.By hne (by omega) 0, viewN_length]
  rw [c1, c2]
  cases hi : l[i]? with
  | none => simp only [Option.map_none]
  | some c =>
    simp only [Option.map_some, Option.some.injEq]
    generalize (vis d.Seen d.By (l.take i)).length = q1
    generalize (vis e.Seen e.By (l.take i)).length = q2
    have out : ∀ c : Ch, c.sees (n + 1) (-1) = (c.knowsIn (n + 1) (-1) && !(decide (0 < c.Out) && decide (c.Out ≤ (n + 1)))) := by
      intro c; unfold Ch.sees; rw [knowsOut_took, took_no _ _ (show isWriter (-1) = false by decide), Bool.false_or]
    by_cases pd : c.sees d.Seen d.By = true ∧ d.At ≤ 0 + (q1 : Int) ∧ 0 + (q1 : Int) < d.At + d.Many
    · have x1 := mark_early d.Seen d.By n c w1.1 pd.1 e.Seen e.By (fun h => hne h.symm) (by omega)
      by_cases pe : c.sees e.Seen e.By = true ∧ e.At ≤ 0 + (q2 : Int) ∧ 0 + (q2 : Int) < e.At + e.Many
      · have x2 := mark_early e.Seen e.By n c w2.1 pe.1 d.Seen d.By hne (by omega)
        rw [if_pos pd, if_pos pe, if_pos (by rw [x1]; exact pe), if_pos (by rw [x2]; exact pd), out, out, mark_both]
        simp only [mark_knowsIn, mark_C]
      · rw [if_pos pd, if_neg pe, if_neg (by rw [x1]; exact pe), if_pos pd, out, out, mark_Out, mark_Out, out1_late n (n + 1) (n + 1) _ (by omega) (by omega) (by omega) (by omega) (by omega)]
        simp only [mark_knowsIn, mark_C]
    · by_cases pe : c.sees e.Seen e.By = true ∧ e.At ≤ 0 + (q2 : Int) ∧ 0 + (q2 : Int) < e.At + e.Many
      · have x2 := mark_early e.Seen e.By n c w2.1 pe.1 d.Seen d.By hne (by omega)
        rw [if_neg pd, if_pos pe, if_pos pe, if_neg (by rw [x2]; exact pd), out, out, mark_Out, mark_Out, out1_late n (n + 1) (n + 1) _ (by omega) (by omega) (by omega) (by omega) (by omega)]
        simp only [mark_knowsIn, mark_C]
      · rw [if_neg pd, if_neg pe, if_neg pe, if_neg pd]
/-- FoldTakes. -/
theorem takes (l : List Ch) (d e : Dd) (hd : d.Kind = 2) (he : e.Kind = 2) (hne : d.By ≠ e.By) (h1 : (doF l d 121).2 = 0) (h2 : (doF l e 121).2 = 0) :
    (doF (doF l d 121).1 e 122).2 = 0 ∧ (doF (doF l e 121).1 d 122).2 = 0 ∧ viewN 122 (-1) (doF (doF l d 121).1 e 122).1 = viewN 122 (-1) (doF (doF l e 121).1 d 122).1 :=
  takes' 121 (by decide) (by decide) l d e hd he hne h1 h2
end Go.Proofs.Ytneoeokfffnonaa
