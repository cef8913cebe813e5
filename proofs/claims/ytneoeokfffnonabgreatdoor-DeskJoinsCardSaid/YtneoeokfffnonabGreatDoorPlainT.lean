/- How much desks tell at one line. No program in sight. -/
import Derived.Test.YtneoeokfffnonabGreatDoorPlainK
import Derived.Lib.ItoaLen
set_option linter.unusedVariables false
set_option linter.unusedSimpArgs false
namespace Go.Proofs.YtneoeokfffnonabGreatDoor
open Go.RowKit Go
theorem deedFault_code (x : Dd) : 0 ≤ deedFault x ∧ deedFault x ≤ 9 := by
  unfold deedFault
  repeat' split
  all_goals omega
theorem mayDo_code (l : List Ch) (x : Dd) : 0 ≤ mayDo l x ∧ mayDo l x ≤ 9 := by
  have := deedFault_code x
  unfold mayDo
  repeat' split
  all_goals omega
theorem doF_code9 (l : List Ch) (x : Dd) (p : Int) : 0 ≤ (doF l x p).2 ∧ (doF l x p).2 ≤ 9 := by
  have := mayDo_code l x
  unfold doF
  repeat' split
  all_goals first | exact this | simp_all <;> omega
theorem takeF_code (m : LogM) (x : Dd) : 0 ≤ (m.takeF x).2.2 ∧ (m.takeF x).2.2 ≤ 9 := by
  have := doF_code9 m.chars x ((m.L.length : Int) + 1)
  unfold LogM.takeF
  repeat' split
  all_goals first | exact this | simp
theorem joinF_code (m : LogM) (x : Int) : 0 ≤ (m.joinF x).2.2 ∧ (m.joinF x).2.2 ≤ 9 := by
  unfold LogM.joinF
  repeat' split
  all_goals simp
theorem step_code (d : DkM) (x : DStep) : 0 ≤ (d.step x).2 ∧ (d.step x).2 ≤ 9 := by
  have hp : ∀ (m : WM) (u : Dd), 0 ≤ (d.put m u).2 ∧ (d.put m u).2 ≤ 9 := fun m u => by
    have := mayDo_code m.chars u
    unfold DkM.put
    split
    · simp
    · exact this
  have hs : ∀ m : WM, 0 ≤ (d.send m).2 ∧ (d.send m).2 ≤ 9 := fun m => by
    unfold DkM.send
    split
    · simp
    · rename_i u us _
      have := takeF_code d.lm u
      split
      · simp
      · exact this
  have hh : ∀ m : WM, 0 ≤ (d.hear m).2 ∧ (d.hear m).2 ≤ 9 := fun m => by
    unfold DkM.hear
    split
    · simp
    · rename_i u _
      have := mayDo_code m.chars u
      split
      · exact this
      · simp
  have hj := joinF_code d.lm x.W
  unfold DkM.step
  split
  · simp
  split
  · split
    · simp
    · exact hj
  split
  · simp
  split
  · exact hp _ _
  split
  · exact hp _ _
  split
  · exact hs _
  split
  · exact hh _
  split <;> simp
theorem ok_of_fault {u : Dd} (h : deedFault u = 0) : u.ok := by
  obtain ⟨hw, h1, h2, h3, h4, h5, h6, hk⟩ := deedFault_zero h
  have hby : 0 ≤ u.By ∧ u.By < 4 := by have := toNat_lt hw; omega
  have f := fault_facts h
  unfold Dd.ok i64ok
  rcases hk with ⟨k1, k2, k3⟩ | ⟨k1, k2, k3, k4⟩
  · have := (textOk_size k3).2
    refine ⟨by omega, by omega, by omega, by omega, by omega, by omega, ?_⟩
    unfold maxLen; omega
  · refine ⟨by omega, by omega, by omega, by omega, by omega, by omega, ?_⟩
    unfold maxLen; omega
theorem log_fault {m : LogM} (ho : m.Ok) : ∀ u ∈ m.L, deedFault u = 0 := fun u hu => by
  obtain ⟨i, hi, e⟩ := List.getElem_of_mem hu
  rw [← e]; exact (ho.deeds i hi).f
theorem ds_fault {lm : LogM} {m : WM} {t : Int} (h : WIn lm m t) (ho : lm.Ok) : ∀ u ∈ m.ds, deedFault u = 0 := fun u hu => by
  rw [h.ds_eq] at hu
  rcases List.mem_append.1 hu with hu | hu
  · exact log_fault ho u (List.mem_of_mem_drop (List.mem_filter.1 hu).1)
  · obtain ⟨i, hi, e⟩ := List.getElem_of_mem hu
    rw [← e]; exact (h.us i hi).f
theorem code5_len : (codeL 5).length = 4 := of_decide_eq_true (by kernel_rfl)
theorem strL_len (l : List Int) : (strL l).length = l.length := by
  unfold strL; rw [Array.length_toList]; simp [strOfNums]
theorem itoa21 {n : Int} (h : i64ok n) : (Lib.itoa n).length ≤ 21 := by
  unfold i64ok at h; exact Lib.itoa_length_le n h.1 (by omega)
theorem codeL_len {c : Int} (h : 0 ≤ c ∧ c ≤ 9) : (codeL c).length ≤ 24 := by
  unfold codeL
  split
  · decide
  · have := itoa21 (n := c) (by unfold i64ok; omega)
    simp [noB]; omega
theorem linesS_len (N : Nat) : ∀ l : List Str, (∀ s ∈ l, s.length ≤ N) → (linesS l).length ≤ l.length * (N + 1) := by
  intro l
  induction l with
  | nil => intro _; exact Nat.zero_le _
  | cons s l ih =>
    intro h
    have h1 := h s List.mem_cons_self
    have h2 := ih fun x hx => h x (List.mem_cons_of_mem _ hx)
    show (s ++ 10 :: linesS l).length ≤ (l.length + 1) * (N + 1)
    rw [List.length_append, List.length_cons, Nat.add_mul, Nat.one_mul]
    omega
theorem bysS_len : ∀ l : List Int, (∀ k ∈ l, 0 ≤ k ∧ k < 4) → (bysS l).length ≤ l.length * 22 := by
  intro l
  induction l with
  | nil => intro _; exact Nat.zero_le _
  | cons k l ih =>
    intro h
    have h1 := itoa21 (n := k) (by have := h k List.mem_cons_self; unfold i64ok; omega)
    have h2 := ih fun x hx => h x (List.mem_cons_of_mem _ hx)
    show (32 :: (Lib.itoa k ++ bysS l)).length ≤ (l.length + 1) * 22
    rw [List.length_cons, List.length_append, Nat.add_mul]
    omega
theorem mem_of_alive {l : List Ch} {c : Ch} (h : c ∈ alive l) : c ∈ l := by
  unfold alive at h; first | exact (List.mem_filter.1 h).1 | exact List.mem_of_mem_filter h
theorem bysL_small {L : List Dd} (hL : LOk L) (n : Nat) (hn : n ≤ L.length) : (bysL L n).length ≤ 200 ∧ (txtL L n).length ≤ 200 ∧ ∀ k ∈ bysL L n, 0 ≤ k ∧ k < 4 := by
  have hm := hL.made n hn
  have h200 : (pre L n).length ≤ 200 := hm.max
  have ha : (alive (pre L n)).length ≤ (pre L n).length := by unfold alive; exact List.length_filter_le _ _
  refine ⟨by unfold bysL; rw [List.length_map]; omega, by unfold txtL; rw [List.length_map]; omega, fun k hk => ?_⟩
  unfold bysL at hk
  obtain ⟨c, hc, rfl⟩ := List.mem_map.1 hk
  have hb := (hm.good c (mem_of_alive hc)).b1
  have hw : isWriter c.By = true := by
    unfold bad1 at hb
    cases h : isWriter c.By
    · simp [h] at hb
    · rfl
  have := toNat_lt hw
  omega
theorem told_len {d : DkM} (ho : d.Ok) {N : Nat} (hs : d.Sm N) (hN : N ≤ 1000) (a : Ask) : (linesS (tellK d a).2).length ≤ 400000 := by
  have one : ∀ (s : Str) (M : Nat), s.length ≤ M → M + 1 ≤ 400000 → (linesS [s]).length ≤ 400000 := fun s M h h2 => by
    have := linesS_len M [s] (fun x hx => by simp only [List.mem_singleton] at hx; subst hx; exact h)
    simp only [List.length_singleton, Nat.one_mul] at this; omega
  have hlv : d.lm.view.length ≤ 1000 := by
    unfold LogM.view textF
    rw [viewN_length]
    have h1 : (allF d.lm.L).1.length ≤ 200 := by rw [← pre_len]; exact (ho.lm.lok.made _ (Nat.le_refl _)).max
    exact Nat.le_trans (Nat.le_trans (List.length_filter_le _ _) h1) (by omega)
  have hlines : ∀ l : List Dd, l.length ≤ 1000 → (∀ u ∈ l, deedFault u = 0) → (linesS (l.map lineB ++ [endB])).length ≤ 400000 := fun l hl h => by
    have := linesS_len 200 (l.map lineB ++ [endB]) (fun x hx => by
      rcases List.mem_append.1 hx with hx | hx
      · obtain ⟨u, hu, rfl⟩ := List.mem_map.1 hx
        exact line_len (h u hu)
      · simp only [List.mem_singleton] at hx; subst hx; decide)
    rw [List.length_append, List.length_map, List.length_singleton] at this
    have h2 : (l.length + 1) * (200 + 1) ≤ 1001 * 201 := Nat.mul_le_mul (by omega) (by omega)
    omega
  cases a with
  | step x => exact one _ 24 (codeL_len (step_code d x)) (by omega)
  | text w =>
    show (linesS (match d.writer w with | none => [codeL 5] | some m => [textB ++ 32 :: strL m.view])).length ≤ _
    cases hw : d.writer w with
    | none => exact one _ 24 (codeL_len (by omega)) (by omega)
    | some m =>
      obtain ⟨_, _, _, tm, hin⟩ := ho.of_writer hw
      have hcl := hin.chars_len ho.lm
      have hv : m.view.length ≤ 200 := by
        have e : m.view.length = (vis m.seen m.me m.chars).length := viewN_length _ _ _
        have e2 : (vis m.seen m.me m.chars).length ≤ m.chars.length := List.length_filter_le _ _
        omega
      refine one _ 1000 ?_ (by omega)
      have := strL_len m.view
      simp [textB]; omega
  | all =>
    refine one _ 2000 ?_ (by omega)
    have := strL_len d.lm.view
    simp [textB]; omega
  | opn w =>
    show (linesS (match d.writer w with | none => [codeL 5] | some m => m.ds.map lineB ++ [endB])).length ≤ _
    cases hw : d.writer w with
    | none => exact one _ 24 (codeL_len (by omega)) (by omega)
    | some m =>
      obtain ⟨_, _, _, tm, hin⟩ := ho.of_writer hw
      exact hlines m.ds (by have := hs.writer hw; unfold WM.ds; rw [List.length_map]; omega) (ds_fault hin ho.lm)
  | log => exact hlines _ (by have := ho.lm.len; omega) (log_fault ho.lm)
  | thn n =>
    show (linesS (if 0 ≤ n ∧ n ≤ d.lm.L.length then [textB ++ 32 :: strL (txtL d.lm.L n.toNat), byB ++ bysS (bysL d.lm.L n.toNat)] else [codeL 5])).length ≤ _
    split
    · rename_i h
      obtain ⟨h1, h2, h3⟩ := bysL_small ho.lm.lok n.toNat (by omega)
      have h4 := bysS_len _ h3
      have h5 := strL_len (txtL d.lm.L n.toNat)
      have := linesS_len 10000 [textB ++ 32 :: strL (txtL d.lm.L n.toNat), byB ++ bysS (bysL d.lm.L n.toNat)] (fun x hx => by
        simp only [List.mem_cons, List.not_mem_nil, or_false] at hx
        rcases hx with rfl | rfl
        · simp [textB]; omega
        · simp [byB]; omega)
      simp only [List.length_cons, List.length_nil] at this
      omega
    · exact one _ 24 (codeL_len (by omega)) (by omega)
  | settle => exact one _ 24 (by decide) (by omega)
  | least =>
    refine one _ 200 ?_ (by omega)
    have h1 := ho.lm.least0
    have h2 := d.lm.least_le
    have h3 := ho.lm.len
    have h4 := itoa21 (n := d.lm.least) (by unfold i64ok; omega)
    have h5 := itoa21 (n := (d.lm.L.length : Int)) (by unfold i64ok; omega)
    simp [leastB]; omega
  | what => exact one _ 24 (by decide) (by omega)
  | nothing => exact Nat.zero_le _
end Go.Proofs.YtneoeokfffnonabGreatDoor
