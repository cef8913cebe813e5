/- The walks of layer 1. -/
import Derived.Test.YtneoeokfffnonacProg
import Derived.Test.YtneoeokfffnonacPlain
import Derived.Test.YtneoeokfffnonacTypes
import Derived.Shelf.Abstract
import Derived.StillTailTactics
set_option linter.unusedVariables false
set_option linter.unusedSimpArgs false
namespace Go.Proofs.Ytneoeokfffnonac
open Go.RowKit

theorem Writer_c (x : Int) (w : World) :
    Calls Try.prog 96 #[.int .i64 x] w fun e w' => e = .returned (.bool (isWriter x)) ∧ w' = w := by
  go_enter Try.func96, Try.ntmps96
  by_cases h1 : 0 ≤ x <;> by_cases h2 : x < 4
  all_goals (go_wp2; go_ret; exact ⟨by simp [isWriter, h1, h2], rfl⟩)

theorem bit_c (x : Int) (w : World) :
    Calls Try.prog 125 #[.int .i64 x] w fun e w' => e = .returned (.int .i64 (bitOf x)) ∧ w' = w := by
  go_enter Try.func125, Try.ntmps125
  by_cases h1 : 0 ≤ x ∧ x < 4
  · have h : x = 0 ∨ x = 1 ∨ x = 2 ∨ x = 3 := by omega
    have h3 : isWriter x = true := by simp [isWriter]; omega
    rcases h with rfl | rfl | rfl | rfl
    all_goals
      go_wp2_with (go_at_call 96; refine (Writer_c _ _).mono ?_; rintro e w' ⟨rfl, rfl⟩)
      go_ret
      exact ⟨rfl, rfl⟩
  · have h2 : bitOf x = 0 := by unfold bitOf; repeat (rw [if_neg (by omega)])
    have h3 : isWriter x = false := by simp [isWriter]; omega
    have H2 := Lib.hid h2; clear h2
    go_wp2_with (go_at_call 96; refine (Writer_c _ _).mono ?_; rintro e w' ⟨rfl, rfl⟩)
    go_ret
    exact ⟨by rw [H2.out]; rfl, rfl⟩

theorem In_c (c : Ch) (seen by_ : Int) (w : World) :
    Calls Try.prog 115 #[.agg #[.int .u8 c.C, .int .i64 c.By, .int .i64 c.No, .int .i64 c.K, .int .i64 c.In, .int .i64 c.Out, .int .i64 c.Gone], .int .i64 seen, .int .i64 by_] w fun e w' => e = .returned (.bool (c.knowsIn seen by_)) ∧ Below w.heap.size w w' := by
  go_enter Try.func115, Try.ntmps115
  by_cases h1 : c.In ≤ seen <;> by_cases h2 : c.By = by_
  all_goals (go_wp2; go_ret; exact ⟨by simp [Ch.knowsIn, h1, h2], (Below.refl _ _).alloc (Nat.le_refl _) _⟩)

theorem Out_c (c : Ch) (seen by_ : Int) (w : World) :
    Calls Try.prog 116 #[.agg #[.int .u8 c.C, .int .i64 c.By, .int .i64 c.No, .int .i64 c.K, .int .i64 c.In, .int .i64 c.Out, .int .i64 c.Gone], .int .i64 seen, .int .i64 by_] w fun e w' => e = .returned (.bool (c.knowsOut seen by_)) ∧ Below w.heap.size w w' := by
  go_enter Try.func116, Try.ntmps116
  have Hend := Lib.hid (fun o n => bl_drewN ((Below.refl w.heap.size w).alloc (Nat.le_refl _) o) n)
  by_cases h1 : 0 < c.Out
  · by_cases h2 : c.Out ≤ seen
    · have Hf := Lib.hid (show c.knowsOut seen by_ = true by simp [Ch.knowsOut, h1, h2])
      go_wp2
      go_quiet (fail)
      go_wp2
      go_ret
      exact ⟨by rw [Hf.out]; rfl, Hend.out _ _⟩
    · have Hf := Lib.hid (show c.knowsOut seen by_ = (bits .and .i64 c.Gone (bitOf by_) != 0) by simp [Ch.knowsOut, h2])
      have h3 : decide (c.Out ≤ seen) = false := by simpa using h2
      go_wp2
      go_quiet ((go_at_call 125; exact Calls.quiet_of_same (bit_c _ _)))
      go_wp2
      go_ret
      exact ⟨by rw [Hf.out]; rfl, Hend.out _ _⟩
  · have Hf := Lib.hid (show c.knowsOut seen by_ = (bits .and .i64 c.Gone (bitOf by_) != 0) by simp [Ch.knowsOut, h1])
    have h3 : decide (0 < c.Out) = false := by simpa using h1
    go_wp2
    go_quiet ((go_at_call 125; exact Calls.quiet_of_same (bit_c _ _)))
    go_wp2
    go_ret
    exact ⟨by rw [Hf.out]; rfl, Hend.out _ _⟩

theorem Sees_c (c : Ch) (seen by_ : Int) (w : World) :
    Calls Try.prog 90 #[.agg #[.int .u8 c.C, .int .i64 c.By, .int .i64 c.No, .int .i64 c.K, .int .i64 c.In, .int .i64 c.Out, .int .i64 c.Gone], .int .i64 seen, .int .i64 by_] w fun e w' => e = .returned (.bool (c.sees seen by_)) ∧ Below w.heap.size w w' := by
  go_enter Try.func90, Try.ntmps90
  have Hf := Lib.hid (show c.sees seen by_ = (c.knowsIn seen by_ && !c.knowsOut seen by_) from rfl)
  cases h1 : c.knowsIn seen by_
  · go_wp2_with (go_at_call 115; refine (In_c c _ _ _).mono ?_; rintro e w1 ⟨rfl, hb1⟩)
    go_ret
    exact ⟨by rw [Hf.out, h1]; rfl, ((Below.refl _ _).alloc (Nat.le_refl _) _).trans (hb1.mono (by simp))⟩
  · go_wp2_with fail
    refine (In_c c _ _ _).mono ?_
    rintro e w1 ⟨rfl, hb1⟩
    obtain ⟨hc1, hf1⟩ := bcell hb1
    go_wp2_with fail
    refine (Out_c c _ _ _).mono ?_
    rintro e w2 ⟨rfl, hb2⟩
    go_wp2
    go_ret
    exact ⟨by rw [Hf.out, h1]; rfl, (((Below.refl _ _).alloc (Nat.le_refl _) _).trans (hb1.mono (by simp))).trans (hb2.mono (by have := hb1.size; simp at this; omega))⟩
theorem View_c (a : Option Addr) (cap : Nat) (l : List Ch) (seen by_ : Int) (w : World) (hs : SlCh w a cap l) (hsz : l.length ≤ 140737488355328) :
    Calls Try.prog 38 #[.slice a l.length cap, .int .i64 seen, .int .i64 by_] w fun e w' => ∃ a' cap', e = .returned (.slice a' (vis seen by_ l).length cap') ∧
      OwnRow w' w.heap.size 5 1 a' (vis seen by_ l).length cap' (viewV seen by_ l) ∧ Below w.heap.size w w' := by
  have hm : l.length ≤ maxLen := Nat.le_trans hs.1 hs.2.1
  unfold maxLen at hm
  obtain ⟨N, hN⟩ : ∃ N, N = l.length := ⟨_, rfl⟩
  go_enter Try.func38, Try.ntmps38
  go_wp2
  go_loopw [7, 12] (fun v i wr => ∃ (k : Nat) (a' : Option Addr) (cap' : Nat), k ≤ l.length ∧ i = .int .i64 k ∧ v = .slice a' (vis seen by_ (l.take k)).length cap' ∧ OwnRow wr w.heap.size 5 1 a' (vis seen by_ (l.take k)).length cap' (viewV seen by_ (l.take k)) ∧ Below w.heap.size w wr) (fun _ i _ => l.length - (intOf i).toNat)
  case atStart => exact ⟨0, none, 0, Nat.zero_le _, rfl, rfl, OwnRow.nil _ _ _ _ _, Below.refl _ _⟩
  case round =>
    obtain ⟨k, a', cap', hk, rfl, rfl, hown, hb⟩ := hrel
    by_cases hlt : k < l.length
    · obtain ⟨b, off, rfl, hc⟩ := hs.nth hlt
      obtain ⟨q0, q1, q2, q3, q4, q5, q6⟩ := hc.below hb hc.lt
      have Hs := Lib.hid (vis_snoc seen by_ l k hlt)
      have hvl : (vis seen by_ (l.take k)).length ≤ k := Nat.le_trans (vis_le ..) (by simp; omega)
      go_wp2_with fail
      refine (Sees_c l[k] _ _ _).mono ?_
      rintro e w2 ⟨rfl, hb2⟩
      obtain ⟨hc2, hf2⟩ := bcell hb2
      have hz2 := hb2.size
      simp at hz2
      have hown2 := (hown.alloc _).below hb2
      have hbx : Below w.heap.size w w2 := (hb.alloc hb.size _).trans (hb2.mono (by have := hb.size; simp; omega))
      cases hsee : l[k].sees seen by_
      · have Hs2 := Lib.hid (show vis seen by_ (l.take (k + 1)) = vis seen by_ (l.take k) by rw [Hs.out, hsee]; simp)
        clear Hs
        go_wp2
        go_roundw
        case rel => exact ⟨k + 1, a', cap', by omega, by go_num, by rw [Hs2.out], by unfold viewV viewN; rw [Hs2.out]; exact hown2, hbx⟩
        case measure => simp [intOf]; omega
      · have Hs2 := Lib.hid (show vis seen by_ (l.take (k + 1)) = vis seen by_ (l.take k) ++ [l[k]] by rw [Hs.out, hsee]; simp)
        clear Hs
        go_wp2_with (at_builtin; refine wpList_append_new rfl (.tmp 20) (.tmp 23) 66 rfl w.heap.size 5 1 1 Try.underlying66 ti_u8 a' _ cap' _ rfl hown2 1 1 [.int .u8 l[k].C] rfl rfl (one1 rfl) (by omega) hbx.size ?_)
        intro a3 cap3 w3 hown3 hb3 hz3 hg3
        have hfin : OwnRow w3 w.heap.size 5 1 a3 (vis seen by_ (l.take (k + 1))).length cap3 (viewV seen by_ (l.take (k + 1))) := by
          unfold viewV viewN at *; rw [Hs2.out]; simpa using hown3
        have Hfin := Lib.hid hfin; clear hfin
        go_wp2
        refine ⟨⟨k + 1, a3, cap3, by omega, by go_num, by rw [Hs2.out]; simp, Hfin.out, hbx.trans hb3⟩, by simp [intOf]; omega⟩
    · obtain rfl : k = l.length := by omega
      have Hs2 := Lib.hid (show l.take l.length = l by simp)
      go_wp2
      go_ret
      exact ⟨a', cap', by rw [Hs2.out]; rfl, by rw [Hs2.out] at hown; exact hown, hb⟩

theorem Behind_neg (a : Option Addr) (cap : Nat) (l : List Ch) (seen by_ n : Int) (w : World) (hs : SlCh w a cap l) (hsz : l.length ≤ 140737488355328) (hn : n < 0) (hn2 : -9223372036854775808 ≤ n) :
    Calls Try.prog 114 #[.slice a l.length cap, .int .i64 seen, .int .i64 by_, .int .i64 n] w fun e w' => e = .returned (.int .i64 (behind seen by_ l n)) ∧ Below w.heap.size w w' := by
  have hm : l.length ≤ maxLen := Nat.le_trans hs.1 hs.2.1
  unfold maxLen at hm
  have hz : (n == 0) = false := by simp; omega
  have Hf := Lib.hid (show behind seen by_ l n = -1 by unfold behind; rw [if_neg (by omega)]; exact behindFrom_neg _ _ _ _ _ (by omega))
  go_enter Try.func114, Try.ntmps114
  go_wp2
  go_loopw [3, 15] (fun m i wr => ∃ (k : Nat) (M : Int), k ≤ l.length ∧ i = .int .i64 k ∧ m = .int .i64 M ∧ (M < 0 ∨ 9223372036854775808 ≤ M + k) ∧ -9223372036854775808 ≤ M ∧ M < 9223372036854775808 ∧ Below w.heap.size w wr) (fun _ i _ => l.length - (intOf i).toNat)
  case atStart => exact ⟨0, n, Nat.zero_le _, rfl, rfl, .inl hn, hn2, by omega, Below.refl _ _⟩
  case round =>
    obtain ⟨k, M, hk, rfl, rfl, hM, hM1, hM2, hb⟩ := hrel
    by_cases hlt : k < l.length
    · obtain ⟨b, off, rfl, hc⟩ := hs.nth hlt
      obtain ⟨q0, q1, q2, q3, q4, q5, q6⟩ := hc.below hb hc.lt
      go_wp2_with fail
      refine (Sees_c l[k] _ _ _).mono ?_
      rintro e w2 ⟨rfl, hb2⟩
      obtain ⟨hc2, hf2⟩ := bcell hb2
      have hz2 := hb2.size
      simp at hz2
      have hbx : Below w.heap.size w w2 := (hb.alloc hb.size _).trans (hb2.mono (by have := hb.size; simp; omega))
      cases hsee : l[k].sees seen by_
      · go_wp2
        refine ⟨⟨k + 1, M, by omega, by go_num, rfl, by omega, hM1, hM2, hbx⟩, by simp [intOf]; omega⟩
      · have hX : (wrap64 (M - 1) < 0 ∨ 9223372036854775808 ≤ wrap64 (M - 1) + (k + 1 : Nat)) ∧ -9223372036854775808 ≤ wrap64 (M - 1) ∧ wrap64 (M - 1) < 9223372036854775808 := by
          unfold wrap64; omega
        have hX0 : (wrap64 (M - 1) == 0) = false := by simp; omega
        have HX := Lib.hid hX; clear hX
        go_wp2
        exact ⟨⟨k + 1, _, by omega, by go_num, rfl, HX.out.1, HX.out.2.1, HX.out.2.2, hbx⟩, by simp [intOf]; omega⟩
    · obtain rfl : k = l.length := by omega
      go_wp2
      go_ret
      exact ⟨by rw [Hf.out]; rfl, hb⟩

theorem Behind_pos (a : Option Addr) (cap : Nat) (l : List Ch) (seen by_ n : Int) (w : World) (hs : SlCh w a cap l) (hsz : l.length ≤ 140737488355328) (hn : 0 ≤ n) (hn2 : n < 9223372036854775808) :
    Calls Try.prog 114 #[.slice a l.length cap, .int .i64 seen, .int .i64 by_, .int .i64 n] w fun e w' => e = .returned (.int .i64 (behind seen by_ l n)) ∧ Below w.heap.size w w' := by
  have hm : l.length ≤ maxLen := Nat.le_trans hs.1 hs.2.1
  unfold maxLen at hm
  rcases Int.lt_or_eq_of_le hn with hp | rfl
  case inr =>
    go_enter Try.func114, Try.ntmps114
    go_wp2
    go_ret
    exact ⟨rfl, Below.refl _ _⟩
  have hz : (n == 0) = false := by simp; omega
  have Hf := Lib.hid (show behind seen by_ l n = behindFrom seen by_ l n 0 by unfold behind; rw [if_neg (by omega)])
  go_enter Try.func114, Try.ntmps114
  go_wp2
  go_loopw [3, 15] (fun m i wr => ∃ (k : Nat) (M : Int), k ≤ l.length ∧ i = .int .i64 k ∧ m = .int .i64 M ∧ 0 < M ∧ M ≤ n ∧ Hid (behindFrom seen by_ (l.drop k) M k = behindFrom seen by_ l n 0) ∧ Below w.heap.size w wr) (fun _ i _ => l.length - (intOf i).toNat)
  case atStart => exact ⟨0, n, Nat.zero_le _, rfl, rfl, hp, by omega, Lib.hid (by simp), Below.refl _ _⟩
  case round =>
    obtain ⟨k, M, hk, rfl, rfl, hM, hM1, HE, hb⟩ := hrel
    by_cases hlt : k < l.length
    · obtain ⟨b, off, rfl, hc⟩ := hs.nth hlt
      obtain ⟨q0, q1, q2, q3, q4, q5, q6⟩ := hc.below hb hc.lt
      have HD := Lib.hid (show behindFrom seen by_ (l.drop k) M k = if l[k].sees seen by_ then (if M = 1 then (k : Int) + 1 else behindFrom seen by_ (l.drop (k + 1)) (M - 1) (k + 1)) else behindFrom seen by_ (l.drop (k + 1)) M (k + 1) by
        rw [List.drop_eq_getElem_cons hlt]; rfl)
      go_wp2_with fail
      refine (Sees_c l[k] _ _ _).mono ?_
      rintro e w2 ⟨rfl, hb2⟩
      obtain ⟨hc2, hf2⟩ := bcell hb2
      have hz2 := hb2.size
      simp at hz2
      have hbx : Below w.heap.size w w2 := (hb.alloc hb.size _).trans (hb2.mono (by have := hb.size; simp; omega))
      cases hsee : l[k].sees seen by_
      · have HD2 := Lib.hid (show behindFrom seen by_ (l.drop (k + 1)) M ((k + 1 : Nat) : Int) = behindFrom seen by_ l n 0 by rw [← HE.out, HD.out, hsee]; simp)
        clear HD HE
        go_wp2
        exact ⟨⟨k + 1, M, by omega, by go_num, rfl, by omega, hM1, HD2, hbx⟩, by simp [intOf]; omega⟩
      · by_cases h1 : M = 1
        · have HD2 := Lib.hid (show behindFrom seen by_ l n 0 = (k : Int) + 1 by rw [← HE.out, HD.out, hsee, if_pos rfl, if_pos h1])
          clear HD HE
          subst h1
          go_wp2
          go_ret
          exact ⟨by rw [Hf.out, HD2.out]; rfl, hbx⟩
        · have HD2 := Lib.hid (show behindFrom seen by_ (l.drop (k + 1)) (M - 1) ((k + 1 : Nat) : Int) = behindFrom seen by_ l n 0 by rw [← HE.out, HD.out, hsee, if_pos rfl, if_neg h1]; simp)
          clear HD HE
          have h2 : (M - 1 == 0) = false := by simp; omega
          go_wp2
          exact ⟨⟨k + 1, M - 1, by omega, by go_num, rfl, by omega, by omega, HD2, hbx⟩, by simp [intOf]; omega⟩
    · obtain rfl : k = l.length := by omega
      have HD2 := Lib.hid (show behindFrom seen by_ l n 0 = -1 by rw [← HE.out]; simp [behindFrom])
      clear HE
      go_wp2
      go_ret
      exact ⟨by rw [Hf.out, HD2.out]; rfl, hb⟩

theorem Behind_c (a : Option Addr) (cap : Nat) (l : List Ch) (seen by_ n : Int) (w : World) (hs : SlCh w a cap l) (hsz : l.length ≤ 140737488355328) (hn : -9223372036854775808 ≤ n) (hn2 : n < 9223372036854775808) :
    Calls Try.prog 114 #[.slice a l.length cap, .int .i64 seen, .int .i64 by_, .int .i64 n] w fun e w' => e = .returned (.int .i64 (behind seen by_ l n)) ∧ Below w.heap.size w w' := by
  rcases Int.lt_or_le n 0 with h | h
  · exact Behind_neg a cap l seen by_ n w hs hsz h hn
  · exact Behind_pos a cap l seen by_ n w hs hsz h hn2

theorem Same_c (x y : Ch) (w : World) :
    Calls Try.prog 81 #[.agg #[.int .u8 x.C, .int .i64 x.By, .int .i64 x.No, .int .i64 x.K, .int .i64 x.In, .int .i64 x.Out, .int .i64 x.Gone], .agg #[.int .u8 y.C, .int .i64 y.By, .int .i64 y.No, .int .i64 y.K, .int .i64 y.In, .int .i64 y.Out, .int .i64 y.Gone]] w fun e w' => e = .returned (.bool (x.same y)) ∧ Below w.heap.size w w' := by
  have Hf := Lib.hid (show x.same y = (x.By == y.By && x.No == y.No && x.K == y.K) from rfl)
  have Hend := Lib.hid (fun (o o' : Obj) => ((Below.refl w.heap.size w).alloc (Nat.le_refl _) o).alloc (by simp) o')
  go_enter Try.func81, Try.ntmps81
  cases h1 : x.By == y.By <;> cases h2 : x.No == y.No
  all_goals
    go_wp2
    go_ret
    exact ⟨by rw [Hf.out]; simp [h1, h2], Hend.out _ _⟩

theorem Count_c (a : Option Addr) (cap : Nat) (l : List Ch) (seen by_ : Int) (w : World) (hs : SlCh w a cap l) (hsz : l.length ≤ 140737488355328) :
    Calls Try.prog 111 #[.slice a l.length cap, .int .i64 seen, .int .i64 by_] w fun e w' => e = .returned (.int .i64 ((vis seen by_ l).length : Nat)) ∧ Below w.heap.size w w' := by
  have hm : l.length ≤ maxLen := Nat.le_trans hs.1 hs.2.1
  unfold maxLen at hm
  have hv := vis_le seen by_ l
  go_enter Try.func111, Try.ntmps111
  go_wp2_with fail
  refine (View_c a cap l _ _ _ hs hsz).mono ?_
  rintro e w1 ⟨a1, cap1, rfl, _, hb1⟩
  go_wp2
  go_ret
  exact ⟨rfl, hb1⟩

/-- What a function value does that is handed to the library: it hands back 'p c', and leaves what was there. -/
def PredCall (P : Program) (g : FuncId) (fst caps : Array Value) (p : Ch → Bool) (w0 : World) : Prop :=
  ∀ (c : Ch) (W : World), Below w0.heap.size w0 W → Calls P g (fst.push (.agg #[.int .u8 c.C, .int .i64 c.By, .int .i64 c.No, .int .i64 c.K, .int .i64 c.In, .int .i64 c.Out, .int .i64 c.Gone]) ++ caps) W fun e W' => e = .returned (.bool (p c)) ∧ Below W.heap.size W W'

def idxFrom (p : Ch → Bool) : List Ch → Int → Int
  | [], _ => -1
  | x :: l, i => if p x then i else idxFrom p l (i + 1)

theorem IndexFunc_c (a : Option Addr) (cap : Nat) (l : List Ch) (g : FuncId) (fst caps : Array Value) (p : Ch → Bool) (w : World) (hs : SlCh w a cap l) (hp : PredCall Try.prog g fst caps p w) (heg : ∀ (args : Array Value) (W : World), Sem.run Try.prog (callFunc g args) W = .ok (.enter g args) W) :
    Calls Try.prog 109 #[.slice a l.length cap, .func (.func g) fst caps] w fun e w' => e = .returned (.int .i64 (idxFrom p l 0)) ∧ Below w.heap.size w w' := by
  have hm : l.length ≤ maxLen := Nat.le_trans hs.1 hs.2.1
  unfold maxLen at hm
  go_enter Try.func109, Try.ntmps109
  go_wp2
  go_loopw [8] (fun i wr => ∃ k : Nat, k ≤ l.length ∧ i = .int .i64 k ∧ Below w.heap.size w wr ∧ Hid (idxFrom p (l.drop k) k = idxFrom p l 0)) (fun i _ => l.length - (intOf i).toNat)
  case atStart => exact ⟨0, Nat.zero_le _, rfl, Below.refl _ _, Lib.hid (by simp)⟩
  case round =>
    obtain ⟨k, hk, rfl, hb, HE⟩ := hrel
    by_cases hlt : k < l.length
    · obtain ⟨b, off, rfl, hc⟩ := hs.nth hlt
      obtain ⟨q0, q1, q2, q3, q4, q5, q6⟩ := hc.below hb hc.lt
      have HD := Lib.hid (show idxFrom p (l.drop k) k = if p l[k] then (k : Int) else idxFrom p (l.drop (k + 1)) (k + 1) by rw [List.drop_eq_getElem_cons hlt]; rfl)
      go_wp2_with fail
      refine (hp l[k] _ hb).mono ?_
      rintro e w2 ⟨rfl, hb2⟩
      clear q0 q1 q2 q3 q4 q5 q6
      have hbx : Below w.heap.size w w2 := hb.trans (hb2.mono hb.size)
      cases hsm : p l[k]
      · have HD2 := Lib.hid (show idxFrom p (l.drop (k + 1)) ((k + 1 : Nat) : Int) = idxFrom p l 0 by rw [← HE.out, HD.out, hsm]; simp)
        clear HD HE
        go_wp2
        exact ⟨⟨k + 1, by omega, by go_num, hbx, HD2⟩, by simp [intOf]; omega⟩
      · have HD2 := Lib.hid (show idxFrom p l 0 = k by rw [← HE.out, HD.out, hsm]; simp)
        clear HD HE
        go_wp2
        go_ret
        exact ⟨by rw [HD2.out]; rfl, hbx⟩
    · obtain rfl : k = l.length := by omega
      have HD2 := Lib.hid (show idxFrom p l 0 = -1 by rw [← HE.out]; simp [idxFrom])
      clear HE
      go_wp2
      go_ret
      exact ⟨by rw [HD2.out]; rfl, hb⟩

theorem Find1_c (x c : Ch) (b : Nat) (w : World) (hc : ChAt w b 0 c) :
    Calls Try.prog 127 #[.agg #[.int .u8 x.C, .int .i64 x.By, .int .i64 x.No, .int .i64 x.K, .int .i64 x.In, .int .i64 x.Out, .int .i64 x.Gone], .pointer (some ⟨b, 0, none⟩)] w fun e w' => e = .returned (.bool (x.same c)) ∧ Below w.heap.size w w' := by
  have hlt := hc.lt
  obtain ⟨q0, q1, q2, q3, q4, q5, q6⟩ := hc.below ((Below.refl w.heap.size w).alloc (Nat.le_refl _) (.cells #[.int .u8 x.C, .int .i64 x.By, .int .i64 x.No, .int .i64 x.K, .int .i64 x.In, .int .i64 x.Out, .int .i64 x.Gone] 86)) hlt
  go_enter Try.func127, Try.ntmps127
  go_wp2_with fail
  refine (Same_c x c _).mono ?_
  rintro e w2 ⟨rfl, hb2⟩
  clear q0 q1 q2 q3 q4 q5 q6
  go_wp2
  go_ret
  exact ⟨rfl, ((Below.refl _ _).alloc (Nat.le_refl _) _).trans (hb2.mono (by simp))⟩

theorem idx_find (c : Ch) (l : List Ch) : ∀ i, idxFrom (fun x => x.same c) l i = findFrom c l i := by
  induction l with
  | nil => intro i; rfl
  | cons x l ih => intro i; unfold idxFrom findFrom; rw [ih]

theorem Find_c (a : Option Addr) (cap : Nat) (l : List Ch) (c : Ch) (w : World) (hs : SlCh w a cap l) :
    Calls Try.prog 121 #[.slice a l.length cap, .agg #[.int .u8 c.C, .int .i64 c.By, .int .i64 c.No, .int .i64 c.K, .int .i64 c.In, .int .i64 c.Out, .int .i64 c.Gone]] w fun e w' => e = .returned (.int .i64 (find l c)) ∧ Below w.heap.size w w' := by
  have hm : l.length ≤ maxLen := Nat.le_trans hs.1 hs.2.1
  unfold maxLen at hm
  have Hf := Lib.hid (show find l c = idxFrom (fun x => x.same c) l 0 from (idx_find c l 0).symm)
  have hb0 := (Below.refl w.heap.size w).alloc (Nat.le_refl _) (.cells #[.int .u8 c.C, .int .i64 c.By, .int .i64 c.No, .int .i64 c.K, .int .i64 c.In, .int .i64 c.Out, .int .i64 c.Gone] 86)
  have hs0 := hs.below hb0
  have hc0 : ChAt (w.alloc (.cells #[.int .u8 c.C, .int .i64 c.By, .int .i64 c.No, .int .i64 c.K, .int .i64 c.In, .int .i64 c.Out, .int .i64 c.Gone] 86)) w.heap.size 0 c := by simp [ChAt]
  have hp : PredCall Try.prog 127 #[] #[.pointer (some ⟨w.heap.size, 0, none⟩)] (fun x => x.same c) (w.alloc (.cells #[.int .u8 c.C, .int .i64 c.By, .int .i64 c.No, .int .i64 c.K, .int .i64 c.In, .int .i64 c.Out, .int .i64 c.Gone] 86)) :=
    fun x W hb => Find1_c x c _ W (hc0.below hb hc0.lt)
  go_enter Try.func121, Try.ntmps121
  clear hc0
  go_wp2_with fail
  refine (IndexFunc_c a cap l _ _ _ _ _ hs0 hp (enters_of Try.func127 (by kernel_rfl) rfl)).mono ?_
  rintro e w2 ⟨rfl, hb2⟩
  go_wp2
  go_ret
  exact ⟨by rw [Hf.out]; rfl, hb0.trans (hb2.mono (by simp))⟩

theorem Find_n (a : Option Addr) (cap : Nat) (l : List Ch) (c : Ch) (n : Nat) (hn : l.length = n) (w : World) (hs : SlCh w a cap l) :
    Calls Try.prog 121 #[.slice a n cap, .agg #[.int .u8 c.C, .int .i64 c.By, .int .i64 c.No, .int .i64 c.K, .int .i64 c.In, .int .i64 c.Out, .int .i64 c.Gone]] w fun e w' => e = .returned (.int .i64 (find l c)) ∧ Below w.heap.size w w' := by
  subst hn; exact Find_c a cap l c w hs

theorem View_n (a : Option Addr) (cap : Nat) (l : List Ch) (n : Nat) (hn : l.length = n) (seen by_ : Int) (ns : List Int) (hv : viewN seen by_ l = ns) (m : Nat) (hm : ns.length = m) (w : World) (hs : SlCh w a cap l) (hsz : l.length ≤ 140737488355328) :
    Calls Try.prog 38 #[.slice a n cap, .int .i64 seen, .int .i64 by_] w fun e w' => ∃ a' cap', e = .returned (.slice a' m cap') ∧
      OwnRow w' w.heap.size 5 1 a' m cap' (ns.map (Value.int .u8)) ∧ Below w.heap.size w w' := by
  subst hn; subst hv; subst hm
  have e : (viewN seen by_ l).length = (vis seen by_ l).length := by simp [viewN]
  rw [e]
  exact View_c a cap l seen by_ w hs hsz

/-- string(View(..)), as the walk takes it. -/
theorem conv_view {w : World} {base : Nat} {a : Option Addr} {m cap : Nat} {ns : List Int} (h : OwnRow w base 5 1 a m cap (ns.map (Value.int .u8))) (s : ByteArray) (hs : strOfNums ns = s) :
    Sem.run Try.prog (convert 66 9 (.slice a m cap)) w = .ok (.string s) w :=
  hs ▸ run_convert_row h 66 Try.underlying66 Try.underlying5 9 Try.underlying9

theorem In_b (c : Ch) (seen by_ : Int) (r : Bool) (h : c.knowsIn seen by_ = r) (w : World) :
    Calls Try.prog 115 #[.agg #[.int .u8 c.C, .int .i64 c.By, .int .i64 c.No, .int .i64 c.K, .int .i64 c.In, .int .i64 c.Out, .int .i64 c.Gone], .int .i64 seen, .int .i64 by_] w fun e w' => e = .returned (.bool r) ∧ Below w.heap.size w w' := by subst h; exact In_c c seen by_ w
theorem Out_b (c : Ch) (seen by_ : Int) (r : Bool) (h : c.knowsOut seen by_ = r) (w : World) :
    Calls Try.prog 116 #[.agg #[.int .u8 c.C, .int .i64 c.By, .int .i64 c.No, .int .i64 c.K, .int .i64 c.In, .int .i64 c.Out, .int .i64 c.Gone], .int .i64 seen, .int .i64 by_] w fun e w' => e = .returned (.bool r) ∧ Below w.heap.size w w' := by subst h; exact Out_c c seen by_ w
theorem Sees_b (c : Ch) (seen by_ : Int) (r : Bool) (h : c.sees seen by_ = r) (w : World) :
    Calls Try.prog 90 #[.agg #[.int .u8 c.C, .int .i64 c.By, .int .i64 c.No, .int .i64 c.K, .int .i64 c.In, .int .i64 c.Out, .int .i64 c.Gone], .int .i64 seen, .int .i64 by_] w fun e w' => e = .returned (.bool r) ∧ Below w.heap.size w w' := by subst h; exact Sees_c c seen by_ w
end Go.Proofs.Ytneoeokfffnonac
