/- What the laws of a room share. -/
import Derived.Test.YtneoeokfffnonabRoomN
import Derived.Test.YtneoeokfffnonabMixX
set_option linter.unusedVariables false
set_option linter.unusedSimpArgs false
namespace Go.Proofs.Ytneoeokfffnonab
open Go.RowKit
theorem SameDeeds_r (a b : Option Addr) (capa capb : Nat) (l : List Dd) (n : Nat) (hn : l.length = n) (w : World) (hs : SlDd w a capa l) (hs' : SlDd w b capb l) :
    Calls Try.prog 49 #[.slice a n capa, .slice b n capb] w fun e w' => e = .returned (.bool true) ∧ Below w.heap.size w w' := by
  subst hn
  have hm : l.length ≤ maxLen := Nat.le_trans hs.1 hs.2.1
  unfold maxLen at hm
  have HA := Lib.hid hs; have HB := Lib.hid hs'
  clear hs hs'
  go_enter Try.func49, Try.ntmps49
  go_wp2
  go_loopw [5] (fun s5 wr => ∃ k : Nat, k ≤ l.length ∧ s5 = (.int .i64 k) ∧ Below w.heap.size w wr) (fun s5 _ => l.length - (intOf s5).toNat)
  case atStart => exact ⟨0, Nat.zero_le _, rfl, Below.refl _ _⟩
  case round =>
    obtain ⟨k, hk, rfl, hb⟩ := hrel
    by_cases hlt : k < l.length
    · obtain ⟨b1, o1, rfl, p0, p1, p2, p3, p4, p5, p6⟩ := (HA.out.below hb).nth hlt
      obtain ⟨b2, o2, rfl, q0, q1, q2, q3, q4, q5, q6⟩ := (HB.out.below hb).nth hlt
      have hlt' : (k : Int) < l.length := by omega
      have hk0 : (0 : Int) ≤ (k : Int) := by omega
      have hgd := guard_DeedW
      have hneq := neq_Deed l[k] l[k]
      have hdT : decide (l[k] = l[k]) = true := decide_eq_true rfl
      rw [hdT] at hneq
      generalize l[k] = x at *
      go_upto_region 6 with fail
      go_quiet (fail)
      have hL1 : Later wr (wr.drewN nq) := bl_drewN (Below.refl _ _) nq
      generalize wr.drewN nq = w1 at *
      have hb1 : Below w.heap.size w w1 := hb.trans (hL1.mono hb.size)
      clear hL1 hb p0 p1 p2 p3 p4 p5 p6 q0 q1 q2 q3 q4 q5 q6 hneq hgd hdT
      go_wp2
      exact ⟨⟨k + 1, by omega, by go_num, hb1⟩, by simp [intOf]; omega⟩
    · obtain rfl : k = l.length := by omega
      have hltB : decide ((l.length : Int) < (l.length : Int)) = false := by simp
      go_wp2
      go_ret
      exact ⟨rfl, hb⟩
/-- A slice of deeds, without its head. -/
theorem SlDd.tail1 {w : World} {b off cap : Nat} {l : List Dd} (h : SlDd w (some ⟨b, off, none⟩) cap l) (hl : 1 ≤ l.length) : SlDd w (if cap = 1 then some ⟨b, off, none⟩ else some ⟨b, off + 7, none⟩) (cap - 1) l.tail := by
  have h1 := h.1; have h2 := h.2.1
  refine ⟨by rw [List.length_tail]; omega, by omega, fun i hi => ?_⟩
  rw [List.length_tail] at hi
  obtain ⟨b', o', e, hc⟩ := h.2.2 (i + 1) (by omega)
  cases e
  rw [if_neg (by omega)]
  refine ⟨b, off + 7, rfl, ?_⟩
  rw [List.getElem_tail, show off + 7 + i * 7 = off + (i + 1) * 7 by omega]
  exact hc
/-- A room, somewhere from base on; below, nothing has changed since w. -/
def RW (w : World) (base g : Nat) (d : DkM) (w' : World) : Prop := (∃ F gw gs, RmAt w' base F g gw gs d d.scs false) ∧ Below base w w'
section
variable {w : World} {base g : Nat} {d : DkM}
theorem RW.later {w1 w2 : World} (h : RW w base g d w1) (hl : Below w1.heap.size w1 w2) : RW w base g d w2 := by
  obtain ⟨⟨F, gw, gs, h1⟩, h2⟩ := h
  exact ⟨⟨F, gw, gs, h1.later hl⟩, h2.trans (hl.mono h1.base_le)⟩
theorem RW.size {w1 : World} (h : RW w base g d w1) : base ≤ w1.heap.size := by
  obtain ⟨⟨F, gw, gs, h1⟩, h2⟩ := h
  exact h1.base_le
theorem RStep_RW {w1 : World} (h : RW w base g d w1) (ho : d.Ok) (hs : d.Sm 1000) (x : RStep) (hx : x.ok) :
    Calls Try.prog 48 #[.pointer (some ⟨g, 0, none⟩), .agg #[.int .i64 x.Do, .int .i64 x.W, .int .i64 x.At, .int .i64 x.Many, .string x.Text]] w1 fun e w' => e = .returned (.tuple #[.bool true, .bool (d.over x)]) ∧ Below base w w' ∧ base ≤ w'.heap.size ∧ (d.over x = false → RW w base g (d.room false x) w') := by
  obtain ⟨⟨F, gw, gs, h1⟩, h2⟩ := h
  refine (RStep_c h1 ho hs x hx).mono ?_
  rintro e w2 ⟨e1, e2, e3⟩
  refine ⟨e1, h2.trans e3, Nat.le_trans h1.base_le e3.size, fun h => ?_⟩
  obtain ⟨F', gw', gs', k1, k2, _⟩ := e2 h
  exact ⟨⟨F', gw', gs', k1⟩, h2.trans e3⟩
end
end Go.Proofs.Ytneoeokfffnonab
