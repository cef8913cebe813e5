/- The walk of the law DeskJoins. -/
import Derived.Test.YtneoeokfffnonabGreatDoorDsBeg
set_option linter.unusedVariables false
set_option linter.unusedSimpArgs false
namespace Go.Proofs.YtneoeokfffnonabGreatDoor
open Go.RowKit Go
theorem kDo {W : World} {base : Nat} {F : Nat → Prop} {g : Nat} {d : DkM} (hI : DsI W base F g d) (ho : d.Ok) {N : Nat} (hs : d.Sm N) (hN : N + 150 ≤ 1000) (hk : LibK W) (hB : lowB ≤ base) {a : Option Addr} {cap : Nat} {xs : List ByteArray} (hx : SlO W a cap xs) (hd : ∀ ad, a = some ad → xs ≠ [] → ¬ F ad.block) (hz : ∀ x ∈ xs, x.size ≤ 9000)
    {n : Nat} (hn : xs.length = n) {ys : List Str} (hy : (xs.map (fun x : ByteArray => x.data.toList)) = ys) {c k : Int} (hf : faultK ys = (c, k)) {S : ByteArray} (hS : S = ⟨(saysK d ys).toArray⟩) {D : DkM} (hD : D = doK d ys) :
    Calls Tryz.prog 7 #[.pointer (some ⟨g, 0, none⟩), .slice a n cap] W fun e w' => e = .returned (.tuple #[.string S, .agg #[.int .i64 c, .int .i64 k]]) ∧ DsJ W base F g D w' := by
  have h := dsDo_c hI ho hs hN hk hB a cap xs (fun W' hW => hx.moves hW hd) hz
  rw [hy, hf, hn, ← hS, ← hD] at h
  exact h
theorem SlO.drop {w : World} {b off cap : Nat} {l : List ByteArray} (h : SlO w (some ⟨b, off, none⟩) cap l) (K : Nat) : SlO w (some ⟨b, off + K, none⟩) (cap - K) (l.drop K) := by
  refine ⟨by rw [List.length_drop]; have := h.1; omega, by have := h.2.1; omega, fun i hi => ?_⟩
  rw [List.length_drop] at hi
  obtain ⟨b', off', e, hc⟩ := h.2.2 (K + i) (by omega)
  cases e
  exact ⟨b, off + K, rfl, by rw [Nat.add_assoc, List.getElem_drop]; exact hc⟩
theorem SlO.empty {w : World} (a : Option Addr) {cap : Nat} (h : cap ≤ maxLen) : SlO w a cap [] := ⟨Nat.zero_le _, h, fun i hi => by cases hi⟩
/-- Two desks, the first of which was asked. -/
def J1 (w0 wx : World) (b1 b2 g1 g2 : Nat) (D1 : DkM) (F2 : Nat → Prop) (X1 : Nat) (c1 : Int) : Prop :=
  ∃ F1, DsI wx b1 F1 g1 D1 ∧ DsI wx b2 F2 g2 DkM.new ∧ (∀ k, F1 k → ¬ F2 k) ∧ wx.cell? ⟨X1, 0, none⟩ = some (.int .i64 c1) ∧ ¬ F1 X1 ∧ ¬ F2 X1 ∧ Below w0.heap.size w0 wx
theorem J1.of {w0 w4 w5 : World} {b1 b2 g1 g2 : Nat} {F1 F2 : Nat → Prop} {D1 d : DkM} (hI1 : DsI w4 b1 F1 g1 d) (hI2 : DsI w4 b2 F2 g2 DkM.new) (hd : ∀ k, F1 k → ¬ F2 k) (hj : DsJ w4 b1 F1 g1 D1 w5) (hb : Below w0.heap.size w0 w4) (hb1 : w0.heap.size ≤ b1) (c k : Int) :
    J1 w0 (w5.alloc (.cells #[.int .i64 c, .int .i64 k] 29)) b1 b2 g1 g2 D1 F2 w5.heap.size c := by
  obtain ⟨F1', h1, hm, hg⟩ := hj
  have hbo := (Below.refl w5.heap.size w5).alloc (Nat.le_refl _) (.cells #[.int .i64 c, .int .i64 k] 29)
  have hI5 := hI2.moves hm (fun k hk e => hd k e hk)
  refine ⟨F1', h1.later hbo, hI5.later hbo, fun k hk e => ?_, by simp, fun e => by have := (h1.foot _ e).2; omega, fun e => by have := (hI5.foot _ e).2; omega, (hb.trans ((hI1.bel hm).mono hb1)).trans (hbo.mono ?_)⟩
  · rcases hg k hk with h | h
    · exact hd k h e
    · have := (hI2.foot k e).2; omega
  · exact Nat.le_trans hb.size hm.size
def J2 (w0 wx : World) (b1 g1 : Nat) (D1 : DkM) (X1 : Nat) (c1 : Int) (X2 : Nat) (c : Int) : Prop :=
  ∃ F1, DsI wx b1 F1 g1 D1 ∧ wx.cell? ⟨X1, 0, none⟩ = some (.int .i64 c1) ∧ wx.cell? ⟨X2, 0, none⟩ = some (.int .i64 c) ∧ ¬ F1 X1 ∧ ¬ F1 X2 ∧ Below w0.heap.size w0 wx
theorem J2.of {w0 w6 w7 : World} {b1 b2 g1 g2 : Nat} {F2 : Nat → Prop} {D1 D : DkM} {X1 : Nat} {c1 : Int} (h : J1 w0 w6 b1 b2 g1 g2 D1 F2 X1 c1) (hj : DsJ w6 b2 F2 g2 D w7) (hb2 : w0.heap.size ≤ b2) (c k : Int) :
    J2 w0 (w7.alloc (.cells #[.int .i64 c, .int .i64 k] 29)) b1 g1 D1 X1 c1 w7.heap.size c := by
  obtain ⟨F1, h1, h2, hd, hc, hn1, hn2, hb⟩ := h
  obtain ⟨F2', h3, hm, hg⟩ := hj
  have hbo := (Below.refl w7.heap.size w7).alloc (Nat.le_refl _) (.cells #[.int .i64 c, .int .i64 k] 29)
  have hI7 := h1.moves hm (fun k hk e => hd k hk e)
  have hX := World.block_lt_of_cell? w6 _ hc
  have hc7 := (hm.cell hX hn2 0).trans hc
  refine ⟨F1, hI7.later hbo, (hbo.cell (p := ⟨X1, 0, none⟩) (World.block_lt_of_cell? w7 _ hc7)).trans hc7, by simp, hn1, fun e => by have := (hI7.foot _ e).2; omega, (hb.trans ((h2.bel hm).mono hb2)).trans (hbo.mono ?_)⟩
  exact Nat.le_trans hb.size hm.size
def J3 (w0 wx : World) (X1 : Nat) (c1 : Int) (X2 : Nat) (c : Int) (X3 : Nat) (c2 : Int) : Prop :=
  wx.cell? ⟨X1, 0, none⟩ = some (.int .i64 c1) ∧ wx.cell? ⟨X2, 0, none⟩ = some (.int .i64 c) ∧ wx.cell? ⟨X3, 0, none⟩ = some (.int .i64 c2) ∧ Below w0.heap.size w0 wx
theorem J3.of {w0 w8 w9 : World} {b1 g1 : Nat} {F1 : Nat → Prop} {D1 D : DkM} {X1 X2 : Nat} {c1 c : Int} (h1 : DsI w8 b1 F1 g1 D1) (k1 : w8.cell? ⟨X1, 0, none⟩ = some (.int .i64 c1)) (k2 : w8.cell? ⟨X2, 0, none⟩ = some (.int .i64 c)) (n1 : ¬ F1 X1) (n2 : ¬ F1 X2) (hb : Below w0.heap.size w0 w8) (hj : DsJ w8 b1 F1 g1 D w9) (hb1 : w0.heap.size ≤ b1) (c2 k : Int) :
    J3 w0 (w9.alloc (.cells #[.int .i64 c2, .int .i64 k] 29)) X1 c1 X2 c w9.heap.size c2 := by
  obtain ⟨F2', h3, hm, hg⟩ := hj
  have hbo := (Below.refl w9.heap.size w9).alloc (Nat.le_refl _) (.cells #[.int .i64 c2, .int .i64 k] 29)
  have e1 := (hm.cell (World.block_lt_of_cell? w8 _ k1) n1 0).trans k1
  have e2 := (hm.cell (World.block_lt_of_cell? w8 _ k2) n2 0).trans k2
  exact ⟨(hbo.cell (p := ⟨X1, 0, none⟩) (World.block_lt_of_cell? w9 _ e1)).trans e1, (hbo.cell (p := ⟨X2, 0, none⟩) (World.block_lt_of_cell? w9 _ e2)).trans e2, by simp, (hb.trans ((h1.bel hm).mono hb1)).trans (hbo.mono (Nat.le_trans hb.size hm.size))⟩
theorem J3.later {w0 w1 w2 : World} {X1 X2 X3 : Nat} {c1 c c2 : Int} (h : J3 w0 w1 X1 c1 X2 c X3 c2) {B : Nat} (hl : Below B w1 w2) (hB : w1.heap.size ≤ B) : J3 w0 w2 X1 c1 X2 c X3 c2 := by
  obtain ⟨e1, e2, e3, hb⟩ := h
  have l1 := World.block_lt_of_cell? w1 _ e1
  have l2 := World.block_lt_of_cell? w1 _ e2
  have l3 := World.block_lt_of_cell? w1 _ e3
  exact ⟨(hl.cell (p := ⟨X1, 0, none⟩) (Nat.lt_of_lt_of_le l1 hB)).trans e1, (hl.cell (p := ⟨X2, 0, none⟩) (Nat.lt_of_lt_of_le l2 hB)).trans e2, (hl.cell (p := ⟨X3, 0, none⟩) (Nat.lt_of_lt_of_le l3 hB)).trans e3, hb.trans (hl.mono (Nat.le_trans hb.size hB))⟩
theorem len_map (l : List ByteArray) : ((l.map (fun x : ByteArray => x.data.toList))).length = l.length := List.length_map ..
set_option maxRecDepth 100000 in
set_option maxHeartbeats 4000000 in
theorem DeskJoins_c (a : Option Addr) (cap : Nat) (l : List ByteArray) (x : Int) (w : World) (hs : SlO w a cap l) (hok : (∀ s ∈ l, s.size ≤ 140737488355328) ∧ (a = none → cap = 0)) (hx : i64ok x) (hk : LibK w) :
    Calls Tryz.prog 3 #[.slice a l.length cap, .int .i64 x] w fun e w' => e = .returned (.bool true) ∧ Below w.heap.size w w' := by
  have hm1 : l.length ≤ cap := hs.1
  have HMC := Lib.hid hs.2.1
  have HS := Lib.hid hs
  have HOK := Lib.hid hok
  have HX := Lib.hid hx
  have HK := Lib.hid hk
  clear hs hok hx hk
  go_enter Tryz.func3, Tryz.ntmps3
  go_wp2_with fail
  refine (deskBegun_c w HK.out).mono ?_
  rintro e w1 ⟨rfl, hb1⟩
  have HB1 := Lib.hid hb1
  clear hb1
  by_cases hbig : 150 < l.length
  case pos =>
    have hbB : decide ((150 : Int) < (l.length : Int)) = true := decide_eq_true (by omega)
    go_wp2
    go_ret
    exact ⟨rfl, HB1.out⟩
  have hbB : decide ((150 : Int) < (l.length : Int)) = false := decide_eq_false (by omega)
  go_wp2_with fail
  refine (slow_c a cap l w1 (HS.out.below HB1.out) HOK.out.1).mono ?_
  rintro e w2 ⟨rfl, rfl⟩
  cases hsl : slowK 0 (l.map (fun x : ByteArray => x.data.toList))
  case true =>
    go_wp2
    go_ret
    exact ⟨rfl, HB1.out⟩
  have HZ := Lib.hid (show ∀ x ∈ l, x.size ≤ 9000 from fun x hx => by
    have := slowK_false _ 0 (Int.le_refl _) hsl x.data.toList (List.mem_map.2 ⟨x, hx, rfl⟩)
    rw [ba_len] at this; exact this)
  obtain ⟨K, hK, hKn⟩ := mod_k x l.length (by omega)
  have hsz1 : IntKind.i64.wrap ((l.length : Int) + 1) = (l.length : Int) + 1 := by rw [IntKind.wrap_i64]; omega
  have hsz2 : IntKind.u64.wrap ((l.length : Int) + 1) = (l.length : Int) + 1 := by rw [IntKind.wrap_u64]; omega
  clear hsl
  have HKK := Lib.hid hK
  clear hK
  go_upto_region 6 with fail
  rw [HKK.out]
  clear hsz1 hsz2 hbB HKK
  go_wp2_with fail
  refine (dsNew_c w2).mono ?_
  rintro e w3 ⟨F1, g1, rfl, hI1, hb3⟩
  go_wp2_with fail
  refine (dsNew_c w3).mono ?_
  rintro e w4 ⟨F2, g2, rfl, hI2, hb4⟩
  have HI1 := Lib.hid (hI1.later hb4)
  have HDJ := Lib.hid (show ∀ k, F1 k → ¬ F2 k from fun k h1 h2 => by have := (hI1.foot k h1).2; have := (hI2.foot k h2).1; omega)
  have HI2 := Lib.hid hI2
  have HB4 := Lib.hid (show Below w.heap.size w w4 from (HB1.out.trans (hb3.mono HB1.out.size)).trans (hb4.mono (Nat.le_trans HB1.out.size hb3.size)))
  have HW2 := Lib.hid (show w.heap.size ≤ w2.heap.size from HB1.out.size)
  have HW3 := Lib.hid (show w.heap.size ≤ w3.heap.size from Nat.le_trans HB1.out.size hb3.size)
  have HLO := Lib.hid HK.out.low
  -- what they tell
  obtain ⟨ys, hys⟩ : ∃ ys, ys = (l.map (fun x : ByteArray => x.data.toList)) := ⟨_, rfl⟩
  have hyl : ys.length ≤ 150 := by rw [hys, len_map]; omega
  obtain ⟨⟨c1, k1⟩, hf1⟩ : ∃ p, faultK (ys.take K) = p := ⟨_, rfl⟩
  obtain ⟨⟨c2, k2⟩, hf2⟩ : ∃ p, faultK (ys.drop K) = p := ⟨_, rfl⟩
  obtain ⟨⟨c, k⟩, hf⟩ : ∃ p, faultK ys = p := ⟨_, rfl⟩
  obtain ⟨D1, hD1⟩ : ∃ D, D = doK DkM.new (ys.take K) := ⟨_, rfl⟩
  obtain ⟨D, hD⟩ : ∃ D, D = doK DkM.new ys := ⟨_, rfl⟩
  obtain ⟨D2, hD2⟩ : ∃ D, D = doK D1 (ys.drop K) := ⟨_, rfl⟩
  obtain ⟨S1, hS1⟩ : ∃ S : ByteArray, S = ⟨(saysK DkM.new (ys.take K)).toArray⟩ := ⟨_, rfl⟩
  obtain ⟨S, hS⟩ : ∃ S : ByteArray, S = ⟨(saysK DkM.new ys).toArray⟩ := ⟨_, rfl⟩
  obtain ⟨S2, hS2⟩ : ∃ S : ByteArray, S = ⟨(saysK D1 (ys.drop K)).toArray⟩ := ⟨_, rfl⟩
  have HFC := Lib.hid (show c = 0 ↔ c1 = 0 ∧ c2 = 0 from by have := fault_cut ys K hyl; rw [hf, hf1, hf2] at this; exact this)
  have HD1K := Lib.hid (show D1.Ok ∧ D1.Sm 150 from by
    rw [hD1]; unfold doK
    split
    · exact ⟨linesK_ok _ DkM.new_ok, (linesK_sm _ DkM.new_sm).mono (by rw [List.length_take]; omega)⟩
    · exact ⟨DkM.new_ok, DkM.new_sm.mono (by omega)⟩)
  have HSE := Lib.hid (show c = 0 → S1 ++ S2 = S ∧ S1.size ≤ 60000000 ∧ S2.size ≤ 60000000 from fun h0 => by
    have hj := desk_joins ys K hyl (by rw [hf]; exact h0)
    obtain ⟨q1, q2⟩ := (fault_cut ys K hyl).1 (by rw [hf]; exact h0)
    rw [hS1, hS2, hS, ← hj, hD1]
    refine ⟨ba_ext (by simp), ?_, ?_⟩
    · unfold saysK
      rw [if_pos q1]
      show (linesK DkM.new (ys.take K)).2.toArray.size ≤ _
      have hlk := linesK_len (ys.take K) DkM.new_ok DkM.new_sm (by rw [List.length_take]; omega)
      rw [List.length_take] at hlk
      have h4 : (min K ys.length) * 400000 ≤ 150 * 400000 := Nat.mul_le_mul_right _ (by omega)
      rw [List.size_toArray]; omega
    · unfold saysK
      rw [if_pos q2]
      show (linesK (doK DkM.new (ys.take K)) (ys.drop K)).2.toArray.size ≤ _
      rw [← hD1]
      have hlk := linesK_len (ys.drop K) HD1K.out.1 HD1K.out.2 (by rw [List.length_drop]; omega)
      rw [List.length_drop] at hlk
      have h4 : (ys.length - K) * 400000 ≤ 150 * 400000 := Nat.mul_le_mul_right _ (by omega)
      rw [List.size_toArray]; omega)
  have HT1 := Lib.hid (show ((l.take K).map (fun x : ByteArray => x.data.toList)) = ys.take K from by rw [hys, List.map_take])
  have HT2 := Lib.hid (show ((l.drop K).map (fun x : ByteArray => x.data.toList)) = ys.drop K from by rw [hys, List.map_drop])
  have HT0 := Lib.hid hys.symm
  have HF1 := Lib.hid hf1; have HF2 := Lib.hid hf2; have HF := Lib.hid hf
  have HS1 := Lib.hid hS1; have HS2 := Lib.hid hS2; have HSS := Lib.hid hS
  have HDD1 := Lib.hid hD1; have HDD2 := Lib.hid hD2; have HDD := Lib.hid hD
  clear hys hyl hf1 hf2 hf hS1 hS2 hS hD1 hD2 hD hI1 hI2 hb3 hb4
  have HLT := Lib.hid HS.out.lt
  have HDO1 := Lib.hid (fun (a' : Option Addr) (cap' : Nat) (hx : SlO w4 a' cap' (l.take K)) (hd : ∀ ad, a' = some ad → l.take K ≠ [] → ad.block < w.heap.size) =>
    kDo HI1.out DkM.new_ok DkM.new_sm (by omega) (HK.out.later HB4.out) (Nat.le_trans HLO.out HW2.out) hx (fun ad e hne hF => by have := hd ad e hne; have := (HI1.out.foot _ hF).1; have := HW2.out; omega) (fun x hx => HZ.out x (List.mem_of_mem_take hx)) (n := K) (by rw [List.length_take]; omega) HT1.out HF1.out HS1.out HDD1.out)
  have HSL4 := Lib.hid (HS.out.below HB4.out)
  go_upto_region 7 with fail
  go_cut [8, 9] (fun s8 s9 wx => ∃ X1 : Nat, s8 = .string S1 ∧ s9 = (.pointer (some ⟨X1, 0, none⟩)) ∧ Hid (J1 w wx w2.heap.size w3.heap.size g1 g2 D1 F2 X1 c1))
  case first => as_aux_lemma =>
    by_cases hl : l = []
    · subst hl
      obtain rfl : K = 0 := by simpa using hKn
      rcases a with _ | ad
      · obtain rfl : cap = 0 := HOK.out.2 rfl
        go_wp2_with fail
        refine (HDO1.out _ _ (SlO.empty _ (Nat.zero_le _)) (fun ad e hne => absurd rfl hne)).mono ?_
        rintro e w5 ⟨rfl, hj1⟩
        have HJ := Lib.hid (J1.of HI1.out HI2.out HDJ.out hj1 HB4.out HW2.out c1 k1)
        clear hj1
        go_wp2
        go_meet
        exact ⟨_, rfl, rfl, HJ⟩
      · have hcm : cap ≤ maxLen := HMC.out
        have hc0 : (0 : Int) ≤ (cap : Int) := by omega
        have HCM := Lib.hid hcm
        clear hcm
        go_wp2_with fail
        refine (HDO1.out _ _ (SlO.empty _ HCM.out) (fun ad e hne => absurd rfl hne)).mono ?_
        rintro e w5 ⟨rfl, hj1⟩
        have HJ := Lib.hid (J1.of HI1.out HI2.out HDJ.out hj1 HB4.out HW2.out c1 k1)
        clear hj1
        go_wp2
        go_meet
        exact ⟨_, rfl, rfl, HJ⟩
    · obtain ⟨b, off, rfl, hc0⟩ := HS.out.nth (List.length_pos_iff.2 hl)
      have HBW := Lib.hid (World.block_lt_of_cell? w _ hc0)
      have hKc : (K : Int) ≤ (cap : Int) := by omega
      have hK0 : (0 : Int) ≤ (K : Int) := by omega
      clear hc0
      go_wp2_with fail
      refine (HDO1.out _ _ (HSL4.out.take K) (fun ad e hne => by cases e; exact HBW.out)).mono ?_
      rintro e w5 ⟨rfl, hj1⟩
      have HJ := Lib.hid (J1.of HI1.out HI2.out HDJ.out hj1 HB4.out HW2.out c1 k1)
      clear hj1
      go_wp2
      go_meet
      exact ⟨_, rfl, rfl, HJ⟩
  case rest => as_aux_lemma =>
  obtain ⟨X1, rfl, rfl, HJ1⟩ := hcut
  clear HDO1 HSL4 HDJ HI1 HI2 HB4 HB1
  rename World => w6
  have HDO := Lib.hid (show Calls Tryz.prog 7 #[.pointer (some ⟨g2, 0, none⟩), .slice a l.length cap] w6 fun e w' => e = .returned (.tuple #[.string S, .agg #[.int .i64 c, .int .i64 k]]) ∧ DsJ w6 w3.heap.size F2 g2 D w' from by
    obtain ⟨F1, q1, q2, qd, qc, qn1, qn2, qb⟩ := HJ1.out
    exact kDo q2 DkM.new_ok DkM.new_sm (by omega) (HK.out.later qb) (Nat.le_trans HLO.out HW3.out) (HS.out.below qb) (fun ad e hne hF => by have := HLT.out ad e hne; have := (q2.foot _ hF).1; have := HW3.out; omega) HZ.out rfl HT0.out HF.out HSS.out HDD.out)
  go_wp2_with fail
  refine HDO.out.mono ?_
  rintro e w7 ⟨rfl, hj2⟩
  have HJ2 := Lib.hid (J2.of HJ1.out hj2 HW3.out c k)
  clear hj2 HJ1 HDO
  go_upto_region 9 with fail
  generalize hw8 : w7.alloc _ = w8
  have hw8' : w7.alloc (.cells #[.int .i64 c, .int .i64 k] 29) = w8 := hw8
  rw [hw8'] at HJ2
  clear hw8 hw8'
  generalize w7.heap.size = X2 at HJ2 ⊢
  have HDO2 := Lib.hid (show ∃ F1, (DsI w8 w2.heap.size F1 g1 D1 ∧ w8.cell? ⟨X1, 0, none⟩ = some (.int .i64 c1) ∧ w8.cell? ⟨X2, 0, none⟩ = some (.int .i64 c) ∧ ¬ F1 X1 ∧ ¬ F1 X2 ∧ Below w.heap.size w w8) ∧ ∀ (a' : Option Addr) (cap' : Nat), SlO w8 a' cap' (l.drop K) → (∀ ad, a' = some ad → l.drop K ≠ [] → ad.block < w.heap.size) →
      Calls Tryz.prog 7 #[.pointer (some ⟨g1, 0, none⟩), .slice a' (l.length - K) cap'] w8 fun e w' => e = .returned (.tuple #[.string S2, .agg #[.int .i64 c2, .int .i64 k2]]) ∧ DsJ w8 w2.heap.size F1 g1 D2 w' from by
    obtain ⟨F1, q1, qc, qc2, qn1, qn2, qb⟩ := HJ2.out
    exact ⟨F1, ⟨q1, qc, qc2, qn1, qn2, qb⟩, fun a' cap' hx hd => kDo q1 HD1K.out.1 HD1K.out.2 (by omega) (HK.out.later qb) (Nat.le_trans HLO.out HW2.out) hx (fun ad e hne hF => by have := hd ad e hne; have := (q1.foot _ hF).1; have := HW2.out; omega) (fun x hx => HZ.out x (List.mem_of_mem_drop hx)) (by rw [List.length_drop]) HT2.out HF2.out HS2.out HDD2.out⟩)
  have HSL8 := Lib.hid (show SlO w8 a cap l from by obtain ⟨F1, q1, qc, qc2, qn1, qn2, qb⟩ := HJ2.out; exact HS.out.below qb)
  clear HJ2
  go_cut [12, 13] (fun s12 s13 wx => ∃ X3 : Nat, s12 = .string S2 ∧ s13 = (.pointer (some ⟨X3, 0, none⟩)) ∧ Hid (J3 w wx X1 c1 X2 c X3 c2))
  case first => as_aux_lemma =>
    obtain ⟨F1, hq, hcall⟩ := HDO2.out
    have HQ := Lib.hid hq
    have HDC := Lib.hid hcall
    clear hq hcall HDO2
    by_cases hl : l = []
    · subst hl
      obtain rfl : K = 0 := by simpa using hKn
      rcases a with _ | ad
      · obtain rfl : cap = 0 := HOK.out.2 rfl
        go_wp2_with fail
        refine (HDC.out _ _ (SlO.empty _ (Nat.zero_le _)) (fun ad e hne => absurd rfl hne)).mono ?_
        rintro e w9 ⟨rfl, hj3⟩
        have HJ := Lib.hid (J3.of HQ.out.1 HQ.out.2.1 HQ.out.2.2.1 HQ.out.2.2.2.1 HQ.out.2.2.2.2.1 HQ.out.2.2.2.2.2 hj3 HW2.out c2 k2)
        clear hj3
        go_wp2
        go_meet
        exact ⟨_, rfl, rfl, HJ⟩
      · have hcm : cap ≤ maxLen := HMC.out
        have hc0 : (0 : Int) ≤ (cap : Int) := by omega
        have HCM := Lib.hid hcm
        clear hcm
        by_cases hcz : cap = 0
        · subst hcz
          go_wp2_with fail
          refine (HDC.out _ _ (SlO.empty _ (Nat.zero_le _)) (fun ad e hne => absurd rfl hne)).mono ?_
          rintro e w9 ⟨rfl, hj3⟩
          have HJ := Lib.hid (J3.of HQ.out.1 HQ.out.2.1 HQ.out.2.2.1 HQ.out.2.2.2.1 HQ.out.2.2.2.2.1 HQ.out.2.2.2.2.2 hj3 HW2.out c2 k2)
          clear hj3
          go_wp2
          go_meet
          exact ⟨_, rfl, rfl, HJ⟩
        · go_wp2_with fail
          refine (HDC.out _ _ (SlO.empty _ (by have := HCM.out; omega)) (fun ad e hne => absurd rfl hne)).mono ?_
          rintro e w9 ⟨rfl, hj3⟩
          have HJ := Lib.hid (J3.of HQ.out.1 HQ.out.2.1 HQ.out.2.2.1 HQ.out.2.2.2.1 HQ.out.2.2.2.2.1 HQ.out.2.2.2.2.2 hj3 HW2.out c2 k2)
          clear hj3
          go_wp2
          go_meet
          exact ⟨_, rfl, rfl, HJ⟩
    · obtain ⟨b, off, rfl, hc0⟩ := HS.out.nth (List.length_pos_iff.2 hl)
      have HBW := Lib.hid (World.block_lt_of_cell? w _ hc0)
      have hKc : (K : Int) ≤ (cap : Int) := by omega
      have hKl : (K : Int) ≤ (l.length : Int) := by omega
      have hK0 : (0 : Int) ≤ (K : Int) := by omega
      clear hc0
      by_cases hcK : cap = K
      · have hd0 : l.drop K = [] := List.drop_of_length_le (by omega)
        have HCM := Lib.hid HMC.out
        have hlK : l.length - K = 0 := by omega
        have hD0 := HDC.out
        rw [hlK] at hD0
        have HD0 := Lib.hid hD0
        clear hD0 HDC
        subst hcK
        go_wp2_with fail
        refine (HD0.out _ _ (by rw [hd0]; exact SlO.empty _ (by have := HCM.out; omega)) (fun ad e hne => absurd hd0 hne)).mono ?_
        rintro e w9 ⟨rfl, hj3⟩
        have HJ := Lib.hid (J3.of HQ.out.1 HQ.out.2.1 HQ.out.2.2.1 HQ.out.2.2.2.1 HQ.out.2.2.2.2.1 HQ.out.2.2.2.2.2 hj3 HW2.out c2 k2)
        clear hj3
        go_wp2
        go_meet
        exact ⟨_, rfl, rfl, HJ⟩
      · go_wp2_with fail
        refine (HDC.out _ _ (HSL8.out.drop K) (fun ad e hne => by cases e; exact HBW.out)).mono ?_
        rintro e w9 ⟨rfl, hj3⟩
        have HJ := Lib.hid (J3.of HQ.out.1 HQ.out.2.1 HQ.out.2.2.1 HQ.out.2.2.2.1 HQ.out.2.2.2.2.1 HQ.out.2.2.2.2.2 hj3 HW2.out c2 k2)
        clear hj3
        go_wp2
        go_meet
        exact ⟨_, rfl, rfl, HJ⟩
  case rest => as_aux_lemma =>
  obtain ⟨X3, rfl, rfl, HJ3⟩ := hcut
  clear HDO2 HSL8
  rename World => w10
  obtain ⟨e1, e2, e3, eb⟩ := HJ3.out
  have HEB := Lib.hid eb
  clear eb
  by_cases hc0 : c = 0
  case neg =>
    have hcB : decide (c = 0) = false := decide_eq_false hc0
    have hcN : (c != 0) = true := by simpa using hc0
    have hor : c1 ≠ 0 ∨ c2 ≠ 0 := by
      by_cases h1 : c1 = 0
      · right; intro h2; exact hc0 (HFC.out.2 ⟨h1, h2⟩)
      · left; exact h1
    by_cases h1 : c1 = 0
    · have h2 : c2 ≠ 0 := by rcases hor with h | h; exact absurd h1 h; exact h
      have h2N : (c2 != 0) = true := by simpa using h2
      have h2D : decide (c2 = 0) = false := decide_eq_false h2
      clear hor hc0
      subst h1
      go_wp2
      go_ret
      exact ⟨rfl, HEB.out⟩
    · have h1N : (c1 != 0) = true := by simpa using h1
      have h1D : decide (c1 = 0) = false := decide_eq_false h1
      clear hor hc0
      go_wp2
      go_ret
      exact ⟨rfl, HEB.out⟩
  case pos =>
  obtain ⟨h1, h2⟩ := HFC.out.1 hc0
  subst hc0 h1 h2
  obtain ⟨hse, hz1, hz2⟩ := HSE.out rfl
  have HSE2 := Lib.hid hse
  have HZ1 := Lib.hid hz1
  have HZ2 := Lib.hid hz2
  clear hse hz1 hz2 HSE HFC
  go_wp2_with fail
  refine (dsNew_c w10).mono ?_
  rintro e w11 ⟨F4, g4, rfl, hI4, hb11⟩
  have HJ11 := Lib.hid (HJ3.out.later hb11 (Nat.le_refl _))
  have HW10 := Lib.hid (show w.heap.size ≤ w10.heap.size from HEB.out.size)
  have HDO := Lib.hid (kDo hI4 DkM.new_ok DkM.new_sm (by omega) (HK.out.later HJ11.out.2.2.2) (Nat.le_trans HLO.out HW10.out) (HS.out.below HJ11.out.2.2.2) (fun ad e hne hF => by have := HLT.out ad e hne; have := (hI4.foot _ hF).1; have := HW10.out; omega) HZ.out rfl HT0.out HF.out HSS.out HDD.out)
  have HI4 := Lib.hid hI4
  have HB11 := Lib.hid hb11
  clear hI4 hb11 e1 e2 e3
  go_wp2_with fail
  refine HDO.out.mono ?_
  rintro e w12 ⟨rfl, hj4⟩
  have HJ12 := Lib.hid (show J3 w w12 X1 0 X2 0 X3 0 from by
    obtain ⟨F5, _, hm, _⟩ := hj4
    exact HJ3.out.later ((HB11.out.mono (Nat.le_refl _)).trans (HI4.out.bel hm)) (Nat.le_refl _))
  clear hj4 HDO HJ11 HJ3
  have hbo := (Below.refl w12.heap.size w12).alloc (Nat.le_refl _) (.cells #[.int .i64 0, .int .i64 k] 29)
  have HJ13 := Lib.hid (HJ12.out.later hbo (Nat.le_refl _))
  clear hbo HJ12
  go_upto_region 13 with fail
  generalize hw13 : w12.alloc _ = w13
  have hw13' : w12.alloc (.cells #[.int .i64 0, .int .i64 k] 29) = w13 := hw13
  rw [hw13'] at HJ13
  clear hw13 hw13'
  obtain ⟨e1, e2, e3, eb⟩ := HJ13.out
  have HEB13 := Lib.hid eb
  clear eb HEB
  have hcmp : ((S1 ++ S2).toList == S.toList) = true := by rw [HSE2.out]; simp
  have hlen : ¬ (9223372036854775807 < S1.size + S2.size) := by have := HZ1.out; have := HZ2.out; omega
  go_wp2
  all_goals first | (exfalso; have := HZ1.out; have := HZ2.out; omega) | (go_ret; exact ⟨rfl, HEB13.out⟩) | (go_ret; exact ⟨by simp, HEB13.out⟩)
end Go.Proofs.YtneoeokfffnonabGreatDoor
