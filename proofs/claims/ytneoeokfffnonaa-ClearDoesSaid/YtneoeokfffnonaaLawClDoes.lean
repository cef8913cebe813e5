/- The walk of the law ClearDoes. -/
import Derived.Test.YtneoeokfffnonaaLawSlides
import Derived.Test.YtneoeokfffnonaaRefClW
import Derived.Deep.DeepCutAuto
import Derived.Deep.CutBlock
namespace Go.Proofs.Ytneoeokfffnonaa
open Go.RowKit

theorem find_idx (m : Mk) (h : m.Start = false) (l : List Ch) : ∀ i, findFrom ⟨0, m.By, m.No, m.K, 0, 0, 0⟩ l i = idxFrom m.is l i := by
  induction l with
  | nil => intro i; rfl
  | cons c l ih =>
    intro i
    unfold findFrom idxFrom
    have : c.same ⟨0, m.By, m.No, m.K, 0, 0, 0⟩ = m.is c := by
      unfold Ch.same Mk.is
      rw [h]
      simp only [Bool.not_false, Bool.true_and]
      rw [Bool.eq_iff_iff]
      simp only [Bool.and_eq_true, beq_iff_eq]
      constructor
      · rintro ⟨⟨a, b⟩, c⟩; exact ⟨a.symm, b.symm, c.symm⟩
      · rintro ⟨a, b, c⟩; exact ⟨⟨a.symm, b.symm⟩, c.symm⟩
    rw [this, ih]

theorem clearOf_one (least : Int) (c : Ch) : (clearOf least [c]).length = if doneB least c then 0 else 1 := by
  unfold clearOf
  cases h : doneB least c <;> simp [h]

section
variable {w : World} {b : Nat} {m : Mk}
theorem MkAt.set0 (h : MkAt w b m) (x : Bool) : MkAt (w.setCell ⟨b, 0, none⟩ (.bool x)) b { m with Start := x } := by
  refine ⟨by simpa using h.lt, ?_, ?_, ?_, ?_⟩
  · exact World.cell?_setCell_same _ _ _ h.c0
  · exact (World.cell?_setCell_other _ _ _ _ (by simp)).trans h.c1
  · exact (World.cell?_setCell_other _ _ _ _ (by simp)).trans h.c2
  · exact (World.cell?_setCell_other _ _ _ _ (by simp)).trans h.c3
theorem MkAt.set1 (h : MkAt w b m) (x : Int) : MkAt (w.setCell ⟨b, 1, none⟩ (.int .i64 x)) b { m with By := x } := by
  refine ⟨by simpa using h.lt, ?_, ?_, ?_, ?_⟩
  · exact (World.cell?_setCell_other _ _ _ _ (by simp)).trans h.c0
  · exact World.cell?_setCell_same _ _ _ h.c1
  · exact (World.cell?_setCell_other _ _ _ _ (by simp)).trans h.c2
  · exact (World.cell?_setCell_other _ _ _ _ (by simp)).trans h.c3
theorem MkAt.set2 (h : MkAt w b m) (x : Int) : MkAt (w.setCell ⟨b, 2, none⟩ (.int .i64 x)) b { m with No := x } := by
  refine ⟨by simpa using h.lt, ?_, ?_, ?_, ?_⟩
  · exact (World.cell?_setCell_other _ _ _ _ (by simp)).trans h.c0
  · exact (World.cell?_setCell_other _ _ _ _ (by simp)).trans h.c1
  · exact World.cell?_setCell_same _ _ _ h.c2
  · exact (World.cell?_setCell_other _ _ _ _ (by simp)).trans h.c3
theorem MkAt.set3 (h : MkAt w b m) (x : Int) : MkAt (w.setCell ⟨b, 3, none⟩ (.int .i64 x)) b { m with K := x } := by
  refine ⟨by simpa using h.lt, ?_, ?_, ?_, ?_⟩
  · exact (World.cell?_setCell_other _ _ _ _ (by simp)).trans h.c0
  · exact (World.cell?_setCell_other _ _ _ _ (by simp)).trans h.c1
  · exact (World.cell?_setCell_other _ _ _ _ (by simp)).trans h.c2
  · exact World.cell?_setCell_same _ _ _ h.c3
end
theorem MkAt.of_block {w w' : World} {b : Nat} {m : Mk} (h : MkAt w b m) (hz : w.heap.size ≤ w'.heap.size) (hb : w'.heap[b]? = w.heap[b]?) : MkAt w' b m :=
  have k : ∀ o, w'.cell? ⟨b, o, none⟩ = w.cell? ⟨b, o, none⟩ := fun o => World.cell?_of_block (w := w) hb
  ⟨Nat.lt_of_lt_of_le h.lt hz, (k _).trans h.c0, (k _).trans h.c1, (k _).trans h.c2, (k _).trans h.c3⟩

theorem OwnRow.nilcap' {w : World} {base : Nat} {e : TypeId} {size : Nat} {a : Option Addr} {n cap : Nat} {xs : List Value} (h : OwnRow w base e size a n cap xs) : a = none → cap = 0 := by
  intro ha
  rcases h.own with h0 | ⟨g, off, cur, he, _⟩
  · exact h0
  · rw [ha] at he; cases he
theorem guard_Mark : Try.prog.eqGuardType Try.prog.depth 26 = false := by kernel_rfl
theorem eql_Mark (x : Mk) (w : World) : (binOp .eql 26 (.agg #[.bool x.Start, .int .i64 x.By, .int .i64 x.No, .int .i64 x.K]) (.agg #[.bool x.Start, .int .i64 x.By, .int .i64 x.No, .int .i64 x.K])).run Try.prog w = .ok (.bool true) w := by
  have u3 := Try.underlying3
  have a3 := Try.isAgg3
  have z3 := Try.sizeOf3
  have u5 := Try.underlying4
  have a5 := Try.isAgg4
  have z5 := Try.sizeOf4
  have hS : Try.prog.underlying 26 = some (.struct (Try.prog.fieldsOf 26)) := by kernel_rfl
  have hp : Try.prog.stoodInHeld 26 = false := by kernel_rfl
  rw [run_eql_struct, show (10000 : Nat) = 9999 + 1 from rfl, run_equalIn_agg w 9999 26 _ _ hS hp]
  simp only [Program.fieldsOf, Try.underlying26]
  go_simp
/-- What the law's own search for the mark comes to. -/
theorem place_find (l : List Ch) (m : Mk) : placeOf l m = if m.Start then 0 else if find l ⟨0, m.By, m.No, m.K, 0, 0, 0⟩ < 0 then -1 else find l ⟨0, m.By, m.No, m.K, 0, 0, 0⟩ + 1 := by
  unfold placeOf find
  cases h : m.Start
  · rw [find_idx m h]
  · rfl
theorem find_le (l : List Ch) (c : Ch) : find l c = -1 ∨ ∃ k : Nat, k < l.length ∧ find l c = k := by
  unfold find
  rcases findFrom_spec c l 0 with ⟨h, _⟩ | ⟨k, hk, h, _⟩
  · exact .inl h
  · exact .inr ⟨k, hk, by rw [h]; omega⟩
theorem markAt_some (l : List Ch) (n : Nat) (h : n ≤ l.length) : (markAt l n).isSome = true := by
  unfold markAt
  rw [if_neg (by omega)]
  split
  · rfl
  · rw [List.getElem?_eq_getElem (by omega)]; rfl
theorem slide_some (least : Int) (l : List Ch) (m : Mk) : (markAt l (slideAt least l m)).isSome = decide (0 ≤ placeOf l m) := by
  unfold slideAt
  rcases placeOf_le l m with h | ⟨k, hk, h⟩
  · rw [h]; rfl
  · rw [h, if_neg (by omega)]
    have h1 := slideN_le least l k
    rw [show ((k : Int)).toNat = k from rfl, markAt_some l _ (by omega)]
    exact (decide_eq_true (by omega)).symm
def slineQ (least : Int) (l : List Ch) (k k0 : Nat) : Prop := slideN least l k = slideN least l k0
theorem MkAt.drew {w : World} {b : Nat} {m : Mk} (h : MkAt w b m) : MkAt w.drew b m := h.of_block (Nat.le_refl _) rfl
theorem ChAt.new (w : World) (x : Ch) : ChAt (w.alloc (.cells #[.int .u8 x.C, .int .i64 x.By, .int .i64 x.No, .int .i64 x.K, .int .i64 x.In, .int .i64 x.Out, .int .i64 x.Gone] 24)) w.heap.size 0 x := by
  refine ⟨?_, ?_, ?_, ?_, ?_, ?_, ?_⟩ <;> simp

set_option maxRecDepth 100000 in
set_option maxHeartbeats 1500000 in
theorem ClearDoes_c (a : Option Addr) (cap : Nat) (l : List Ch) (c : Ch) (m : Mk) (least place : Int) (w : World) (hs : SlCh w a cap l) (hok : (∀ c ∈ l, c.ok) ∧ (a = none → cap = 0)) (hc : c.ok) (_ : i64ok m.By ∧ i64ok m.No ∧ i64ok m.K) (_ : i64ok least) (hpl : i64ok place) :
    Calls Try.prog 3 #[.slice a l.length cap, .agg #[.int .u8 c.C, .int .i64 c.By, .int .i64 c.No, .int .i64 c.K, .int .i64 c.In, .int .i64 c.Out, .int .i64 c.Gone], .agg #[.bool m.Start, .int .i64 m.By, .int .i64 m.No, .int .i64 m.K], .int .i64 least, .int .i64 place] w fun e w' => e = .returned (.bool true) ∧ Below w.heap.size w w' := by
  have hm : l.length ≤ maxLen := Nat.le_trans hs.1 hs.2.1
  unfold maxLen at hm
  have HN := Lib.hid hok.2; clear hok
  have hb0 := ((Below.refl w.heap.size w).alloc (Nat.le_refl _) (.cells #[.int .u8 c.C, .int .i64 c.By, .int .i64 c.No, .int .i64 c.K, .int .i64 c.In, .int .i64 c.Out, .int .i64 c.Gone] 24)).alloc (by simp) (.cells #[.bool m.Start, .int .i64 m.By, .int .i64 m.No, .int .i64 m.K] 26)
  have hs0 := hs.below hb0
  have hm0 : MkAt ((w.alloc (.cells #[.int .u8 c.C, .int .i64 c.By, .int .i64 c.No, .int .i64 c.K, .int .i64 c.In, .int .i64 c.Out, .int .i64 c.Gone] 24)).alloc (.cells #[.bool m.Start, .int .i64 m.By, .int .i64 m.No, .int .i64 m.K] 26)) (w.heap.size + 1) m := by
    have := MkAt.new (w.alloc (.cells #[.int .u8 c.C, .int .i64 c.By, .int .i64 c.No, .int .i64 c.K, .int .i64 c.In, .int .i64 c.Out, .int .i64 c.Gone] 24)) m
    simpa using this
  have hc0 : ChAt ((w.alloc (.cells #[.int .u8 c.C, .int .i64 c.By, .int .i64 c.No, .int .i64 c.K, .int .i64 c.In, .int .i64 c.Out, .int .i64 c.Gone] 24)).alloc (.cells #[.bool m.Start, .int .i64 m.By, .int .i64 m.No, .int .i64 m.K] 26)) w.heap.size 0 c := by
    refine ⟨?_, ?_, ?_, ?_, ?_, ?_, ?_⟩ <;> simp
  clear hs
  go_enter Try.func3, Try.ntmps3
  go_upto_region 1 with fail
  generalize hw0 : (w.alloc (.cells #[.int .u8 c.C, .int .i64 c.By, .int .i64 c.No, .int .i64 c.K, .int .i64 c.In, .int .i64 c.Out, .int .i64 c.Gone] 24)).alloc (.cells #[.bool m.Start, .int .i64 m.By, .int .i64 m.No, .int .i64 m.K] 26) = w0 at *
  clear hw0
  have HM0 := Lib.hid hm0; clear hm0
  have HC0 := Lib.hid hc0; clear hc0
  have hlt0 := HM0.out.lt
  go_wp2_with fail
  refine (clearBegun_c _).mono ?_
  rintro e w1 ⟨rfl, hb1⟩
  have hs1 := hs0.below hb1
  have HM1 := Lib.hid (HM0.out.later hb1); clear HM0
  have HC1 := Lib.hid (HC0.out.below hb1 (by omega)); clear HC0
  have hx1 := hb0.trans (hb1.mono hb0.size)
  clear hs0 hb1 hb0 hlt0
  by_cases hbig : 300 < l.length
  · go_wp2
    go_ret
    exact ⟨rfl, hx1⟩
  have hsm : l.length ≤ 300 := by omega
  have hd1 : decide (300 < (l.length : Int)) = false := by simp; omega
  clear hbig
  go_wp2_with fail
  refine (apart_c a cap l _ hs1).mono ?_
  rintro e w2 ⟨r, rfl, hb2, hr⟩
  have hs2 := hs1.below hb2
  have HM2 := Lib.hid (HM1.out.later hb2)
  have HC2 := Lib.hid (HC1.out.below hb2 (by have := HM1.out.lt; omega))
  have hx2 := hx1.trans (hb2.mono hx1.size)
  clear hs1 hb2 hx1 HM1 HC1
  cases r
  · clear hr
    go_wp2
    go_ret
    exact ⟨rfl, hx2⟩
  clear hr
  go_wp2_with fail
  refine (Own_c a cap l _ hs2 (by omega)).mono ?_
  rintro e w3 ⟨ao, capo, rfl, ho3, hb3⟩
  have hs3 := hs2.below hb3
  have HO3 := Lib.hid ho3.slCh
  have HNO := Lib.hid ho3.nilcap'
  have HM3 := Lib.hid (HM2.out.later hb3)
  have HC3 := Lib.hid (HC2.out.below hb3 (by have := HM2.out.lt; omega))
  have hx3 := hx2.trans (hb3.mono hx2.size)
  clear hs2 hb3 hx2 HM2 HC2 ho3
  obtain ⟨q0, q1, q2, q3, q4, q5, q6⟩ := HC3.out
  have HS1 := Lib.hid (show SlCh (w3.alloc (.cells #[.int .u8 c.C, .int .i64 c.By, .int .i64 c.No, .int .i64 c.K, .int .i64 c.In, .int .i64 c.Out, .int .i64 c.Gone] 24)) (some ⟨w3.heap.size, 0, none⟩) 1 [c] from by
    refine ⟨by simp, by simp [maxLen], fun i hi => ⟨w3.heap.size, 0, rfl, ?_⟩⟩
    obtain rfl : i = 0 := by simpa using hi
    refine ⟨?_, ?_, ?_, ?_, ?_, ?_, ?_⟩ <;> simp)
  go_wp2_with fail
  refine (ClearOf_c _ 1 [c] least _ HS1.out (by simp)).mono ?_
  rintro e w4 ⟨a4, cap4, rfl, _, hb4⟩
  obtain ⟨n1, hn1, hB1⟩ : ∃ n1 : Nat, (clearOf least [c]).length = n1 ∧ ((n1 : Int) == 0) = doneB least c := ⟨_, rfl, by
    rw [clearOf_one]; cases doneB least c <;> rfl⟩
  rw [hn1]
  clear hn1 HS1
  have hb34 : Below w3.heap.size w3 w4 := ((Below.refl w3.heap.size w3).alloc (Nat.le_refl _) _).trans (hb4.mono (by simp))
  have hs4 := hs3.below hb34
  have HO4 := Lib.hid (HO3.out.below hb34)
  have HM4 := Lib.hid (HM3.out.later hb34)
  have HC4 := Lib.hid (HC3.out.below hb34 (by have := HM3.out.lt; omega))
  have hx4 := hx3.trans (hb34.mono hx3.size)
  clear hs3 hb34 hb4 hx3 HM3 HC3 HO3 q0 q1 q2 q3 q4 q5 q6
  have HMZ := Lib.hid (MkAt.new w4 Mk.zero)
  have HFZ := Lib.hid (show ∀ j, j < 4 → (w4.alloc (.cells #[.bool Mk.zero.Start, .int .i64 Mk.zero.By, .int .i64 Mk.zero.No, .int .i64 Mk.zero.K] 26)).frozen? ⟨w4.heap.size, j, none⟩ = false from fun j _ => by simp)
  have HBZ := Lib.hid ((Below.refl w4.heap.size w4).alloc (Nat.le_refl _) (.cells #[.bool Mk.zero.Start, .int .i64 Mk.zero.By, .int .i64 Mk.zero.No, .int .i64 Mk.zero.K] 26))
  have hz4 : w.heap.size + 1 < w4.heap.size := HM4.out.lt
  go_upto_region 8 with fail
  generalize hw5 : w4.alloc _ = w5
  have hw5' : w5 = w4.alloc (.cells #[.bool Mk.zero.Start, .int .i64 Mk.zero.By, .int .i64 Mk.zero.No, .int .i64 Mk.zero.K] 26) := by rw [← hw5]; rfl
  rw [← hw5'] at HMZ HBZ HFZ
  clear hw5 hw5'
  obtain ⟨B, hBe⟩ : ∃ B, B = w4.heap.size := ⟨_, rfl⟩
  rw [← hBe] at HMZ HFZ ⊢
  have HBe := Lib.hid hBe; clear hBe
  obtain ⟨HA, hHA⟩ : ∃ HA, HA = (markAt l place).isSome := ⟨_, rfl⟩
  have HHA := Lib.hid hHA; clear hHA
  go_cut [14] (fun s14 wx => s14 = .bool HA ∧ wx = w5)
  case first =>
    by_cases h0 : place < 0
    · have h0B : decide (0 ≤ place) = false := by simp; omega
      have HE := Lib.hid (show HA = false by rw [HHA.out]; unfold markAt; rw [if_pos (.inl h0)]; rfl)
      go_wp2
      go_meet
      exact ⟨by rw [HE.out], rfl⟩
    · have h0B : decide (0 ≤ place) = true := by simp; omega
      by_cases h1 : (l.length : Int) < place
      · have h1B : decide (place ≤ (l.length : Int)) = false := by simp; omega
        have HE := Lib.hid (show HA = false by rw [HHA.out]; unfold markAt; rw [if_pos (.inr h1)]; rfl)
        go_wp2
        go_meet
        exact ⟨by rw [HE.out], rfl⟩
      · have h1B : decide (place ≤ (l.length : Int)) = true := by simp; omega
        have HE := Lib.hid (show HA = true by rw [HHA.out]; unfold markAt; rw [if_neg (by omega)]; split; rfl; rw [List.getElem?_eq_getElem (by omega)]; rfl)
        go_wp2
        go_meet
        exact ⟨by rw [HE.out], rfl⟩
  case rest =>
    obtain ⟨rfl, hwe⟩ := hcut
    rw [hwe]
    clear hwe wc
    obtain ⟨W, hW⟩ : ∃ W, W = (markAt l place).getD Mk.zero := ⟨_, rfl⟩
    have HW := Lib.hid hW; clear hW
    go_upto_if 51 with (fail)
    go_cut [] (fun wx => MkAt wx B W ∧ Below B w5 wx)
    case first =>
      have hzf := fun j (hj : j < 4) => show w5.frozen? ⟨B, j, none⟩ = false from HFZ.out j hj
      have hf0 := hzf 0 (by omega)
      have hf1 := hzf 1 (by omega)
      have hf2 := hzf 2 (by omega)
      have hf3 := hzf 3 (by omega)
      obtain ⟨zlt, z0, z1, z2, z3⟩ := HMZ.out
      cases HA
      · have HE := Lib.hid (show W = Mk.zero by rw [HW.out]; have := HHA.out; cases h : markAt l place; rfl; rw [h] at this; cases this)
        go_wp2
        go_meet
        exact ⟨by rw [HE.out]; exact HMZ.out, Below.refl _ _⟩
      · have hpo : 0 ≤ place ∧ place ≤ (l.length : Int) := by
          have := HHA.out
          unfold markAt at this
          by_cases h : place < 0 ∨ (l.length : Int) < place
          · rw [if_pos h] at this; cases this
          · omega
        by_cases h0 : place = 0
        · subst h0
          have HE := Lib.hid (show W = ⟨true, 0, 0, 0⟩ by rw [HW.out]; unfold markAt; rw [if_neg (by omega)]; rfl)
          have HF := Lib.hid (HMZ.out.set0 true)
          clear hpo
          go_wp2
          go_meet
          exact ⟨by rw [HE.out]; exact HF.out, (Below.refl B w5).setCell (p := ⟨B, 0, none⟩) (Nat.le_refl _) _⟩
        · obtain ⟨k, rfl⟩ : ∃ k : Nat, place = (k : Int) + 1 := ⟨(place - 1).toNat, by omega⟩
          have hk : k < l.length := by omega
          have hk' : (k : Int) < l.length := by omega
          have hk0 : (0 : Int) ≤ (k : Int) := by omega
          have hw1 : IntKind.i64.wrap ((k : Int) + 1 - 1) = (k : Int) := by rw [IntKind.wrap_i64]; omega
          have hz1 : ((k : Int) + 1 == 0) = false := by simp; omega
          have hz2 : decide (0 < (k : Int) + 1) = true := decide_eq_true (by omega)
          have HE := Lib.hid (show W = ⟨false, l[k].By, l[k].No, l[k].K⟩ by rw [HW.out]; unfold markAt; rw [if_neg (by omega), if_neg h0, show ((k : Int) + 1 - 1).toNat = k by omega, List.getElem?_eq_getElem hk]; rfl)
          obtain ⟨bb, off, rfl, hcc⟩ := hs4.nth hk
          have hbn : bb < B := by rw [HBe.out]; exact hcc.lt
          obtain ⟨q0, q1, q2, q3, q4, q5, q6⟩ := hcc.below (HBZ.out) (by have := hcc.lt; omega)
          generalize l[k] = x at *
          clear hpo h0 hcc
          go_upto_region 13 with fail
          obtain ⟨w6, hw6⟩ : ∃ w6, w6 = (w5.setCell ⟨B, 0, none⟩ (.bool false)).alloc (.cells #[.int .u8 x.C, .int .i64 x.By, .int .i64 x.No, .int .i64 x.K, .int .i64 x.In, .int .i64 x.Out, .int .i64 x.Gone] 24) := ⟨_, rfl⟩
          have hB5 : B < w5.heap.size := zlt
          have hy : w6.heap.size = w5.heap.size + 1 := by rw [hw6]; simp
          have hC6 : ChAt w6 w5.heap.size 0 x := by
            have e : (w5.setCell ⟨B, 0, none⟩ (.bool false)).heap.size = w5.heap.size := by simp
            have := ChAt.new (w5.setCell ⟨B, 0, none⟩ (.bool false)) x
            rw [e] at this
            rw [hw6]; exact this
          have hba : Below (w5.setCell ⟨B, 0, none⟩ (.bool false)).heap.size (w5.setCell ⟨B, 0, none⟩ (.bool false)) w6 := by rw [hw6]; exact (Below.refl _ _).alloc (Nat.le_refl _) _
          have hM6 : MkAt w6 B { Mk.zero with Start := false } := (HMZ.out.set0 false).of_block (by rw [hw6]; simp) (by rw [hw6]; exact Below.heap_alloc _ _ _ (by simpa using hB5))
          have hb6 : Below B w5 w6 := by rw [hw6]; exact ((Below.refl B w5).setCell (p := ⟨B, 0, none⟩) (Nat.le_refl _) _).alloc (by simp; omega) _
          have f1 : w6.frozen? ⟨B, 1, none⟩ = false := (hba.frozen (p := ⟨B, 1, none⟩) (by simpa using hB5)).trans (by rw [World.frozen?_setCell]; exact hf1)
          have f2 : w6.frozen? ⟨B, 2, none⟩ = false := (hba.frozen (p := ⟨B, 2, none⟩) (by simpa using hB5)).trans (by rw [World.frozen?_setCell]; exact hf2)
          have f3 : w6.frozen? ⟨B, 3, none⟩ = false := (hba.frozen (p := ⟨B, 3, none⟩) (by simpa using hB5)).trans (by rw [World.frozen?_setCell]; exact hf3)
          rw [← hw6]
          clear hw6 hba hf0 hf1 hf2 hf3 q0 q1 q2 q3 q4 q5 q6 z0 z1 z2 z3
          obtain ⟨m0, m1, m2, m3, m4⟩ := hM6
          have HM6 := Lib.hid (MkAt.set3 (MkAt.set2 (MkAt.set1 (MkAt.mk m0 m1 m2 m3 m4) x.By) x.No) x.K)
          have HX6 := Lib.hid (((hb6.setCell (p := ⟨B, 1, none⟩) (Nat.le_refl _) (.int .i64 x.By)).setCell (p := ⟨B, 2, none⟩) (Nat.le_refl _) (.int .i64 x.No)).setCell (p := ⟨B, 3, none⟩) (Nat.le_refl _) (.int .i64 x.K))
          obtain ⟨q0, q1, q2, q3, q4, q5, q6⟩ := hC6
          clear hb6
          go_region
          go_wp2
          go_meet
          exact ⟨by rw [HE.out]; exact HM6.out.drew, HX6.out.trans ⟨rfl, rfl, rfl, Nat.le_refl _, fun _ _ => rfl⟩⟩
    case rest =>
      obtain ⟨hMW, hbw⟩ := hcut
      have HMW := Lib.hid hMW
      obtain ⟨w6, hw6⟩ : ∃ w6, w6 = wc := ⟨_, rfl⟩
      rw [← hw6] at HMW hbw ⊢
      clear hw6 hMW wc
      have hb46 : Below w4.heap.size w4 w6 := HBZ.out.trans (by rw [← HBe.out]; exact hbw)
      have hs6 := hs4.below hb46
      have HO6 := Lib.hid (HO4.out.below hb46)
      have HM6 := Lib.hid (HM4.out.later hb46)
      have HC6 := Lib.hid (HC4.out.below hb46 (by have := HM4.out.lt; omega))
      have hx6 := hx4.trans (hb46.mono hx4.size)
      clear hs4 HO4 HM4 HC4 hx4 hb46 hbw HMZ HBZ HFZ
      go_wp2_with fail
      refine (At_c ao capo l place _ HO6.out).mono ?_
      rintro e w7 ⟨rfl, hb7⟩
      rw [← HW.out, ← HHA.out]
      have hs7 := hs6.below hb7
      have HO7 := Lib.hid (HO6.out.below hb7)
      have HM7 := Lib.hid (HM6.out.later hb7)
      have HC7 := Lib.hid (HC6.out.below hb7 (by have := HM6.out.lt; omega))
      have HW7 := Lib.hid (HMW.out.later hb7)
      have hx7 := hx6.trans (hb7.mono hx6.size)
      clear hs6 HO6 HM6 HC6 HMW hx6 hb7
      have hb8 := (Below.refl w7.heap.size w7).alloc (Nat.le_refl _) (.cells #[.bool W.Start, .int .i64 W.By, .int .i64 W.No, .int .i64 W.K] 26)
      have HG8 := Lib.hid (MkAt.new w7 W)
      go_upto_region 15 with fail
      generalize w7.alloc _ = w8 at *
      obtain ⟨G, hGe⟩ : ∃ G, G = w7.heap.size := ⟨_, rfl⟩
      rw [← hGe] at HG8 ⊢
      clear hGe
      have hs8 := hs7.below hb8
      have HO8 := Lib.hid (HO7.out.below hb8)
      have HM8 := Lib.hid (HM7.out.later hb8)
      have HC8 := Lib.hid (HC7.out.below hb8 (by have := HM7.out.lt; omega))
      have HW8 := Lib.hid (HW7.out.later hb8)
      have hx8 := hx7.trans (hb8.mono hx7.size)
      clear hs7 HO7 HM7 HC7 HW7 hx7 hb8
      obtain ⟨m0, m1, m2, m3, m4⟩ := HM8.out
      go_wp2_with fail
      refine (FindIn_c a cap l ⟨0, m.By, m.No, m.K, 0, 0, 0⟩ _ hs8).mono ?_
      rintro e w9 ⟨rfl, hb9⟩
      have HPF := Lib.hid (place_find l m)
      have hfl := find_le l ⟨0, m.By, m.No, m.K, 0, 0, 0⟩
      generalize find l ⟨0, m.By, m.No, m.K, 0, 0, 0⟩ = f at *
      have hs9 := hs8.below hb9
      have HO9 := Lib.hid (HO8.out.below hb9)
      have HM9 := Lib.hid (HM8.out.later hb9)
      have HC9 := Lib.hid (HC8.out.below hb9 (by have := HM8.out.lt; omega))
      have HW9 := Lib.hid (HW8.out.later hb9)
      have HG9 := Lib.hid (HG8.out.later hb9)
      have hx9 := hx8.trans (hb9.mono hx8.size)
      clear hs8 HO8 HM8 HC8 HW8 HG8 hx8 hb9 m0 m1 m2 m3 m4
      obtain ⟨m0, m1, m2, m3, m4⟩ := HM9.out
      go_upto_if 87 with (fail)
      obtain ⟨f1, hf1⟩ : ∃ f1, f1 = if f < 0 then (-1 : Int) else f + 1 := ⟨_, rfl⟩
      have HF1 := Lib.hid hf1; clear hf1
      go_cut [18] (fun s18 wx => s18 = (.int .i64 f1) ∧ wx = w9)
      case first =>
        rcases hfl with hf | ⟨k, hk, hf⟩
        · have HE := Lib.hid (show f1 = -1 by rw [HF1.out, if_pos (by omega)])
          subst hf
          go_wp2
          go_meet
          exact ⟨by rw [HE.out], rfl⟩
        · have HE := Lib.hid (show f1 = (k : Int) + 1 by rw [HF1.out, if_neg (by omega), hf])
          subst hf
          have h1B : decide (0 ≤ (k : Int)) = true := decide_eq_true (by omega)
          have hinc : IntKind.i64.wrap ((k : Int) + 1) = (k : Int) + 1 := by rw [IntKind.wrap_i64]; omega
          go_wp2
          go_meet
          exact ⟨by rw [HE.out], rfl⟩
      case rest =>
        obtain ⟨rfl, hwe⟩ := hcut
        rw [hwe]
        clear hwe wc
        have hpl := placeOf_le l m
        have HP2 := Lib.hid (show placeOf l m = if m.Start then 0 else f1 by rw [HPF.out, HF1.out])
        clear HPF HF1 hfl
        obtain ⟨ms, hms⟩ : ∃ ms, ms = m.Start := ⟨_, rfl⟩
        rw [← hms] at m1 HP2
        have HMS := Lib.hid hms; clear hms
        go_upto_if 91 with (fail)
        obtain ⟨P, hP⟩ : ∃ P, P = placeOf l m := ⟨_, rfl⟩
        rw [← hP] at hpl HP2
        have HPE := Lib.hid hP; clear hP
        go_cut [18] (fun s18 wx => s18 = (.int .i64 P) ∧ wx = w9)
        case first =>
          have e1 := HP2.out
          cases ms
          · have HE := Lib.hid (show P = f1 by rw [e1]; rfl)
            clear e1
            go_wp2
            go_meet
            exact ⟨by rw [HE.out], rfl⟩
          · have HE := Lib.hid (show P = 0 by rw [e1]; rfl)
            clear e1
            go_wp2
            go_meet
            exact ⟨by rw [HE.out], rfl⟩
        case rest =>
          obtain ⟨rfl, hwe⟩ := hcut
          rw [hwe]
          clear hwe wc HP2 m1
          have m1 := HM9.out.c0
          go_wp2_with fail
          refine (Slide_c ao capo l m least _ HO9.out).mono ?_
          rintro e w10 ⟨rfl, hb10⟩
          obtain ⟨S, hS⟩ : ∃ S, S = (markAt l (slideAt least l m)).getD Mk.zero := ⟨_, rfl⟩
          obtain ⟨IS, hIS⟩ : ∃ IS, IS = (markAt l (slideAt least l m)).isSome := ⟨_, rfl⟩
          rw [← hS, ← hIS]
          have HS := Lib.hid hS; have HIS := Lib.hid hIS
          clear hS hIS
          have hs10 := hs9.below hb10
          have HO10 := Lib.hid (HO9.out.below hb10)
          have HM10 := Lib.hid (HM9.out.later hb10)
          have HC10 := Lib.hid (HC9.out.below hb10 (by have := HM9.out.lt; omega))
          have HW10 := Lib.hid (HW9.out.later hb10)
          have HG10 := Lib.hid (HG9.out.later hb10)
          have hx10 := hx9.trans (hb10.mono hx9.size)
          clear hs9 HO9 HM9 HC9 HW9 HG9 hx9 hb10 m0 m1 m2 m3 m4
          have hb11 := (Below.refl w10.heap.size w10).alloc (Nat.le_refl _) (.cells #[.bool S.Start, .int .i64 S.By, .int .i64 S.No, .int .i64 S.K] 26)
          have HS11 := Lib.hid (MkAt.new w10 S)
          go_upto_region 21 with fail
          generalize w10.alloc _ = w11 at *
          obtain ⟨E, hEe⟩ : ∃ E, E = w10.heap.size := ⟨_, rfl⟩
          rw [← hEe] at HS11 ⊢
          clear hEe
          have hs11 := hs10.below hb11
          have HO11 := Lib.hid (HO10.out.below hb11)
          have HM11 := Lib.hid (HM10.out.later hb11)
          have HC11 := Lib.hid (HC10.out.below hb11 (by have := HM10.out.lt; omega))
          have HW11 := Lib.hid (HW10.out.later hb11)
          have HG11 := Lib.hid (HG10.out.later hb11)
          have hx11 := hx10.trans (hb11.mono hx10.size)
          clear hs10 HO10 HM10 HC10 HW10 HG10 hx10 hb11
          obtain ⟨J1, hJ1⟩ : ∃ J1, J1 = slideAt least l m := ⟨_, rfl⟩
          have HJ1 := Lib.hid (show (P = -1 → J1 = -1) ∧ ∀ k0 : Nat, P = k0 → J1 = (slideN least l k0 : Int) by
            rw [hJ1]; unfold slideAt; rw [← HPE.out]
            refine ⟨fun h => by rw [h]; rfl, fun k0 h => by rw [h, if_neg (by omega)]; rfl⟩)
          have HJE := Lib.hid hJ1; clear hJ1
          have hlc := hs11.1
          go_upto_block 0 with (fail)
          go_cut [21] (fun s21 wx => s21 = (.int .i64 J1) ∧ Below w11.heap.size w11 wx)
          case first =>
            go_wp2_with (fail)
            go_loopw [21] (fun s21 wr => ∃ J : Int, s21 = (.int .i64 J) ∧ (P = -1 ∧ J = -1 ∨ ∃ k0 k : Nat, k0 ≤ l.length ∧ P = k0 ∧ k ≤ k0 ∧ J = k ∧ slineQ least l k k0) ∧ Below w11.heap.size w11 wr) (fun s21 _ => (intOf s21).toNat)
            case atStart =>
              refine ⟨P, rfl, ?_, Below.refl _ _⟩
              rcases hpl with h | ⟨k, hk, h⟩
              · exact .inl ⟨h, h⟩
              · exact .inr ⟨k, k, hk, h, Nat.le_refl _, h, rfl⟩
            case round =>
              obtain ⟨J, rfl, hJ, hb⟩ := hrel
              rcases hJ with ⟨hP1, rfl⟩ | ⟨k0, k, hk0, hP0, hkk, rfl, hQ⟩
              · have HE := Lib.hid (HJ1.out.1 hP1)
                clear hP1
                go_wp2
                go_meet
                exact ⟨by rw [HE.out], hb⟩
              · have HE := Lib.hid (HJ1.out.2 k0 hP0)
                have HP0 := Lib.hid hP0
                have HQ := Lib.hid hQ
                clear hP0 hQ
                cases k with
                | zero =>
                  have HE2 := Lib.hid (show J1 = 0 by rw [HE.out, ← HQ.out]; rfl)
                  have h0B : decide ((0 : Int) < ((0 : Nat) : Int)) = false := by simp
                  go_wp2
                  go_meet
                  exact ⟨by rw [HE2.out]; rfl, hb⟩
                | succ j =>
                  have hjl : j < l.length := by omega
                  have h0B : decide ((0 : Int) < ((j + 1 : Nat) : Int)) = true := decide_eq_true (by omega)
                  obtain ⟨bb, off, rfl, hcc⟩ := hs11.nth hjl
                  have hcb := hcc.below hb hcc.lt
                  have hcx : cap ≤ maxLen := hs11.2.1
                  have HSL := Lib.hid (show SlCh wr (some ⟨bb, off + j * 7, none⟩) (cap - j) [l[j]] from by
                    refine ⟨by simp; omega, by omega, fun i hi => ⟨bb, off + j * 7, rfl, ?_⟩⟩
                    obtain rfl : i = 0 := by simpa using hi
                    simpa using hcb)
                  have HSN := Lib.hid (show slideN least l (j + 1) = if doneB least l[j] then slideN least l j else j + 1 by
                    rw [slideN, List.getElem?_eq_getElem hjl])
                  have HLN := Lib.hid (clearOf_one least l[j])
                  have hw1 : IntKind.i64.wrap (((j + 1 : Nat) : Int) - 1) = (j : Int) := by rw [IntKind.wrap_i64]; omega
                  have hj1 : ((j + 1 : Nat) : Int) ≤ (cap : Int) := by omega
                  have hj2 : (j : Int) ≤ ((j + 1 : Nat) : Int) := by omega
                  have hck2 : (cap = j) = False := by simp; omega
                  generalize l[j] = x at *
                  clear hcb hcc
                  go_wp2_with (fail)
                  refine (ClearOf_c _ (cap - j) [x] least _ HSL.out (by simp)).mono ?_
                  rintro e wq ⟨aq, capq, rfl, _, hbq⟩
                  have hbn : Below w11.heap.size w11 wq := hb.trans (hbq.mono hb.size)
                  clear hb hbq HSL
                  have e1 := HLN.out
                  cases hdn : doneB least x
                  · have HE2 := Lib.hid (show J1 = ((j + 1 : Nat) : Int) by rw [HE.out, ← HQ.out, HSN.out, hdn]; rfl)
                    have hn1 : (clearOf least [x]).length = 1 := by rw [e1, hdn]; rfl
                    clear e1 hdn HLN HSN
                    rw [hn1]
                    clear hn1
                    go_wp2
                    go_meet
                    exact ⟨by rw [HE2.out]; go_num, hbn⟩
                  · have HQ2 := Lib.hid (show slineQ least l j k0 by unfold slineQ; rw [← HQ.out, HSN.out, hdn]; rfl)
                    have hn1 : (clearOf least [x]).length = 0 := by rw [e1, hdn]; rfl
                    clear e1 hdn HLN HSN
                    rw [hn1]
                    clear hn1
                    go_wp2
                    exact ⟨⟨(j : Int), by go_num, .inr ⟨k0, j, hk0, HP0.out, by omega, rfl, HQ2.out⟩, hbn⟩, by simp [intOf]⟩
          case rest =>
            obtain ⟨rfl, hbc⟩ := hcut
            obtain ⟨w12, hw12⟩ : ∃ w12, w12 = wc := ⟨_, rfl⟩
            rw [← hw12] at hbc ⊢
            clear hw12 wc
            have hs12 := hs11.below hbc
            have HO12 := Lib.hid (HO11.out.below hbc)
            have HM12 := Lib.hid (HM11.out.later hbc)
            have HC12 := Lib.hid (HC11.out.below hbc (by have := HM11.out.lt; omega))
            have HW12 := Lib.hid (HW11.out.later hbc)
            have HG12 := Lib.hid (HG11.out.later hbc)
            have HS12 := Lib.hid (HS11.out.later hbc)
            have hx12 := hx11.trans (hbc.mono hx11.size)
            clear hs11 HO11 HM11 HC11 HW11 HG11 HS11 hx11 hbc HJ1
            go_wp2_with fail
            refine (At_c ao capo l J1 _ HO12.out).mono ?_
            rintro e w13 ⟨rfl, hb13⟩
            have hSJ : (markAt l J1).getD Mk.zero = S := by rw [HS.out, HJE.out]
            rw [hSJ]
            clear hSJ
            generalize (markAt l J1).isSome = bj
            have hs13 := hs12.below hb13
            have HO13 := Lib.hid (HO12.out.below hb13)
            have HM13 := Lib.hid (HM12.out.later hb13)
            have HC13 := Lib.hid (HC12.out.below hb13 (by have := HM12.out.lt; omega))
            have HW13 := Lib.hid (HW12.out.later hb13)
            have HG13 := Lib.hid (HG12.out.later hb13)
            have HS13 := Lib.hid (HS12.out.later hb13)
            have hx13 := hx12.trans (hb13.mono hx12.size)
            clear hs12 HO12 HM12 HC12 HW12 HG12 HS12 hx12 hb13
            have hb14 := (Below.refl w13.heap.size w13).alloc (Nat.le_refl _) (.cells #[.bool S.Start, .int .i64 S.By, .int .i64 S.No, .int .i64 S.K] 26)
            have HD14 := Lib.hid (MkAt.new w13 S)
            go_upto_region 25 with fail
            generalize w13.alloc _ = w14 at *
            obtain ⟨D, hDe⟩ : ∃ D, D = w13.heap.size := ⟨_, rfl⟩
            rw [← hDe] at HD14 ⊢
            clear hDe
            have hs14 := hs13.below hb14
            have HO14 := Lib.hid (HO13.out.below hb14)
            have HC14 := Lib.hid (HC13.out.below hb14 (by have := HM13.out.lt; omega))
            have HM14 := Lib.hid (HM13.out.later hb14)
            have HW14 := Lib.hid (HW13.out.later hb14)
            have HG14 := Lib.hid (HG13.out.later hb14)
            have HS14 := Lib.hid (HS13.out.later hb14)
            have hx14 := hx13.trans (hb14.mono hx13.size)
            clear hs13 hx13 hb14 HO13 HC13 HM13 HW13 HG13 HS13
            have hIS : decide (0 ≤ P) = IS := by rw [HIS.out, HPE.out]; exact (slide_some least l m).symm
            have HISB := Lib.hid hIS; clear hIS
            obtain ⟨q0, q1, q2, q3, q4, q5, q6⟩ := HC14.out
            go_wp2_with fail
            refine (Done_c c least _).mono ?_
            rintro e w15 ⟨rfl, hb15⟩
            clear q0 q1 q2 q3 q4 q5 q6 HC14
            have hs15 := hs14.below hb15
            have HO15 := Lib.hid (HO14.out.below hb15)
            have HM15 := Lib.hid (HM14.out.later hb15)
            have HW15 := Lib.hid (HW14.out.later hb15)
            have HG15 := Lib.hid (HG14.out.later hb15)
            have HS15 := Lib.hid (HS14.out.later hb15)
            have HD15 := Lib.hid (HD14.out.later hb15)
            have hx15 := hx14.trans (hb15.mono hx14.size)
            clear hs14 hx14 hb15 HO14 HM14 HW14 HG14 HS14 HD14
            go_wp2_with fail
            refine (Of_c ao capo l least _ HO15.out (by omega) HNO.out).mono ?_
            rintro e w16 ⟨a16, cap16, rfl, ho16, hb16⟩
            have HP16 := Lib.hid ho16.slCh
            clear ho16
            have hs16 := hs15.below hb16
            have HO16 := Lib.hid (HO15.out.below hb16)
            have HM16 := Lib.hid (HM15.out.later hb16)
            have HW16 := Lib.hid (HW15.out.later hb16)
            have HG16 := Lib.hid (HG15.out.later hb16)
            have HS16 := Lib.hid (HS15.out.later hb16)
            have HD16 := Lib.hid (HD15.out.later hb16)
            have hx16 := hx15.trans (hb16.mono hx15.size)
            clear hs15 hx15 hb16 HO15 HM15 HW15 HG15 HS15 HD15
            go_wp2_with fail
            refine (ClearOf_c a cap l least _ hs16 (by omega)).mono ?_
            rintro e w17 ⟨a17, cap17, rfl, ho17, hb17⟩
            have HQ17 := Lib.hid ho17.slCh
            have HP17 := Lib.hid (HP16.out.below hb17)
            clear ho17 HP16
            have hs17 := hs16.below hb17
            have HO17 := Lib.hid (HO16.out.below hb17)
            have HM17 := Lib.hid (HM16.out.later hb17)
            have HW17 := Lib.hid (HW16.out.later hb17)
            have HG17 := Lib.hid (HG16.out.later hb17)
            have HS17 := Lib.hid (HS16.out.later hb17)
            have HD17 := Lib.hid (HD16.out.later hb17)
            have hx17 := hx16.trans (hb17.mono hx16.size)
            clear hs16 hx16 hb17 HO16 HM16 HW16 HG16 HS16 HD16
            go_wp2_with fail
            refine (SameChars_c _ _ _ _ (clearOf least l) (clearOf least l) _ HP17.out HQ17.out).mono ?_
            rintro e w18 ⟨rfl, hb18⟩
            rw [decide_eq_true rfl]
            clear HP17 HQ17
            have hs18 := hs17.below hb18
            have HO18 := Lib.hid (HO17.out.below hb18)
            have HM18 := Lib.hid (HM17.out.later hb18)
            have HW18 := Lib.hid (HW17.out.later hb18)
            have HG18 := Lib.hid (HG17.out.later hb18)
            have HS18 := Lib.hid (HS17.out.later hb18)
            have HD18 := Lib.hid (HD17.out.later hb18)
            have hx18 := hx17.trans (hb18.mono hx17.size)
            clear hs17 hx17 hb18 HO17 HM17 HW17 HG17 HS17 HD17
            go_wp2_with fail
            refine (SameChars_c _ _ _ _ l l _ HO18.out hs18).mono ?_
            rintro e w19 ⟨rfl, hb19⟩
            rw [decide_eq_true rfl]
            have hs19 := hs18.below hb19
            have HO19 := Lib.hid (HO18.out.below hb19)
            have HM19 := Lib.hid (HM18.out.later hb19)
            have HW19 := Lib.hid (HW18.out.later hb19)
            have HG19 := Lib.hid (HG18.out.later hb19)
            have HS19 := Lib.hid (HS18.out.later hb19)
            have HD19 := Lib.hid (HD18.out.later hb19)
            have hx19 := hx18.trans (hb19.mono hx18.size)
            clear hs18 hx18 hb19 HO18 HM18 HW18 HG18 HS18 HD18
            have hgm := guard_Mark
            have heW := eql_Mark W
            have heS := eql_Mark S
            obtain ⟨_, m0, m1, m2, m3⟩ := HM19.out
            obtain ⟨_, k0, k1, k2, k3⟩ := HG19.out
            obtain ⟨_, v0, v1, v2, v3⟩ := HW19.out
            go_wp2_with fail
            refine (Place_c ao capo l m _ HO19.out).mono ?_
            rintro e w20 ⟨rfl, hb20⟩
            rw [← HPE.out]
            clear m0 m1 m2 m3 k0 k1 k2 k3 v0 v1 v2 v3
            have hs20 := hs19.below hb20
            have HO20 := Lib.hid (HO19.out.below hb20)
            have HM20 := Lib.hid (HM19.out.later hb20)
            have HW20 := Lib.hid (HW19.out.later hb20)
            have HG20 := Lib.hid (HG19.out.later hb20)
            have HS20 := Lib.hid (HS19.out.later hb20)
            have HD20 := Lib.hid (HD19.out.later hb20)
            have hx20 := hx19.trans (hb20.mono hx19.size)
            clear hs19 hx19 hb20 HO19 HM19 HW19 HG19 HS19 HD19
            obtain ⟨_, k0, k1, k2, k3⟩ := HS20.out
            obtain ⟨_, v0, v1, v2, v3⟩ := HD20.out
            have hIS := HISB.out
            go_wp2
            go_ret
            exact ⟨rfl, hx20⟩
end Go.Proofs.Ytneoeokfffnonaa
