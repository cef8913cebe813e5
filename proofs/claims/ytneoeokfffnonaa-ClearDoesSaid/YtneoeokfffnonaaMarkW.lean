/- The walks of marks. -/
import Derived.Test.YtneoeokfffnonaaClearW
import Derived.Test.YtneoeokfffnonaaCmpW
import Derived.Test.YtneoeokfffnonaaMixT
namespace Go.Proofs.Ytneoeokfffnonaa
open Go.RowKit

structure Mk where
  Start : Bool
  (By No K : Int)
  deriving DecidableEq

def Mk.zero : Mk := ⟨false, 0, 0, 0⟩
def markAt (l : List Ch) (place : Int) : Option Mk :=
  if place < 0 ∨ (l.length : Int) < place then none else if place = 0 then some ⟨true, 0, 0, 0⟩ else (l[(place - 1).toNat]?).map fun c => ⟨false, c.By, c.No, c.K⟩
def Mk.is (m : Mk) (c : Ch) : Bool := !m.Start && (m.By == c.By && (m.No == c.No && m.K == c.K))
def placeOf (l : List Ch) (m : Mk) : Int := if m.Start then 0 else if idxFrom m.is l 0 < 0 then -1 else idxFrom m.is l 0 + 1

theorem At_c (a : Option Addr) (cap : Nat) (l : List Ch) (place : Int) (w : World) (hs : SlCh w a cap l) :
    Calls Try.prog 18 #[.slice a l.length cap, .int .i64 place] w fun e w' => e = .returned (.tuple #[.agg #[.bool ((markAt l place).getD Mk.zero).Start, .int .i64 ((markAt l place).getD Mk.zero).By, .int .i64 ((markAt l place).getD Mk.zero).No, .int .i64 ((markAt l place).getD Mk.zero).K], .bool (markAt l place).isSome]) ∧ Below w.heap.size w w' := by
  have hm : l.length ≤ maxLen := Nat.le_trans hs.1 hs.2.1
  unfold maxLen at hm
  have Hend := Lib.hid (fun (o : Obj) => (Below.refl w.heap.size w).alloc (Nat.le_refl _) o)
  by_cases hout : place < 0 ∨ (l.length : Int) < place
  · have Hf := Lib.hid (show markAt l place = none by unfold markAt; rw [if_pos hout])
    by_cases h0 : place < 0
    · go_enter Try.func18, Try.ntmps18
      go_wp2
      exact bodyPost_ret (v := .tuple #[.agg #[.bool false, .int .i64 0, .int .i64 0, .int .i64 0], .bool false]) (by simp [results, Try.results18, go_sem]) rfl ⟨by rw [Hf.out]; rfl, Hend.out _⟩
    · have h1 : (l.length : Int) < place := by omega
      have hd : decide (place < 0) = false := by simpa using h0
      go_enter Try.func18, Try.ntmps18
      go_wp2
      exact bodyPost_ret (v := .tuple #[.agg #[.bool false, .int .i64 0, .int .i64 0, .int .i64 0], .bool false]) (by simp [results, Try.results18, go_sem]) rfl ⟨by rw [Hf.out]; rfl, Hend.out _⟩
  · have hd : decide (place < 0) = false := by simp; omega
    have hd2 : decide ((l.length : Int) < place) = false := by simp; omega
    by_cases h0 : place = 0
    · have Hf := Lib.hid (show markAt l place = some ⟨true, 0, 0, 0⟩ by unfold markAt; rw [if_neg hout, if_pos h0])
      subst h0
      clear hout hd hd2
      go_enter Try.func18, Try.ntmps18
      go_wp2
      exact bodyPost_ret (v := .tuple #[.agg #[.bool true, .int .i64 0, .int .i64 0, .int .i64 0], .bool true]) (by simp [results, Try.results18, go_sem]) rfl ⟨by rw [Hf.out]; rfl, Hend.out _⟩
    · obtain ⟨k, rfl⟩ : ∃ k : Nat, place = (k : Int) + 1 := ⟨(place - 1).toNat, by omega⟩
      have hlt : k < l.length := by omega
      have hlt' : (k : Int) < l.length := by omega
      have Hf := Lib.hid (show markAt l ((k : Int) + 1) = some ⟨false, l[k].By, l[k].No, l[k].K⟩ by
        unfold markAt; rw [if_neg hout, if_neg h0, show ((k : Int) + 1 - 1).toNat = k by omega, List.getElem?_eq_getElem hlt]; rfl)
      have hz : ((k : Int) + 1 == 0) = false := by simp; omega
      clear hout h0
      obtain ⟨b, off, rfl, hc⟩ := hs.nth hlt
      obtain ⟨q0, q1, q2, q3, q4, q5, q6⟩ := hc.below ((Below.refl w.heap.size w).alloc (Nat.le_refl _) (.cells #[.bool false, .int .i64 0, .int .i64 0, .int .i64 0] 26)) hc.lt
      generalize l[k] = x at *
      go_enter Try.func18, Try.ntmps18
      go_wp2
      refine bodyPost_ret (v := .tuple #[.agg #[.bool false, .int .i64 x.By, .int .i64 x.No, .int .i64 x.K], .bool true]) (by simp [results, Try.results18, go_sem]) rfl ⟨by rw [Hf.out]; rfl, ?_⟩
      exact ((Below.refl _ _).alloc (Nat.le_refl _) _).alloc (by simp) _

theorem is_c (m : Mk) (c : Ch) (w : World) :
    Calls Try.prog 62 #[.agg #[.bool m.Start, .int .i64 m.By, .int .i64 m.No, .int .i64 m.K], .agg #[.int .u8 c.C, .int .i64 c.By, .int .i64 c.No, .int .i64 c.K, .int .i64 c.In, .int .i64 c.Out, .int .i64 c.Gone]] w fun e w' => e = .returned (.bool (m.is c)) ∧ Below w.heap.size w w' := by
  have Hf := Lib.hid (show m.is c = (!m.Start && (m.By == c.By && (m.No == c.No && m.K == c.K))) from rfl)
  have Hend := Lib.hid (fun (o o' : Obj) => ((Below.refl w.heap.size w).alloc (Nat.le_refl _) o).alloc (by simp) o')
  go_enter Try.func62, Try.ntmps62
  cases h0 : m.Start <;> cases h1 : m.By == c.By <;> cases h2 : m.No == c.No
  all_goals
    go_wp2
    go_ret
    exact ⟨by rw [Hf.out]; simp [h0, h1, h2], Hend.out _ _⟩

theorem idxFrom_lt (p : Ch → Bool) (l : List Ch) (i : Int) : idxFrom p l i = -1 ∨ ∃ k : Nat, k < l.length ∧ idxFrom p l i = i + k ∧ ∃ h : k < l.length, p l[k] = true := by
  rcases idx_spec p l i with ⟨h, _⟩ | ⟨k, hk, h, hp, _⟩
  · exact .inl h
  · exact .inr ⟨k, hk, h, hk, hp⟩

theorem Place_c (a : Option Addr) (cap : Nat) (l : List Ch) (m : Mk) (w : World) (hs : SlCh w a cap l) :
    Calls Try.prog 24 #[.slice a l.length cap, .agg #[.bool m.Start, .int .i64 m.By, .int .i64 m.No, .int .i64 m.K]] w fun e w' => e = .returned (.int .i64 (placeOf l m)) ∧ Below w.heap.size w w' := by
  have hm : l.length ≤ maxLen := Nat.le_trans hs.1 hs.2.1
  unfold maxLen at hm
  have hb0 := (Below.refl w.heap.size w).alloc (Nat.le_refl _) (.cells #[.bool m.Start, .int .i64 m.By, .int .i64 m.No, .int .i64 m.K] 26)
  have HB0 := Lib.hid hb0
  cases hst : m.Start
  case true =>
    have Hf := Lib.hid (show placeOf l m = 0 by unfold placeOf; rw [if_pos hst])
    rw [hst] at HB0
    clear hb0
    go_enter Try.func24, Try.ntmps24
    go_wp2
    go_ret
    exact ⟨by rw [Hf.out]; rfl, HB0.out⟩
  case false =>
    have hs0 := hs.below hb0
    have hp : PredCall Try.prog 62 #[.agg #[.bool m.Start, .int .i64 m.By, .int .i64 m.No, .int .i64 m.K]] #[] m.is (w.alloc (.cells #[.bool m.Start, .int .i64 m.By, .int .i64 m.No, .int .i64 m.K] 26)) :=
      fun c W _ => by simpa using is_c m c W
    rw [hst] at hp hs0 HB0
    clear hb0
    have Hf := Lib.hid (show placeOf l m = if idxFrom m.is l 0 < 0 then -1 else idxFrom m.is l 0 + 1 by unfold placeOf; rw [if_neg (by rw [hst]; simp)])
    have HI := Lib.hid (idxFrom_lt m.is l 0)
    go_enter Try.func24, Try.ntmps24
    go_wp2_with fail
    refine (IndexFunc_c a cap l _ _ _ m.is _ hs0 hp (enters_of Try.func62 (by kernel_rfl) rfl)).mono ?_
    rintro e w1 ⟨rfl, hb1⟩
    have hbx : Below w.heap.size w w1 := HB0.out.trans (hb1.mono (by simp))
    clear hp hs0 hb1 HB0
    rcases HI.out with h1 | ⟨k, hk, h1, _⟩
    · have Hf2 := Lib.hid (show placeOf l m = -1 by rw [Hf.out, h1]; rfl)
      rw [h1]
      clear h1 HI Hf
      go_wp2
      go_ret
      exact ⟨by rw [Hf2.out]; rfl, hbx⟩
    · have Hf2 := Lib.hid (show placeOf l m = (k : Int) + 1 by rw [Hf.out, h1, if_neg (by omega)]; omega)
      rw [h1, Int.zero_add]
      clear h1 HI Hf
      go_wp2
      go_ret
      exact ⟨by rw [Hf2.out]; rfl, hbx⟩

/-- Where a mark slides to. -/
def slideN (least : Int) (l : List Ch) : Nat → Nat
  | 0 => 0
  | n + 1 => match l[n]? with
    | some c => if doneB least c then slideN least l n else n + 1
    | none => n + 1
def slideAt (least : Int) (l : List Ch) (m : Mk) : Int := if placeOf l m < 0 then -1 else (slideN least l (placeOf l m).toNat : Int)

theorem placeOf_le (l : List Ch) (m : Mk) : placeOf l m = -1 ∨ ∃ k : Nat, k ≤ l.length ∧ placeOf l m = k := by
  unfold placeOf
  split
  · exact .inr ⟨0, by omega, rfl⟩
  · rcases idxFrom_lt m.is l 0 with h | ⟨k, hk, h, _⟩
    · left; rw [h]; rfl
    · right; exact ⟨k + 1, by omega, by rw [h, if_neg (by omega)]; omega⟩

theorem later_frozen {w : World} {b o : Nat} (hb : b < w.heap.size) (h : w.frozen? ⟨b, o, none⟩ = false) : ∀ W, Later w W → W.frozen? ⟨b, o, none⟩ = false :=
  fun _ hC => (Below.frozen hC (p := ⟨b, o, none⟩) hb).trans h

/-- Four cells of a new block, that may be written. -/
def Room4 (w : World) (b : Nat) : Prop := b < w.heap.size ∧ ∀ j, j < 4 → (∃ v, w.cell? ⟨b, j, none⟩ = some v) ∧ w.frozen? ⟨b, j, none⟩ = false
theorem Room4.later {w w' : World} {b : Nat} (h : Room4 w b) (hl : Later w w') : Room4 w' b :=
  ⟨Nat.lt_of_lt_of_le h.1 (Below.size hl), fun j hj => by
    obtain ⟨⟨v, hv⟩, hf⟩ := h.2 j hj
    exact ⟨⟨v, (Below.cell hl (p := ⟨b, j, none⟩) h.1).trans hv⟩, (Below.frozen hl (p := ⟨b, j, none⟩) h.1).trans hf⟩⟩

set_option maxHeartbeats 1000000 in
theorem Slide_c (a : Option Addr) (cap : Nat) (l : List Ch) (m : Mk) (least : Int) (w : World) (hs : SlCh w a cap l) :
    Calls Try.prog 20 #[.slice a l.length cap, .agg #[.bool m.Start, .int .i64 m.By, .int .i64 m.No, .int .i64 m.K], .int .i64 least] w fun e w' => e = .returned (.tuple #[.agg #[.bool ((markAt l (slideAt least l m)).getD Mk.zero).Start, .int .i64 ((markAt l (slideAt least l m)).getD Mk.zero).By, .int .i64 ((markAt l (slideAt least l m)).getD Mk.zero).No, .int .i64 ((markAt l (slideAt least l m)).getD Mk.zero).K], .bool (markAt l (slideAt least l m)).isSome]) ∧ Below w.heap.size w w' := by
  have hm : l.length ≤ maxLen := Nat.le_trans hs.1 hs.2.1
  unfold maxLen at hm
  have hb0 := ((Below.refl w.heap.size w).alloc (Nat.le_refl _) (.cells #[.bool m.Start, .int .i64 m.By, .int .i64 m.No, .int .i64 m.K] 26)).alloc (by simp) (.cells #[.bool false, .int .i64 0, .int .i64 0, .int .i64 0] 26)
  have hs0 := hs.below hb0
  have hr0 : Room4 ((w.alloc (.cells #[.bool m.Start, .int .i64 m.By, .int .i64 m.No, .int .i64 m.K] 26)).alloc (.cells #[.bool false, .int .i64 0, .int .i64 0, .int .i64 0] 26)) (w.heap.size + 1) := by
    refine ⟨by simp, fun j hj => ?_⟩
    have e : w.heap.size + 1 = (w.alloc (.cells #[.bool m.Start, .int .i64 m.By, .int .i64 m.No, .int .i64 m.K] 26)).heap.size := by simp
    rw [e, World.cell?_alloc_new, World.frozen?_alloc_new]
    refine ⟨⟨_, Array.getElem?_eq_getElem (by simpa using hj)⟩, rfl⟩
  have HS0 := Lib.hid hs0; clear hs0
  have HR0 := Lib.hid hr0; clear hr0
  have HB0 := Lib.hid hb0; clear hb0
  go_enter Try.func20, Try.ntmps20
  go_wp2_with fail
  refine (Place_c a cap l m _ HS0.out).mono ?_
  rintro e w1 ⟨rfl, hb1⟩
  have hs1 := HS0.out.below hb1
  have hx1 : Below w.heap.size w w1 := HB0.out.trans (hb1.mono (by simp; omega))
  have hr1 := HR0.out.later hb1
  clear HS0 HR0 HB0 hb1
  have HR1 := Lib.hid hr1; clear hr1
  have hx1s : w.heap.size + 1 < w1.heap.size := HR1.out.1
  rcases placeOf_le l m with hpl | ⟨k0, hk0, hpl⟩
  · have Hf := Lib.hid (show markAt l (slideAt least l m) = none by unfold slideAt; rw [hpl]; rfl)
    rw [hpl]
    clear hpl
    go_upto_region 4 with (first | (refine wp_loop_once ?_) | fail)
    generalize hX : (markAt l (-1)).getD Mk.zero = X
    go_wp2_with fail
    refine (At_c a cap l (-1) _ hs1).mono ?_
    rintro e w2 ⟨rfl, hb2⟩
    have hr2 := HR1.out.later hb2
    obtain ⟨⟨v0, c0⟩, f0⟩ := hr2.2 0 (by omega)
    obtain ⟨⟨v1, c1⟩, f1⟩ := hr2.2 1 (by omega)
    obtain ⟨⟨v2, c2⟩, f2⟩ := hr2.2 2 (by omega)
    obtain ⟨⟨v3, c3⟩, f3⟩ := hr2.2 3 (by omega)
    clear hr2
    go_wp2
    have hY : (markAt l (slideAt least l m)).getD Mk.zero = X := by rw [Hf.out, ← hX]; rfl
    refine bodyPost_ret (v := .tuple #[.agg #[.bool X.Start, .int .i64 X.By, .int .i64 X.No, .int .i64 X.K], .bool (markAt l (-1)).isSome]) (by simp [results, Try.results20, go_sem, c0, c1, c2, c3]) rfl ⟨by rw [hY, Hf.out]; rfl, ?_⟩
    exact (((((hx1.trans (hb2.mono hx1.size)).setCell (by simp) _).setCell (by simp) _).setCell (by simp) _).setCell (by simp) _)
  · have HP := Lib.hid (show slideAt least l m = (slideN least l k0 : Int) by unfold slideAt; rw [hpl, if_neg (by omega)]; rfl)
    rw [hpl]
    clear hpl
    go_wp2
    go_loopw [8] (fun s8 wr => ∃ k : Nat, k ≤ l.length ∧ s8 = .int .i64 k ∧ Later w1 wr ∧ Hid (slideN least l k = slideN least l k0)) (fun s8 _ => (intOf s8).toNat)
    case atStart => exact ⟨k0, hk0, rfl, Later.refl _, Lib.hid rfl⟩
    case round =>
      obtain ⟨k, hk, rfl, hl, HE⟩ := hrel
      cases k with
      | zero =>
        have Hf := Lib.hid (show slideAt least l m = ((0 : Nat) : Int) by rw [HP.out, ← HE.out]; rfl)
        clear HE HP
        simp only [Int.natCast_zero] at *
        have hs2 := hs1.below hl
        generalize hX : (markAt l 0).getD Mk.zero = X
        go_wp2_with fail
        refine (At_c a cap l 0 _ hs2).mono ?_
        rintro e w2 ⟨rfl, hb2⟩
        have hl2 : Later w1 w2 := Later.trans hl hb2
        have hr2 := HR1.out.later hl2
        obtain ⟨⟨v0, c0⟩, f0⟩ := hr2.2 0 (by omega)
        obtain ⟨⟨v1, c1⟩, f1⟩ := hr2.2 1 (by omega)
        obtain ⟨⟨v2, c2⟩, f2⟩ := hr2.2 2 (by omega)
        obtain ⟨⟨v3, c3⟩, f3⟩ := hr2.2 3 (by omega)
        clear hr2
        go_wp2
        have hY : (markAt l (slideAt least l m)).getD Mk.zero = X := by rw [Hf.out, ← hX]
        refine bodyPost_ret (v := .tuple #[.agg #[.bool X.Start, .int .i64 X.By, .int .i64 X.No, .int .i64 X.K], .bool (markAt l 0).isSome]) (by simp [results, Try.results20, go_sem, c0, c1, c2, c3]) rfl ⟨by rw [hY, Hf.out], ?_⟩
        exact (((((hx1.trans (Below.mono hl2 hx1.size)).setCell (by simp) _).setCell (by simp) _).setCell (by simp) _).setCell (by simp) _)
      | succ j =>
        have hlt : j < l.length := by omega
        have hlt' : (j : Int) < l.length := by omega
        have HS := Lib.hid (show slideN least l (j + 1) = if doneB least l[j] then slideN least l j else j + 1 by
          rw [slideN, List.getElem?_eq_getElem hlt])
        obtain ⟨b, off, ha, hc⟩ := (hs1.below hl).nth hlt
        subst ha
        obtain ⟨q0, q1, q2, q3, q4, q5, q6⟩ := hc
        generalize l[j] = x at *
        go_wp2_with fail
        refine (Done_c x least _).mono ?_
        rintro e w3 ⟨rfl, hb3⟩
        clear q0 q1 q2 q3 q4 q5 q6
        have hl3 : Later w1 w3 := Later.trans hl hb3
        cases hd : doneB least x
        · have Hf := Lib.hid (show slideAt least l m = ((j : Int) + 1) by rw [HP.out, ← HE.out, HS.out, hd]; simp)
          clear HE HP HS hb3 hl
          have hs2 := hs1.below hl3
          generalize hX : (markAt l ((j : Int) + 1)).getD Mk.zero = X
          go_wp2_with fail
          refine (At_c (some ⟨b, off, none⟩) cap l ((j : Int) + 1) _ hs2).mono ?_
          rintro e w2 ⟨rfl, hb2⟩
          have hl2 : Later w1 w2 := Later.trans hl3 hb2
          have hr2 := HR1.out.later hl2
          obtain ⟨⟨v0, c0⟩, f0⟩ := hr2.2 0 (by omega)
          obtain ⟨⟨v1, c1⟩, f1⟩ := hr2.2 1 (by omega)
          obtain ⟨⟨v2, c2⟩, f2⟩ := hr2.2 2 (by omega)
          obtain ⟨⟨v3, c3⟩, f3⟩ := hr2.2 3 (by omega)
          clear hr2
          go_wp2
          have hY : (markAt l (slideAt least l m)).getD Mk.zero = X := by rw [Hf.out, ← hX]
          refine bodyPost_ret (v := .tuple #[.agg #[.bool X.Start, .int .i64 X.By, .int .i64 X.No, .int .i64 X.K], .bool (markAt l ((j : Int) + 1)).isSome]) (by simp [results, Try.results20, go_sem, c0, c1, c2, c3]) rfl ⟨by rw [hY, Hf.out], ?_⟩
          exact (((((hx1.trans (Below.mono hl2 hx1.size)).setCell (by simp) _).setCell (by simp) _).setCell (by simp) _).setCell (by simp) _)
        · have HE2 := Lib.hid (show slideN least l j = slideN least l k0 by rw [← HE.out, HS.out, hd]; rfl)
          clear HE HS
          go_wp2
          exact ⟨⟨j, by omega, by go_num, hl3, HE2⟩, by simp [intOf]⟩
end Go.Proofs.Ytneoeokfffnonaa
