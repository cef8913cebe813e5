/- A desk's do: one step, and what it tells of it. -/
import Derived.Test.YtneoeokfffnonabGreatDoorDsNum
import Derived.Test.YtneoeokfffnonabGreatDoorPlainT
import Derived.Test.YtneoeokfffnonabGreatDoorDkDo
set_option linter.unusedVariables false
set_option linter.unusedSimpArgs false
namespace Go.Proofs.YtneoeokfffnonabGreatDoor
open Go.RowKit Go
/-- The globals that the library's texts read lie below. -/
def lowB : Nat := max (max 1 2) (max 0 5) + 1
theorem LibK.laterB {w w' : World} {base : Nat} (h : LibK w) (hB : lowB ≤ base) (hl : Below base w w') : LibK w' := by
  obtain ⟨h1, ⟨t2, p2, h2⟩, ⟨t3, p3, h3⟩, ⟨m, h4⟩⟩ := h
  unfold lowB at hB
  refine ⟨?_, ⟨t2, p2, (hl.cell (p := ⟨1, 0, none⟩) (by show 1 < base; omega)).trans h2⟩, ⟨t3, p3, (hl.cell (p := ⟨2, 0, none⟩) (by show 2 < base; omega)).trans h3⟩, ⟨m, (hl.cell (p := ⟨0, 0, none⟩) (by show 0 < base; omega)).trans h4⟩⟩
  have hg : Tryz.prog.globalNamed "internal/strconv.uint64pow10" = some 5 := by kernel_rfl
  unfold Lib.TabIs World.var? at h1 ⊢
  rw [hg] at h1 ⊢
  simp only [Option.bind_some] at h1 ⊢
  rw [hl.block 5 (by omega)]
  exact h1
theorem sl_new (w : World) (xs : List ByteArray) (vs : Array Value) (ty : TypeId) (hv : vs = (xs.map Value.string).toArray) : SlS (w.alloc (.cells vs ty)) w.heap.size 0 xs.length xs.length xs := SlS.new w xs vs ty hv
section
variable {w : World} {base : Nat} {F : Nat → Prop} {g : Nat} {d : DkM} {t : Str}
theorem sayP_c {w1 : World} (h : DsP w base F g d t w1) {b o n cap : Nat} {xs : List ByteArray} (hs : SlS w1 b o n cap xs) (L : Str) (hL : saidL xs = L) (hl : t.length + L.length ≤ 100000000) (hn : n ≤ 1000) :
    Calls Tryz.prog 22 #[.pointer (some ⟨g, 0, none⟩), .slice (some ⟨b, o, none⟩) n cap] w1 fun e w' => (∃ u, e = .returned u) ∧ DsP w base F g d (t ++ (L ++ [10])) w' := by
  obtain ⟨F1, k1, k2, k3⟩ := h
  refine (say_c k1 hs L hL hl hn).mono ?_
  intro e w' hq
  obtain ⟨hu, F2, q1, q2, q3⟩ := hq
  exact ⟨hu, F2, q1, movesT k2 k3 q2, growsT k3 k2.size q3⟩
theorem sayN_c {w1 : World} (h : DsP w base F g d t w1) (xs : List ByteArray) (vs : Array Value) (ty : TypeId) (hv : vs = (xs.map Value.string).toArray) (L : Str) (hL : saidL xs = L) (hl : t.length + L.length ≤ 100000000) (hn : xs.length ≤ 1000) :
    Calls Tryz.prog 22 #[.pointer (some ⟨g, 0, none⟩), .slice (some ⟨w1.heap.size, 0, none⟩) xs.length xs.length] (w1.alloc (.cells vs ty)) fun e w' => (∃ u, e = .returned u) ∧ DsP w base F g d (t ++ (L ++ [10])) w' :=
  sayP_c (h.later ((Below.refl w1.heap.size w1).alloc (Nat.le_refl _) (.cells vs ty))) (SlS.new w1 xs vs ty hv) L hL hl hn
theorem DsP.libK {w1 : World} (h : DsP w base F g d t w1) {d0 : DkM} {t0 : Str} (h0 : DsAt w base F g d0 t0) (hB : lowB ≤ base) (hk : LibK w) : LibK w1 := by
  obtain ⟨F1, k1, k2, k3⟩ := h
  exact hk.laterB hB (h0.below k2)
set_option maxRecDepth 100000 in
set_option maxHeartbeats 1000000 in
theorem do_c (h : DsAt w base F g d t) (ho : d.Ok) (hs : d.Sm 1000) (x : DStep) (hx : x.ok') (hl : t.length ≤ 90000000) (hk : LibK w) (hB : lowB ≤ base) :
    Calls Tryz.prog 17 #[.pointer (some ⟨g, 0, none⟩), .agg #[.int .i64 x.Kind, .int .i64 x.W, .int .i64 x.At, .int .i64 x.Many, .string x.Text]] w fun e w' => (∃ u, e = .returned u) ∧ DsP w base F g (d.step x).1 (t ++ linesS [codeL (d.step x).2]) w' := by
  have hb0 := (Below.refl w.heap.size w).alloc (Nat.le_refl _) (.cells #[.int .i64 x.Kind, .int .i64 x.W, .int .i64 x.At, .int .i64 x.Many, .string x.Text] 57)
  have HB0 := Lib.hid hb0
  have HK0 := Lib.hid (fun (W : World) (d1 : DkM) (t1 : Str) (q : DsP w base F g d1 t1 W) => q.libK h hB hk)
  obtain ⟨gd, FD, gw, hc, hd, hz⟩ := (h.later hb0).deskZ
  obtain ⟨d2, cd, hst⟩ : ∃ d2 cd, d.step x = (d2, cd) := ⟨_, _, rfl⟩
  have hdo := DDo_c hd.drew ho hs x hx
  have hsc := step_code d x
  unfold DoPost at hdo
  rw [hst] at hdo hsc ⊢
  simp only at hdo hsc ⊢
  have HDO := Lib.hid hdo
  have HZ := Lib.hid hz
  have HS0 := Lib.hid hd.lt
  have b0 : (w.alloc (.cells #[.int .i64 x.Kind, .int .i64 x.W, .int .i64 x.At, .int .i64 x.Many, .string x.Text] 57)).cell? ⟨w.heap.size, 0, none⟩ = some (.int .i64 x.Kind) := by simp
  have b1 : (w.alloc (.cells #[.int .i64 x.Kind, .int .i64 x.W, .int .i64 x.At, .int .i64 x.Many, .string x.Text] 57)).cell? ⟨w.heap.size, 1, none⟩ = some (.int .i64 x.W) := by simp
  have b2 : (w.alloc (.cells #[.int .i64 x.Kind, .int .i64 x.W, .int .i64 x.At, .int .i64 x.Many, .string x.Text] 57)).cell? ⟨w.heap.size, 2, none⟩ = some (.int .i64 x.At) := by simp
  have b3 : (w.alloc (.cells #[.int .i64 x.Kind, .int .i64 x.W, .int .i64 x.At, .int .i64 x.Many, .string x.Text] 57)).cell? ⟨w.heap.size, 3, none⟩ = some (.int .i64 x.Many) := by simp
  have b4 : (w.alloc (.cells #[.int .i64 x.Kind, .int .i64 x.W, .int .i64 x.At, .int .i64 x.Many, .string x.Text] 57)).cell? ⟨w.heap.size, 4, none⟩ = some (.string x.Text) := by simp
  have HC := Lib.hid hsc
  have HL := Lib.hid hl
  clear hb0 h ho hs hx hl hk hd hz hB hst hdo hsc
  go_enter Tryz.func17, Tryz.ntmps17
  go_upto_region 1 with fail
  generalize hw0 : w.alloc _ = w0
  have hw0' : w.alloc (.cells #[.int .i64 x.Kind, .int .i64 x.W, .int .i64 x.At, .int .i64 x.Many, .string x.Text] 57) = w0 := hw0
  rw [hw0'] at HB0 hc HDO HZ HS0 b0 b1 b2 b3 b4
  clear hw0 hw0'
  generalize w.heap.size = X at b0 b1 b2 b3 b4 ⊢
  go_still_tail 5, (by kernel_rfl)
  go_wp2_with fail
  refine HDO.out.mono ?_
  rintro e w2 ⟨rfl, hp⟩
  have HP := Lib.hid (show DsP w base F g d2 t w2 from by
    obtain ⟨F2, gw2, k1, k2, k3, _⟩ := DPost.after ((Below.refl w0.heap.size w0).drew) hp
    exact DsP.after HB0.out (HZ.out w2 F2 gw2 _ k1 k2 k3))
  have HK2 := Lib.hid (HK0.out _ _ _ HP.out)
  clear hp HDO HZ HK0 HB0 HS0 hc b0 b1 b2 b3 b4
  by_cases h0 : cd = 0
  · subst h0
    have HSY := Lib.hid (sayN_c HP.out [⟨#[111, 107]⟩] #[.string ⟨#[111, 107]⟩] 9 rfl okB rfl (by have := HL.out; show t.length + 2 ≤ _; omega) (by show 1 ≤ 1000; omega))
    clear HP HK2 HC HL
    go_wp2_with fail
    refine HSY.out.mono ?_
    intro e w4 hq
    obtain ⟨⟨u, hu⟩, h4⟩ := hq
    subst hu
    have H4 := Lib.hid h4
    clear h4 HSY
    go_wp2
    refine bodyPost_end (results_none rfl _ _ _) rfl ?_
    exact ⟨⟨_, rfl⟩, H4.out⟩
  · have h0' : decide (cd = 0) = false := decide_eq_false h0
    have HCL := Lib.hid (show codeL cd = noB ++ 32 :: Lib.itoa cd from if_neg h0)
    have HIL := Lib.hid (show (Lib.itoa cd).length ≤ 20 from by
      obtain ⟨c1, c2⟩ := HC.out
      have : cd = 0 ∨ cd = 1 ∨ cd = 2 ∨ cd = 3 ∨ cd = 4 ∨ cd = 5 ∨ cd = 6 ∨ cd = 7 ∨ cd = 8 ∨ cd = 9 := by omega
      rcases this with e | e | e | e | e | e | e | e | e | e <;> subst e <;> exact of_decide_eq_true (by kernel_rfl))
    go_wp2_with fail
    refine (dsnum_c cd (by have := HC.out; unfold i64ok; omega) w2 HK2.out).mono ?_
    rintro e w3 ⟨rfl, hb3⟩
    have HSY := Lib.hid (sayN_c (HP.out.later hb3) [⟨#[110, 111]⟩, ⟨(Lib.itoa cd).toArray⟩] #[.string ⟨#[110, 111]⟩, .string ⟨(Lib.itoa cd).toArray⟩] 9 rfl (codeL cd) (by rw [HCL.out]; simp [saidL, Lib.join, noB]) (by have := HL.out; have := HIL.out; rw [HCL.out]; simp [noB]; omega) (by show 2 ≤ 1000; omega))
    clear hb3 HP HK2 HC HL HIL HCL
    go_wp2_with fail
    refine HSY.out.mono ?_
    intro e w4 hq
    obtain ⟨⟨u, hu⟩, h4⟩ := hq
    subst hu
    have H4 := Lib.hid h4
    clear h4 HSY
    go_wp2
    refine bodyPost_ret (results_none rfl _ _ _) rfl ?_
    exact ⟨⟨_, rfl⟩, H4.out⟩
end
end Go.Proofs.YtneoeokfffnonabGreatDoor
