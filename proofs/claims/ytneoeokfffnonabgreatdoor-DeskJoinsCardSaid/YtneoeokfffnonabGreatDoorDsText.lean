/- A desk's text of a writer. -/
import Derived.Test.YtneoeokfffnonabGreatDoorDsDo
set_option linter.unusedVariables false
set_option linter.unusedSimpArgs false
namespace Go.Proofs.YtneoeokfffnonabGreatDoor
open Go.RowKit Go
theorem said5 : saidL [⟨#[110, 111]⟩, ⟨(Lib.itoa 5).toArray⟩] = codeL 5 := of_decide_eq_true (by kernel_rfl)
section
variable {w : World} {base : Nat} {F : Nat → Prop} {g : Nat} {d : DkM} {t : Str}
set_option maxRecDepth 100000 in
set_option maxHeartbeats 1000000 in
theorem text_none (h : DsAt w base F g d t) (x : Int) (hw : d.writer x = none) (hl : t.length ≤ 90000000) (hk : LibK w) :
    Calls Tryz.prog 30 #[.pointer (some ⟨g, 0, none⟩), .int .i64 x] w fun e w' => (∃ u, e = .returned u) ∧ DsP w base F g d (t ++ (codeL 5 ++ [10])) w' := by
  obtain ⟨gd, FD, gw, hc, hd, -⟩ := h.deskZ
  have HD := Lib.hid hd
  have HH := Lib.hid h
  have HK := Lib.hid hk
  have HL := Lib.hid hl
  have HP := Lib.hid (DkM.ptr_none hw gw)
  clear hd h hk hl hw
  go_enter Tryz.func30, Tryz.ntmps30
  go_wp2_with fail
  refine (DWriter_c HD.out x).mono ?_
  rintro e w1 ⟨rfl, rfl⟩
  rw [HP.out]
  clear HD HP hc
  go_wp2_with fail
  refine (dsnum_c 5 (by unfold i64ok; omega) _ HK.out).mono ?_
  rintro e w3 ⟨rfl, hb3⟩
  have HSY := Lib.hid (sayN_c (DsP.start HH.out hb3) [⟨#[110, 111]⟩, ⟨(Lib.itoa 5).toArray⟩] #[.string ⟨#[110, 111]⟩, .string ⟨(Lib.itoa 5).toArray⟩] 9 rfl (codeL 5) said5 (by have := HL.out; have := code5_len; omega) (by show 2 ≤ 1000; omega))
  clear hb3 HH HK HL
  go_wp2_with fail
  refine HSY.out.mono ?_
  intro e w4 hq
  obtain ⟨⟨u, hu⟩, h4⟩ := hq
  subst hu
  have H4 := Lib.hid h4
  clear h4 HSY
  go_wp2
  refine bodyPost_ret (results_none rfl _ _ _) rfl ?_
  exact ⟨⟨_, rfl⟩, H4.out⟩
set_option maxRecDepth 100000 in
set_option maxHeartbeats 1000000 in
theorem text_some (h : DsAt w base F g d t) (ho : d.Ok) (x : Int) {m : WM} (hw : d.writer x = some m) (hl : t.length ≤ 90000000) :
    Calls Tryz.prog 30 #[.pointer (some ⟨g, 0, none⟩), .int .i64 x] w fun e w' => (∃ u, e = .returned u) ∧ DsP w base F g d (t ++ ((textB ++ 32 :: strL m.view) ++ [10])) w' := by
  obtain ⟨gd, FD, gw, hc, hd, -⟩ := h.deskZ
  obtain ⟨hx, hme, hW, tm, hin⟩ := ho.of_writer hw
  obtain ⟨FW, _, _, hwr, _⟩ := hd.wrZ (toNat_lt hx).1 hW
  have hcl := hin.chars_len ho.lm
  have HT := Lib.hid (show Calls Tryz.prog 58 #[.pointer (some ⟨(gw x.toNat), 0, none⟩)] w fun e w' => e = .returned (.string (strOfNums m.view)) ∧ Below w.heap.size w w' from
    WText_c hwr (by show m.chars.length ≤ 1000; omega))
  have HVL := Lib.hid (show m.view.length ≤ 1000 from by
    have e : m.view.length = (vis m.seen m.me m.chars).length := viewN_length _ _ _
    have e2 : (vis m.seen m.me m.chars).length ≤ m.chars.length := List.length_filter_le _ _
    omega)
  have HD := Lib.hid hd
  have HH := Lib.hid h
  have HL := Lib.hid hl
  have HP := Lib.hid (DkM.ptr_some hw gw)
  clear hd h hl hw ho hin hcl hwr hW hme hx
  generalize gw x.toNat = gx at *
  go_enter Tryz.func30, Tryz.ntmps30
  go_wp2_with fail
  refine (DWriter_c HD.out x).mono ?_
  rintro e w1 ⟨rfl, rfl⟩
  rw [HP.out]
  clear HD HP hc
  go_wp2_with fail
  refine HT.out.mono ?_
  rintro e w3 ⟨rfl, hb3⟩
  have HSY := Lib.hid (sayN_c (DsP.start HH.out hb3) [⟨#[116, 101, 120, 116]⟩, strOfNums m.view] #[.string ⟨#[116, 101, 120, 116]⟩, .string (strOfNums m.view)] 9 rfl (textB ++ 32 :: strL m.view) (by simp [saidL, Lib.join, textB, strL]) (by have := HL.out; have := HVL.out; have := strL_len m.view; simp [textB]; omega) (by show 2 ≤ 1000; omega))
  clear hb3 HH HL HVL HT
  go_wp2_with fail
  refine HSY.out.mono ?_
  intro e w4 hq
  obtain ⟨⟨u, hu⟩, h4⟩ := hq
  subst hu
  have H4 := Lib.hid h4
  clear h4 HSY
  go_wp2
  refine bodyPost_end (results_none rfl _ _ _) rfl ?_
  exact ⟨⟨_, rfl⟩, H4.out⟩
theorem dtext_c (h : DsAt w base F g d t) (ho : d.Ok) (x : Int) (hl : t.length ≤ 90000000) (hk : LibK w) :
    Calls Tryz.prog 30 #[.pointer (some ⟨g, 0, none⟩), .int .i64 x] w fun e w' => (∃ u, e = .returned u) ∧ DsP w base F g d (t ++ linesS (tellK d (.text x)).2) w' := by
  cases hw : d.writer x with
  | none =>
    have e : linesS (tellK d (.text x)).2 = codeL 5 ++ [10] := by simp only [tellK, hw]; rfl
    rw [e]; exact text_none h x hw hl hk
  | some m =>
    have e : linesS (tellK d (.text x)).2 = (textB ++ 32 :: strL m.view) ++ [10] := by simp only [tellK, hw]; rfl
    rw [e]; exact text_some h ho x hw hl
end
end Go.Proofs.YtneoeokfffnonabGreatDoor
