/- Numbers of words, as a desk reads them. -/
import Derived.Test.YtneoeokfffnonabGreatDoorDeedW
import Derived.Test.YtneoeokfffnonabGreatDoorDsObj
import Derived.Test.YtneoeokfffnonabGreatDoorCharsW
set_option linter.unusedVariables false
set_option linter.unusedSimpArgs false
namespace Go.Proofs.YtneoeokfffnonabGreatDoor
open Go.RowKit Go
theorem dsnum_c (n : Int) (hn : i64ok n) (w : World) (hk : LibK w) : Calls Tryz.prog 26 #[.int .i64 n] w fun e w' => e = .returned (.string ⟨(Lib.itoa n).toArray⟩) ∧ Below w.heap.size w w' := by
  have HT := Lib.hid hk.tab
  have HN := Lib.hid hn
  clear hn hk
  go_enter Tryz.func26, Tryz.ntmps26
  go_wp2_with fail
  refine (Tryz.strconv_Itoa n (by have := HN.out; unfold i64ok at this; omega) (by have := HN.out; unfold i64ok at this; omega) w HT.out).mono ?_
  rintro e w' ⟨rfl, k, os, rfl⟩
  have hb := Lib.below_grow w.heap.size w (Nat.le_refl _) k os
  generalize Sort.grow (w.drewN k) os = w1 at *
  go_wp2
  go_ret
  exact ⟨rfl, hb⟩
theorem numsK_take {l : List Str} {k : Nat} (hk : k < l.length) : numsK (l.take (k + 1)) = match numsK (l.take k) with | none => none | some ns => (numOf l[k]).map fun n => ns ++ [n] := by
  rw [List.take_succ_eq_append_getElem hk, numsK_app]; cases numsK (l.take k) <;> rfl
set_option maxRecDepth 100000 in
set_option maxHeartbeats 1000000 in
theorem numbers_c {b o n cap : Nat} {xs : List ByteArray} (w : World) (hs : SlS w b o n cap xs) (hx : ∀ x ∈ xs, x.size ≤ 1000000) (hn : n ≤ 100000) (hk : LibK w) :
    Calls Tryz.prog 16 #[.slice (some ⟨b, o, none⟩) n cap] w fun e w' => Below w.heap.size w w' ∧ ((numsK (xs.map (·.data.toList)) = none ∧ e = .returned (.tuple #[.slice none 0 0, .bool false])) ∨
      ∃ ns a' cap', numsK (xs.map (·.data.toList)) = some ns ∧ e = .returned (.tuple #[.slice a' ns.length cap', .bool true]) ∧ OwnRow w' w.heap.size 3 1 a' ns.length cap' (ns.map (Value.int .i64))) := by
  have HK := Lib.hid hk
  have HS := Lib.hid hs
  have HX := Lib.hid hx
  have hlen := hs.len
  obtain ⟨ys, hys⟩ : ∃ ys, ys = xs.map (·.data.toList) := ⟨_, rfl⟩
  have hyl : ys.length = n := by rw [hys, List.length_map, hlen]
  have HY := Lib.hid hys
  have HB0 := Lib.hid (Below.refl w.heap.size w)
  rw [← hys]
  clear hys hk hs hx
  go_enter Tryz.func16, Tryz.ntmps16
  go_wp2
  go_loopw [4, 11] (fun s4 s11 wr => ∃ (k : Nat) (ns : List Int) (a' : Option Addr) (cap' : Nat), k ≤ n ∧ s11 = (.int .i64 (k : Int)) ∧ s4 = .slice a' k cap' ∧ Hid (numsK (ys.take k) = some ns ∧ ns.length = k) ∧ Hid (OwnRow wr w.heap.size 3 1 a' k cap' (ns.map (Value.int .i64))) ∧ Hid (Below w.heap.size w wr)) (fun _ s11 _ => n - (intOf s11).toNat)
  case atStart => exact ⟨0, [], none, 0, Nat.zero_le _, rfl, rfl, Lib.hid ⟨rfl, rfl⟩, Lib.hid (OwnRow.nil _ _ _ _ _), HB0⟩
  case round =>
    obtain ⟨k, ns, a', cap', hk, rfl, rfl, HN, HO, HB⟩ := hrel
    rename World => wr
    clear HB0
    by_cases hlt : k < n
    · have hkx : k < xs.length := by omega
      have hkl : k < ys.length := by omega
      obtain ⟨x, hxk⟩ : ∃ x, xs[k]? = some x := ⟨_, List.getElem?_eq_getElem hkx⟩
      have HXS := Lib.hid (HX.out x (List.mem_of_getElem? hxk))
      have HYK := Lib.hid (show ys[k] = x.data.toList from by
        have e : ys[k]? = some x.data.toList := by rw [HY.out, List.getElem?_map, hxk]; rfl
        exact (List.getElem?_eq_some_iff.1 e).2)
      have HNT := Lib.hid (show numsK (ys.take (k + 1)) = (numOf x.data.toList).map fun n => ns ++ [n] from by
        rw [numsK_take hkl, HN.out.1]; simp only; rw [HYK.out])
      have HST := Lib.hid (show numOf x.data.toList = none → numsK ys = none from fun h => numsK_stop ys k hkl (by rw [HYK.out]; exact h))
      have hc := (HS.out.later HB.out).c k x hxk
      have hlt' : (k : Int) < (n : Int) := by omega
      have hk0 : (0 : Int) ≤ (k : Int) := by omega
      have HKr := Lib.hid (HK.out.later HB.out)
      clear hxk hkx
      rcases numOf_cases x with ⟨v, h1, h2, h3, h4⟩ | ⟨v, h1, h2, h3, h4⟩ | ⟨h1, h2⟩
      · have H1 := Lib.hid h1; have H2 := Lib.hid h2; have H3 := Lib.hid (str_eq h3); have H4 := Lib.hid h4
        clear h1 h2 h3 h4
        go_wp2_with fail
        refine (atoi_ok x HXS.out v H1.out wr).mono ?_
        rintro e w3 ⟨rfl, hb3⟩
        have HB3 := Lib.hid hb3
        clear hb3 hc
        go_wp2_with fail
        refine (dsnum_c v H4.out w3 (HKr.out.later HB3.out)).mono ?_
        rintro e w4 ⟨rfl, hb4⟩
        have HL4 := Lib.hid (HB3.out.trans (hb4.mono HB3.out.size))
        have HO4 := Lib.hid (HO.out.below HL4.out)
        have HB4 := Lib.hid (HB.out.trans (HL4.out.mono HB.out.size))
        have hs4 : w.heap.size ≤ w4.heap.size := HB4.out.size
        rw [H3.out]
        clear hb4 HB3 HO HL4 HB
        go_wp2_with (at_builtin; refine wpList_append_new rfl (.tmp 28) (.tmp 30) 52 rfl w.heap.size 3 1 8 Tryz.underlying52 ti_int a' k cap' _ rfl HO4.out 1 1 [.int .i64 v] rfl rfl (one1 rfl) (by omega) hs4 ?_)
        intro a3 cap3 w5 hown5 hb5 hz5 hg5
        have HO5 := Lib.hid (show OwnRow w5 w.heap.size 3 1 a3 (k + 1) cap3 ((ns ++ [v]).map (Value.int .i64)) from by rw [List.map_append]; exact hown5)
        have HB5 := Lib.hid (HB4.out.trans hb5)
        have HN5 := Lib.hid (show numsK (ys.take (k + 1)) = some (ns ++ [v]) ∧ (ns ++ [v]).length = k + 1 from ⟨by rw [HNT.out, H2.out]; rfl, by rw [List.length_append, HN.out.2]; rfl⟩)
        clear hown5 hb5 hz5 hg5 HO4 HB4 HN HNT
        go_wp2
        exact ⟨⟨k + 1, ns ++ [v], a3, cap3, by omega, by go_num, rfl, HN5, HO5, HB5⟩, by simp [intOf]; omega⟩
      · have H1 := Lib.hid h1; have H4 := Lib.hid h4
        have HR := Lib.hid (HST.out h2)
        obtain ⟨T, hT⟩ : ∃ T : ByteArray, T = ⟨(Lib.itoa v).toArray⟩ := ⟨_, rfl⟩
        have HT := Lib.hid hT
        have hne : T ≠ x := by rw [hT]; exact str_ne h3
        have hne1 : decide (T = x) = false := decide_eq_false hne
        have hne3 : decide (T.toList = x.toList) = false := decide_eq_false fun e => hne (ba_ext (by rwa [ByteArray.toList_eq, ByteArray.toList_eq] at e))
        have hne4 : (T.toList == x.toList) = false := by simpa using hne3
        clear h1 h2 h3 h4 hT hne
        go_wp2_with fail
        refine (atoi_ok x HXS.out v H1.out wr).mono ?_
        rintro e w3 ⟨rfl, hb3⟩
        have HB3 := Lib.hid hb3
        clear hb3 hc
        go_wp2_with fail
        refine (dsnum_c v H4.out w3 (HKr.out.later HB3.out)).mono ?_
        rintro e w4 ⟨rfl, hb4⟩
        have HB4 := Lib.hid (HB.out.trans ((HB3.out.trans (hb4.mono HB3.out.size)).mono HB.out.size))
        rw [← HT.out]
        clear hb4 HB3 HO HB
        go_wp2
        go_ret2
        exact ⟨HB4.out, .inl ⟨HR.out, rfl⟩⟩
      · have H1 := Lib.hid h1
        have HR := Lib.hid (HST.out h2)
        clear h1 h2
        go_wp2_with fail
        refine (atoi_bad x HXS.out H1.out wr HKr.out).mono ?_
        rintro e w4 ⟨v, t, p, rfl, hb4⟩
        have HB4 := Lib.hid (HB.out.trans (hb4.mono HB.out.size))
        clear hb4 HO HB hc
        go_wp2
        go_ret2
        exact ⟨HB4.out, .inl ⟨HR.out, rfl⟩⟩
    · obtain rfl : k = n := by omega
      have hltB : decide ((k : Int) < (k : Int)) = false := by simp
      have HR := Lib.hid (show numsK ys = some ns from by
        have := HN.out.1
        rw [List.take_of_length_le (by omega)] at this
        exact this)
      go_wp2
      go_ret2
      exact ⟨HB.out, .inr ⟨ns, a', cap', HR.out, by rw [HN.out.2]; rfl, by rw [HN.out.2]; exact HO.out⟩⟩
end Go.Proofs.YtneoeokfffnonabGreatDoor
