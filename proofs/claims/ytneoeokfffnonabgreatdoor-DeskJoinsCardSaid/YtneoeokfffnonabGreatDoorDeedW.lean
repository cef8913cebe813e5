/- The walks of numbers and words in lines. -/
import Derived.Test.YtneoeokfffnonabGreatDoorDeedB
import Derived.Test.YtneoeokfffnonabGreatDoorShelf
import Derived.Lib.ItoaMem
import Derived.Lib.AtoiErrMem
import Derived.Lib.AppendIntMem
import Derived.Shelf.Unicode.PredsPay
import Derived.Test.YtneoeokfffnonabGreatDoorMixX
set_option linter.unusedVariables false
set_option linter.unusedSimpArgs false
namespace Go.Proofs.YtneoeokfffnonabGreatDoor
open DB
open Go.RowKit Go

/-- What the library's texts ask of a world. -/
structure LibK (w : World) : Prop where
  tab : Lib.TabIs Tryz.prog w "internal/strconv.uint64pow10" .u64 Lib.pow10Tab
  syn : ∃ tp p, w.cell? ⟨1, 0, none⟩ = some (.iface tp p)
  rng : ∃ tp p, w.cell? ⟨2, 0, none⟩ = some (.iface tp p)
  mx : ∃ m, w.cell? ⟨0, 0, none⟩ = some (.int .i64 m)
theorem LibK.later {w w' : World} (h : LibK w) (hl : Below w.heap.size w w') : LibK w' := by
  obtain ⟨h1, ⟨t2, p2, h2⟩, ⟨t3, p3, h3⟩, ⟨m, h4⟩⟩ := h
  exact ⟨TabIs_below (P := Tryz.prog) (g := 5) (by kernel_rfl) h1 hl, ⟨t2, p2, (hl.cell (p := ⟨1, 0, none⟩) (World.block_lt_of_cell? _ _ h2)).trans h2⟩,
    ⟨t3, p3, (hl.cell (p := ⟨2, 0, none⟩) (World.block_lt_of_cell? _ _ h3)).trans h3⟩, ⟨m, (hl.cell (p := ⟨0, 0, none⟩) (World.block_lt_of_cell? _ _ h4)).trans h4⟩⟩

theorem dnum_c (n : Int) (hn : i64ok n) (w : World) (hk : LibK w) : Calls Tryz.prog 94 #[.int .i64 n] w fun e w' => e = .returned (.string ⟨(Lib.itoa n).toArray⟩) ∧ Below w.heap.size w w' := by
  have HT := Lib.hid hk.tab
  have HN := Lib.hid hn
  clear hn hk
  go_enter Tryz.func94, Tryz.ntmps94
  go_wp2_with fail
  refine (Tryz.strconv_Itoa n (by have := HN.out; unfold i64ok at this; omega) (by have := HN.out; unfold i64ok at this; omega) w HT.out).mono ?_
  rintro e w' ⟨rfl, k, os, rfl⟩
  have hb := Lib.below_grow w.heap.size w (Nat.le_refl _) k os
  generalize Sort.grow (w.drewN k) os = w1 at *
  go_wp2
  go_ret
  exact ⟨rfl, hb⟩
theorem atoi_ok (s : ByteArray) (hs : s.size ≤ 1000000) (v : Int) (h : Lib.atoiAll s.data.toList = .ok v) (w : World) : Calls Tryz.prog 25 #[.string s] w fun e w' => e = .returned (.tuple #[.int .i64 v, .nilIface]) ∧ Below w.heap.size w w' := by
  refine (Tryz.strconv_Atoi_ok s (by omega) v h w).mono ?_
  rintro e w' ⟨rfl, rfl | ⟨t, rfl⟩⟩
  · exact ⟨rfl, Below.refl _ _⟩
  · exact ⟨rfl, Lib.bytesWorld_below _ _ _⟩
theorem atoi_bad (s : ByteArray) (hs : s.size ≤ 1000000) (h : ∀ v, Lib.atoiAll s.data.toList ≠ .ok v) (w : World) (hk : LibK w) : Calls Tryz.prog 25 #[.string s] w fun e w' => ∃ v t p, e = .returned (.tuple #[.int .i64 v, .iface t p]) ∧ Below w.heap.size w w' := by
  rcases ha : Lib.atoiAll s.data.toList with v | _ | _
  · exact absurd ha (h v)
  · obtain ⟨tp, p, hv⟩ := hk.syn
    refine (Tryz.strconv_Atoi_syntax s (by omega) ha _ w hv (.inr ⟨_, _, rfl⟩)).mono ?_
    rintro e w' ⟨N, rfl, _, _, hb⟩
    exact ⟨_, _, _, rfl, hb⟩
  · obtain ⟨tp, p, hv⟩ := hk.rng
    refine (Tryz.strconv_Atoi_range s (by omega) ha _ w hv (.inr ⟨_, _, rfl⟩)).mono ?_
    rintro e w' ⟨N, rfl, _, _, hb⟩
    exact ⟨_, _, _, rfl, hb⟩
theorem str_eq {l : Str} {s : ByteArray} (h : l = s.data.toList) : (⟨l.toArray⟩ : ByteArray) = s := ba_ext (by simp [h])
theorem str_ne {l : Str} {s : ByteArray} (h : l ≠ s.data.toList) : (⟨l.toArray⟩ : ByteArray) ≠ s := fun e => h (by rw [← e])
/-- Is a string a number? -/
theorem numOf_cases (s : ByteArray) : (∃ v, Lib.atoiAll s.data.toList = .ok v ∧ numOf s.data.toList = some v ∧ Lib.itoa v = s.data.toList ∧ i64ok v) ∨ (∃ v, Lib.atoiAll s.data.toList = .ok v ∧ numOf s.data.toList = none ∧ Lib.itoa v ≠ s.data.toList ∧ i64ok v) ∨ ((∀ v, Lib.atoiAll s.data.toList ≠ .ok v) ∧ numOf s.data.toList = none) := by
  rcases ha : Lib.atoiAll s.data.toList with v | _ | _
  · have hb := Lib.atoiAll_bounds ha
    have hv : i64ok v := by unfold i64ok; omega
    by_cases h : Lib.itoa v = s.data.toList
    · exact .inl ⟨v, rfl, by unfold numOf; rw [ha]; simp [h], h, hv⟩
    · exact .inr (.inl ⟨v, rfl, by unfold numOf; rw [ha]; simp [h], h, hv⟩)
  · exact .inr (.inr ⟨fun v e => (by cases e), (by unfold numOf; rw [ha])⟩)
  · exact .inr (.inr ⟨fun v e => (by cases e), (by unfold numOf; rw [ha])⟩)


/-- Where the first blank stands. -/
theorem wordF_cases (s : ByteArray) : (wordF s.data.toList = none ∧ ∀ k (h : k < s.size), (s[k].toNat : Int) ≠ 32) ∨ ∃ a r, wordF s.data.toList = some (a, r) ∧ a.length < s.size ∧ (∀ k (h : k < s.size), k < a.length → (s[k].toNat : Int) ≠ 32) ∧ (∀ (h : a.length < s.size), (s[a.length].toNat : Int) = 32) ∧ s.extract 0 a.length = ⟨a.toArray⟩ ∧ s.extract (a.length + 1) s.size = ⟨r.toArray⟩ := by
  have key : ∀ k (h : k < s.size), s.data.toList[k]'(by simpa using h) = s[k] := fun k h => rfl
  have u8 : ∀ c : UInt8, (c.toNat : Int) = 32 ↔ c = 32 := by
    intro c
    constructor
    · intro h
      have h2 : c.toNat = 32 := by omega
      exact UInt8.toNat_inj.1 h2
    · intro h; rw [h]; rfl
  cases hw : wordF s.data.toList with
  | none =>
    refine .inl ⟨rfl, fun k h e => ?_⟩
    exact wordF_none hw _ (List.getElem_mem (by simpa using h)) (by rw [key k h]; exact (u8 _).1 e)
  | some p =>
    obtain ⟨a, r⟩ := p
    obtain ⟨h1, h2⟩ := wordF_some hw
    have hl : s.size = a.length + 1 + r.length := by
      have := congrArg List.length h1
      simp at this
      have e : s.data.size = s.size := rfl
      omega
    refine .inr ⟨a, r, rfl, by omega, fun k h hk e => ?_, fun h => ?_, ?_, ?_⟩
    · have e2 := key k h
      have e3 : s.data.toList[k]'(by simpa using h) = a[k] := by simp only [h1]; rw [List.getElem_append_left hk]
      rw [e3] at e2
      exact h2 _ (List.getElem_mem hk) (by rw [e2]; exact (u8 _).1 e)
    · rw [u8, ← key _ h]
      simp only [h1]; rw [List.getElem_append_right (Nat.le_refl _)]; simp
    · apply ba_ext
      rw [Lib.extract_from_zero, h1]; simp
    · apply ba_ext
      rw [Lib.extract_to_end, h1]; simp
end Go.Proofs.YtneoeokfffnonabGreatDoor
