/- The walk of the law FoldMeets. -/
import Derived.Test.YtneoeokfffnonabFoBegun
import Derived.Test.YtneoeokfffnonabFoldL4
import Derived.Test.YtneoeokfffnonabStrP
import Derived.Test.YtneoeokfffnonabSlDdW
import Derived.Test.YtneoeokfffnonabMixT
namespace Go.Proofs.Ytneoeokfffnonab
open Go.RowKit

def txtAt (s : ByteArray) (j : Nat) : ByteArray := s.extract (20 * j) (min s.size (20 * j + 20))
def pieces (s : ByteArray) (k : Nat) : List Dd := (List.range k).map fun i => pieceD i (txtAt s i)
theorem pieces_length (s : ByteArray) (k : Nat) : (pieces s k).length = k := by simp [pieces]
theorem pieces_snoc (s : ByteArray) (k : Nat) : pieces s (k + 1) = pieces s k ++ [pieceD k (txtAt s k)] := by simp [pieces, List.range_succ]

theorem bytesOf_extract (s : ByteArray) (i j : Nat) : bytesOf (s.extract i j) = ((bytesOf s).take j).drop i := by
  unfold bytesOf
  rw [ByteArray.data_extract, Array.toList_extract]
  simp [List.map_drop, List.map_take, List.drop_take]

/-- FoldMeets, of the pieces of a text. -/
def twoD (n k : Nat) (a b : ByteArray) : List Dd := [⟨1, 1, 1, n, k, 0, a⟩, ⟨1, 2, 1, n, k, 0, b⟩]
theorem meets_str (s : ByteArray) (n : Nat) (h1 : s.size ≤ 20 * n) (h2 : ∀ j, j < n → 20 * j < s.size) (k : Nat) (hk : k ≤ s.size) (a b : ByteArray) (hab : s.size + a.size + b.size ≤ 100) :
    ((allF (pieces s n ++ twoD n k a b)).2 = (0, 0) ∧
      strOfNums (textF (allF (pieces s n ++ twoD n k a b)).1) = s.extract 0 k ++ b ++ a ++ s.extract k s.size) ∨
    ∃ i, ∃ h : i < (pieces s n ++ twoD n k a b).length, deedFault (pieces s n ++ twoD n k a b)[i] ≠ 0 ∧
      (allF (pieces s n ++ twoD n k a b)).2 = (deedFault (pieces s n ++ twoD n k a b)[i], (i : Int)) := by
  have hbl := bytesOf_length s
  have hn : n ≤ 100 := by
    rcases Nat.eq_zero_or_pos n with h | h
    · omega
    · have := h2 (n - 1) (by omega); omega
  have hall : (bytesOf s).take (20 * n) = bytesOf s := List.take_of_length_le (by omega)
  rcases meets (txtAt s) (fun j => (bytesOf s).take (20 * j)) n hn (by simp) (fun j hj => by
      unfold txtAt
      rw [bytesOf_extract]
      have := h2 j hj
      rw [show 20 * (j + 1) = 20 * j + 20 by omega, List.take_add]
      congr 1
      rw [List.drop_take]
      rcases Nat.le_total s.size (20 * j + 20) with h | h
      · rw [Nat.min_eq_left h, List.take_of_length_le (by rw [List.length_drop]; omega), List.take_of_length_le (by rw [List.length_drop]; omega)]
      · rw [Nat.min_eq_right h, show 20 * j + 20 - 20 * j = 20 by omega]) (fun j hj => by simp only [List.length_take, hbl]; have := h2 j hj; omega) (fun j _ => by simp only [List.length_take, hbl]; omega)
      k (by simp only [List.length_take, hbl]; omega) a b (by simp only [List.length_take, hbl]; omega) (pieces s n ++ twoD n k a b) rfl with ⟨e1, e2⟩ | h
  · left
    refine ⟨e1, ?_⟩
    rw [e2, hall, ← strOfNums_append, ← strOfNums_append, ← strOfNums_append, strOfNums_bytes, strOfNums_bytes]
    congr 1
    · congr 1
      congr 1
      conv => rhs; rw [← strOfNums_bytes s]
      rw [strOfNums_extract, List.drop_zero]
    · conv => rhs; rw [← strOfNums_bytes s]
      rw [strOfNums_extract, strOfNums_size, List.take_length]
  · exact .inr h

theorem DCheck_b (d : Dd) (c : Int) (hc : deedFault d = c) (w : World) (hs : d.Text.size ≤ maxLen) :
    Calls Try.prog 16 #[.agg #[.int .i64 d.Kind, .int .i64 d.By, .int .i64 d.No, .int .i64 d.Seen, .int .i64 d.At, .int .i64 d.Many, .string d.Text]] w fun e w' => e = .returned (.int .i64 c) ∧ Below w.heap.size w w' := by
  subst hc; exact DCheck_c d w hs
theorem extract_size_le (s : ByteArray) (i j : Nat) (h : s.size ≤ 100) : (s.extract i j).size ≤ 100 := by rw [ByteArray.size_extract]; omega
theorem allFrom_len (ds : List Dd) : ∀ out i, out.length ≤ 200 → (allFrom out i ds).1.length ≤ 200 := by
  induction ds with
  | nil => intro out i h; exact h
  | cons d ds ih =>
    intro out i h
    rw [allFrom_cons]
    split
    · exact ih _ _ (doF_len _ _ _)
    · simp
theorem allF_len (ds : List Dd) : (allF ds).1.length ≤ 200 := allFrom_len ds [] 0 (by simp)
theorem meets_k (x : Int) (n : Nat) (hn : n ≤ 100) : ∃ K : Nat, wrap64 ((IntKind.u64.wrap x).tmod ((n : Int) + 1)) = (K : Int) ∧ K ≤ n := by
  have hu : 0 ≤ IntKind.u64.wrap x := by
    have : IntKind.u64.wrap x = x % 18446744073709551616 := by simp [IntKind.wrap, IntKind.signed, IntKind.bits]
    rw [this]; exact Int.emod_nonneg _ (by decide)
  rw [Int.tmod_eq_emod_of_nonneg hu]
  have h1 := Int.emod_nonneg (IntKind.u64.wrap x) (show (n : Int) + 1 ≠ 0 by omega)
  have h2 := Int.emod_lt_of_pos (IntKind.u64.wrap x) (show (0 : Int) < (n : Int) + 1 by omega)
  generalize IntKind.u64.wrap x % ((n : Int) + 1) = q at *
  refine ⟨q.toNat, ?_, by omega⟩
  unfold wrap64
  omega

set_option maxRecDepth 100000 in
set_option maxHeartbeats 4000000 in
theorem FoldMeets_c (s : ByteArray) (at_ : Int) (sa sb : ByteArray) (w : World) (h0 : s.size ≤ 140737488355328) (ha : sa.size ≤ 140737488355328) (hb : sb.size ≤ 140737488355328) (hat : i64ok at_) :
    Calls Try.prog 3 #[.string s, .int .i64 at_, .string sa, .string sb] w fun e w' => e = .returned (.bool true) ∧ Below w.heap.size w w' := by
  have HAT := Lib.hid hat; clear hat
  go_enter Try.func3, Try.ntmps3
  go_wp2_with fail
  refine (foldBegun_c _).mono ?_
  rintro e w1 ⟨rfl, hb1⟩
  by_cases hsum : 100 < s.size + sa.size + sb.size
  · have hd : decide (100 < (s.size : Int) + (sa.size : Int) + (sb.size : Int)) = true := by simp; omega
    go_wp2
    go_ret
    exact ⟨rfl, hb1⟩
  have hd : decide (100 < (s.size : Int) + (sa.size : Int) + (sb.size : Int)) = false := by simp; omega
  have hsz : s.size ≤ 100 := by omega
  go_wp2
  go_loopw [9, 10, 11] (fun s9 s10 s11 wr => ∃ (k : Nat) (a' : Option Addr) (cap' : Nat), s10 = .int .i64 k ∧ s11 = .int .i64 ((20 * k : Nat) : Int) ∧ 20 * k < s.size + 20 ∧ s9 = .slice a' k cap' ∧ Hid (OwnRow wr w1.heap.size 25 7 a' k cap' (flatD (pieces s k))) ∧ Below w1.heap.size w1 wr ∧ Hid (∀ j, j < k → 20 * j < s.size)) (fun _ s10 _ _ => s.size - (intOf s10).toNat)
  case atStart => exact ⟨0, none, 0, rfl, rfl, by omega, rfl, Lib.hid (OwnRow.nil _ _ _ _ _), Below.refl _ _, Lib.hid (fun j h => by omega)⟩
  case round =>
    obtain ⟨k, a', cap', rfl, rfl, hk, rfl, HO, hb, HJ⟩ := hrel
    have hinc : IntKind.i64.wrap ((k : Int) + 1) = (k : Int) + 1 := by rw [IntKind.wrap_i64]; omega
    have hinc2 : IntKind.i64.wrap (((20 * k : Nat) : Int) + 20) = ((20 * k : Nat) : Int) + 20 := by rw [IntKind.wrap_i64]; omega
    have hdec : IntKind.i64.wrap ((k : Int) + 1 - 1) = (k : Int) := by rw [IntKind.wrap_i64]; omega
    by_cases hlt : 20 * k < s.size
    · have hltB : decide (((20 * k : Nat) : Int) < (s.size : Int)) = true := by simp; omega
      have HPS := Lib.hid (pieces_snoc s k)
      have HJ2 := Lib.hid (show ∀ j, j < k + 1 → 20 * j < s.size from fun j hj => by
        by_cases e : j < k
        · exact HJ.out j e
        · obtain rfl : j = k := by omega
          exact hlt)
      clear HJ
      by_cases hmin : s.size ≤ 20 * k + 20
      · have m1 : (s.size : Int) ≤ 20 * (k : Int) + 20 := by omega
        have HTX := Lib.hid (show pieceD k (txtAt s k) = ⟨1, 0, (k : Int) + 1, k, 20 * (k : Int), 0, s.extract (20 * k) s.size⟩ by unfold pieceD txtAt; rw [Nat.min_eq_left hmin])
        go_wp2_with (at_builtin; refine wpList_append_new rfl (.tmp 34) (.tmp 48) 23 rfl w1.heap.size 25 7 64 Try.underlying23 ti_Deed a' k cap' _ rfl HO.out 1 1 (Dd.cells ⟨1, 0, (k : Int) + 1, k, 20 * (k : Int), 0, (s.extract (20 * k) s.size)⟩) rfl rfl (Dd.cells_one _) (by omega) hb.size ?_)
        intro a3 cap3 w3 hown3 hb3 hz3 hg3
        have HO3 := Lib.hid (show OwnRow w3 w1.heap.size 25 7 a3 (k + 1) cap3 (flatD (pieces s (k + 1))) by
          rw [HPS.out, flatD_append, HTX.out]; exact hown3)
        have hx3 := hb.trans hb3
        clear HO hown3 HPS hb3
        go_wp2
        exact ⟨⟨k + 1, a3, cap3, by go_num, by go_num, by omega, rfl, HO3, hx3, HJ2⟩, by simp [intOf]; omega⟩
      · have m1 : 20 * (k : Int) + 20 < (s.size : Int) := by omega
        have htn : (20 * (k : Int) + 20).toNat = 20 * k + 20 := by omega
        have HTX := Lib.hid (show pieceD k (txtAt s k) = ⟨1, 0, (k : Int) + 1, k, 20 * (k : Int), 0, s.extract (20 * k) (20 * k + 20)⟩ by unfold pieceD txtAt; rw [Nat.min_eq_right (by omega)])
        go_wp2_with (at_builtin; refine wpList_append_new rfl (.tmp 34) (.tmp 48) 23 rfl w1.heap.size 25 7 64 Try.underlying23 ti_Deed a' k cap' _ rfl HO.out 1 1 (Dd.cells ⟨1, 0, (k : Int) + 1, k, 20 * (k : Int), 0, (s.extract (20 * k) (20 * k + 20))⟩) rfl rfl (Dd.cells_one _) (by omega) hb.size ?_)
        intro a3 cap3 w3 hown3 hb3 hz3 hg3
        have HO3 := Lib.hid (show OwnRow w3 w1.heap.size 25 7 a3 (k + 1) cap3 (flatD (pieces s (k + 1))) by
          rw [HPS.out, flatD_append, HTX.out]; exact hown3)
        have hx3 := hb.trans hb3
        clear HO hown3 HPS hb3
        go_wp2
        exact ⟨⟨k + 1, a3, cap3, by go_num, by go_num, by omega, rfl, HO3, hx3, HJ2⟩, by simp [intOf]; omega⟩
    · have hltB : decide (((20 * k : Nat) : Int) < (s.size : Int)) = false := by simp; omega
      clear hinc hinc2 hdec
      obtain ⟨K, hK, hKs⟩ := meets_k at_ s.size hsz
      have HM := Lib.hid (meets_str s k (by omega) HJ.out K hKs sa sb (by omega))
      have HPL := Lib.hid (show pieces s k ++ twoD k K sa sb = pieces s k ++ [⟨1, 1, 1, k, K, 0, sa⟩, ⟨1, 2, 1, k, K, 0, sb⟩] from rfl)
      clear HJ
      go_wp2_with (at_builtin; refine wpList_append_new rfl (.tmp 58) (.tmp 67) 23 rfl w1.heap.size 25 7 64 Try.underlying23 ti_Deed a' k cap' _ rfl HO.out 2 2 (flatD [⟨1, 1, 1, k, K, 0, sa⟩, ⟨1, 2, 1, k, K, 0, sb⟩]) rfl rfl (flatD_one _) (by omega) hb.size ?_)
      intro a3 cap3 w3 hown3 hb3 hz3 hg3
      obtain ⟨DS, hDS⟩ : ∃ DS, DS = pieces s k ++ twoD k K sa sb := ⟨_, rfl⟩
      have hdl : DS.length = k + 2 := by rw [hDS]; simp [pieces_length, twoD]
      have hsD : SlDd w3 a3 cap3 DS := by
        have : OwnRow w3 w1.heap.size 25 7 a3 DS.length cap3 (flatD DS) := by rw [hdl, hDS, HPL.out, flatD_append]; exact hown3
        exact this.slDd
      have hokD : ∀ d ∈ DS, d.Text.size ≤ maxLen ∧ i64ok d.Many := by
        intro d hd
        rw [hDS] at hd
        have hx : ∀ n : Nat, n ≤ 100 → n ≤ maxLen := fun n hn => by unfold maxLen; omega
        rcases List.mem_append.1 hd with h | h
        · unfold pieces at h
          obtain ⟨j, _, rfl⟩ := List.mem_map.1 h
          exact ⟨hx _ (extract_size_le _ _ _ hsz), by unfold i64ok pieceD; simp⟩
        · unfold twoD at h
          simp at h
          rcases h with rfl | rfl
          · exact ⟨hx _ (by show sa.size ≤ 100; omega), by unfold i64ok; simp⟩
          · exact ⟨hx _ (by show sb.size ≤ 100; omega), by unfold i64ok; simp⟩
      have HDL := Lib.hid hdl
      have HOKD := Lib.hid hokD
      have HMM := Lib.hid (show _ from hDS ▸ HM.out)
      have hx3 := hb1.trans ((hb.trans hb3).mono hb1.size)
      clear hown3 hb hb3 hg3 HO HPL HM hdl hokD hz3
      have HDS := Lib.hid hDS; clear hDS
      obtain ⟨R, hR⟩ : ∃ R, allF DS = R := ⟨_, rfl⟩
      have HRR := Lib.hid hR
      have hRl := allF_len DS
      rw [hR] at hRl
      have HMM2 := Lib.hid (show (R.2 = (0, 0) ∧ strOfNums (textF R.1) = s.extract 0 K ++ sb ++ sa ++ s.extract K s.size) ∨ ∃ i, ∃ h : i < DS.length, deedFault DS[i] ≠ 0 ∧ R.2 = (deedFault DS[i], (i : Int)) from hR ▸ HMM.out)
      clear hR HMM
      go_wp2_with fail
      refine (All_n a3 cap3 DS _ HDL.out R HRR.out _ rfl _ hsD HOKD.out (by rw [HDL.out]; omega)).mono ?_
      rintro e w4 ⟨a4, cap4, rfl, ho4, hb4⟩
      have hx4 := hx3.trans (hb4.mono hx3.size)
      have hbf := (Below.refl w4.heap.size w4).alloc (Nat.le_refl _) (.cells #[.int .i64 R.2.1, .int .i64 R.2.2] 29)
      have hx5 := hx4.trans (hbf.mono hx4.size)
      have ht4 := ho4.slCh.below hbf
      have hsD4 := (hsD.below hb4).below hbf
      have g0 : (w4.alloc (.cells #[.int .i64 R.2.1, .int .i64 R.2.2] 29)).cell? ⟨w4.heap.size, 0, none⟩ = some (.int .i64 R.2.1) := by simp
      have g1 : (w4.alloc (.cells #[.int .i64 R.2.1, .int .i64 R.2.2] 29)).cell? ⟨w4.heap.size, 1, none⟩ = some (.int .i64 R.2.2) := by simp
      clear hx3 hb4 hbf hsD ho4 hx4
      obtain ⟨L, c, at0⟩ := R
      simp only at *
      go_upto_region 15 with fail
      generalize hw5 : w4.alloc (.cells #[.int .i64 c, .int .i64 at0] 29) = w5 at *
      clear hw5
      have G0 := Lib.hid g0; have G1 := Lib.hid g1
      have hL : ∀ q : Lt w5, Later w5 q.v := fun q => q.h
      rcases HMM2.out with ⟨hr, hs⟩ | ⟨i, hi, hf, hr⟩
      · have hc0 : c = 0 := congrArg Prod.fst hr
        have ha0 : at0 = 0 := congrArg Prod.snd hr
        subst hc0
        subst ha0
        generalize hT : strOfNums (textF L) = T at *
        have HTT := Lib.hid hT
        have HEQ := Lib.hid hs
        clear hs hr hT HMM2 g1
        have hKs1 : (K : Int) ≤ s.size := by omega
        go_upto_region 17 with fail
        refine wp_region_mix [] [0, 1, 2, 3, 4, 5, 6, 7, 8, 9, 10, 11, 12, 13, 14] (by kernel_rfl) (by kernel_rfl) ?_
        repeat (refine wpMix_step rfl (fun K hK => ?_); go_simp; first | (refine hK _ _ ?_; clear hK K) | (apply Exists.intro; refine ⟨?_, hK _ _ ?_⟩; (focus (intro p; first | (rw [if_neg (by omega)]; exact ⟨rfl, rfl⟩) | ((go_at_call 17; exact quietM p (Text_n a4 cap4 L _ rfl T HTT.out _ (ht4.below (hL p)) (by omega)))))); clear hK K))
        refine wpMix_nil ?_
        intro w8 hL8
        have HX := Lib.hid (hx5.trans (Below.mono hL8 hx5.size))
        go_wp2
        go_ret
        exact ⟨by rw [← HEQ.out]; simp, HX.out⟩
      · have hc0 : c = deedFault DS[i] := congrArg Prod.fst hr
        have ha0 : at0 = (i : Int) := congrArg Prod.snd hr
        subst ha0
        have hne : (c != 0) = true := by rw [hc0]; simpa using hf
        have HDC := Lib.hid hc0.symm
        have HDT := Lib.hid (HOKD.out DS[i] (List.getElem_mem hi)).1
        obtain ⟨bD, offD, haD, hcD⟩ := hsD4.nth hi
        subst haD
        have hid : decide ((i : Int) < (k : Int) + 2) = true := by have := HDL.out; simp; omega
        have hii : (i : Int) < (k : Int) + 2 := by have := HDL.out; omega
        have hin : i < k + 2 := by have := HDL.out; omega
        generalize DS[i] = D at *
        obtain ⟨q0, q1, q2, q3, q4, q5, q6⟩ := hcD
        have q0 := later_cell q0
        have q1 := later_cell q1
        have q2 := later_cell q2
        have q3 := later_cell q3
        have q4 := later_cell q4
        have q5 := later_cell q5
        have q6 := later_cell q6
        clear hf hr hc0 HMM2
        go_upto_region 16 with fail
        have g0 := later_cell g0
        have g1 := later_cell g1
        refine wp_region_mix [] [0, 1, 2, 3, 4, 5, 6, 7, 8, 9, 10, 11, 12, 13, 14, 15, 16, 17, 18, 19, 20, 21, 22, 23, 24, 25, 26] (by kernel_rfl) (by kernel_rfl) ?_
        repeat (refine wpMix_step rfl (fun K hK => ?_); go_simp; first | (refine hK _ _ ?_; clear hK K) | (apply Exists.intro; refine ⟨?_, hK _ _ ?_⟩; (focus (intro p; (go_at_call 16; exact quietM p (DCheck_b D c HDC.out _ HDT.out)))); clear hK K))
        refine wpMix_nil ?_
        intro w8 hL8
        have HX := Lib.hid (hx5.trans (Below.mono hL8 hx5.size))
        go_wp2
        go_ret
        exact ⟨rfl, HX.out⟩
end Go.Proofs.Ytneoeokfffnonab
