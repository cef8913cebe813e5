/- Strings and the numbers of their bytes. No program in sight. -/
import Derived.Test.YtneoeokfffnonabFoldP
namespace Go.Proofs.Ytneoeokfffnonab
open Go.RowKit

theorem ba_ext {a b : ByteArray} (h : a.data.toList = b.data.toList) : a = b := by
  cases a; cases b; congr 1; exact Array.toList_inj.1 h
theorem strOfNums_list (xs : List Int) : (strOfNums xs).data.toList = xs.map (fun n => UInt8.ofNat n.toNat) := by
  unfold strOfNums; simp
theorem strOfNums_bytes (s : ByteArray) : strOfNums (bytesOf s) = s := by
  apply ba_ext
  rw [strOfNums_list]; unfold bytesOf
  rw [List.map_map]
  conv => rhs; rw [← List.map_id s.data.toList]
  apply List.map_congr_left
  intro u _; simp
theorem strOfNums_extract (V : List Int) (i j : Nat) : (strOfNums V).extract i j = strOfNums ((V.take j).drop i) := by
  apply ba_ext
  rw [strOfNums_list, ByteArray.data_extract, Array.toList_extract, strOfNums_list]
  simp [List.map_drop, List.map_take, List.drop_take]
theorem splice_str (V : List Int) (k : Nat) (t : ByteArray) : strOfNums (V.take k ++ bytesOf t ++ V.drop k) = (strOfNums V).extract 0 k ++ t ++ (strOfNums V).extract k V.length := by
  rw [strOfNums_extract, strOfNums_extract, List.drop_zero, List.take_length, ← strOfNums_append, ← strOfNums_append, strOfNums_bytes]
theorem cut_str (V : List Int) (k j : Nat) : strOfNums (V.take k ++ V.drop j) = (strOfNums V).extract 0 k ++ (strOfNums V).extract j V.length := by
  rw [strOfNums_extract, strOfNums_extract, List.drop_zero, List.take_length, ← strOfNums_append]
end Go.Proofs.Ytneoeokfffnonab
