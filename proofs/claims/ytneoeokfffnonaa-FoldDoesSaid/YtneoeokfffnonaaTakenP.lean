/- What fold.taken and the loop of fold.Do compute. No program in sight. -/
import Derived.Test.YtneoeokfffnonaaFoldL
import Derived.Test.YtneoeokfffnonaaBase3
namespace Go.Proofs.Ytneoeokfffnonaa
open Go.RowKit

theorem bits_or_add (g p : Int) (h : bits .and .i64 g p = 0) (hr : -9223372036854775808 ≤ g + p ∧ g + p < 9223372036854775808) : bits .or .i64 g p = g + p := by
  have h1 : IntKind.i64.wrap ((BitVec.ofInt 64 g &&& BitVec.ofInt 64 p).toNat : Int) = 0 := h
  have hz : (BitVec.ofInt 64 g &&& BitVec.ofInt 64 p) = 0#64 := by
    have hl := (BitVec.ofInt 64 g &&& BitVec.ofInt 64 p).isLt
    generalize (BitVec.ofInt 64 g &&& BitVec.ofInt 64 p) = x at *
    rw [IntKind.wrap_i64] at h1
    apply BitVec.eq_of_toNat_eq
    show x.toNat = 0
    omega
  have ho := BitVec.add_eq_or_of_and_eq_zero _ _ hz
  show IntKind.i64.wrap ((BitVec.ofInt 64 g ||| BitVec.ofInt 64 p).toNat : Int) = _
  rw [← ho, ← BitVec.ofInt_add, BitVec.toNat_ofInt]
  generalize g + p = q at *
  have e : ((q % ((2 ^ 64 : Nat) : Int)).toNat : Int) = q % 18446744073709551616 := by
    have : ((2 ^ 64 : Nat) : Int) = 18446744073709551616 := by decide
    rw [this, Int.toNat_of_nonneg (Int.emod_nonneg _ (by decide))]
  rw [e, IntKind.wrap_i64]
  omega

theorem gone_or (g b : Int) (hb : isWriter b = true) (h : took g b = false) (hg : i64ok g) : bits .or .i64 g (bitOf b) = g + bitOf b := by
  have h0 : bits .and .i64 g (bitOf b) = 0 := by
    unfold took at h; simpa using h
  refine bits_or_add g _ h0 ?_
  unfold i64ok at hg
  rcases isWriter_cases hb with rfl | rfl | rfl | rfl
  · rw [took_0] at h; simp [bitOf] at *; omega
  · rw [took_1] at h; simp [bitOf] at *; omega
  · rw [took_2] at h; simp [bitOf] at *; omega
  · rw [took_3] at h; simp [bitOf] at *; omega

def cntTo (l : List Ch) (d : Dd) (i : Nat) : Nat := (vis d.Seen d.By (l.take i)).length
def isTaken (l : List Ch) (d : Dd) (i : Nat) : Bool := match l[i]? with
  | none => false
  | some c => c.sees d.Seen d.By && (decide (d.At ≤ cntTo l d i) && decide ((cntTo l d i : Int) < d.At + d.Many))
def takenTo (l : List Ch) (d : Dd) (k : Nat) : List Nat := (List.range k).filter (isTaken l d)

theorem takenTo_snoc (l : List Ch) (d : Dd) (k : Nat) : takenTo l d (k + 1) = takenTo l d k ++ if isTaken l d k then [k] else [] := by
  unfold takenTo
  rw [List.range_succ, List.filter_append]
  cases h : isTaken l d k <;> simp [h]
theorem cntTo_snoc (l : List Ch) (d : Dd) (k : Nat) (h : k < l.length) : cntTo l d (k + 1) = cntTo l d k + if l[k].sees d.Seen d.By then 1 else 0 := by
  unfold cntTo
  rw [vis_snoc _ _ _ _ h]; split <;> simp
theorem isTaken_at (l : List Ch) (d : Dd) (k : Nat) (h : k < l.length) : isTaken l d k = (l[k].sees d.Seen d.By && (decide (d.At ≤ cntTo l d k) && decide ((cntTo l d k : Int) < d.At + d.Many))) := by
  unfold isTaken; rw [List.getElem?_eq_getElem h]
theorem cntTo_le (l : List Ch) (d : Dd) (k : Nat) : cntTo l d k ≤ k := Nat.le_trans (vis_le ..) (by simp; omega)
theorem takenTo_le (l : List Ch) (d : Dd) (k : Nat) : (takenTo l d k).length ≤ k := by
  have := List.length_filter_le (isTaken l d) (List.range k); simpa [takenTo] using this

def idxV (l : List Nat) : List Value := l.map fun (i : Nat) => .int .i64 (i : Int)

/-- The list of the first j of T marked. -/
def marked (l : List Ch) (d : Dd) (number : Int) (T : List Nat) (j : Nat) : List Ch := l.mapIdx fun i c => if (T.take j).contains i then mark d.By number c else c

theorem marked_length (l : List Ch) (d : Dd) (n : Int) (T : List Nat) (j : Nat) : (marked l d n T j).length = l.length := by simp [marked]
theorem marked_zero (l : List Ch) (d : Dd) (n : Int) (T : List Nat) : marked l d n T 0 = l := by
  unfold marked; apply List.ext_getElem (by simp); intro i h1 h2; simp
theorem marked_get (l : List Ch) (d : Dd) (n : Int) (T : List Nat) (j i : Nat) (h : i < l.length) : (marked l d n T j)[i]? = some (if (T.take j).contains i then mark d.By n l[i] else l[i]) := by
  unfold marked; rw [List.getElem?_mapIdx, List.getElem?_eq_getElem h]; rfl

theorem take_not_mem {T : List Nat} (hT : T.Nodup) (j : Nat) (h : j < T.length) : (T.take j).contains T[j] = false := by
  rw [List.contains_eq_mem, decide_eq_false_iff_not]
  intro hm
  obtain ⟨i, hi, he⟩ := List.getElem_of_mem hm
  rw [List.length_take] at hi
  rw [List.getElem_take] at he
  exact (List.pairwise_iff_getElem.1 hT) i j (by omega) h (by omega) he

theorem marked_step (l : List Ch) (d : Dd) (n : Int) (T : List Nat) (hT : T.Nodup) (j : Nat) (h : j < T.length) (hl : T[j] < l.length) :
    marked l d n T (j + 1) = (marked l d n T j).set T[j] (mark d.By n l[T[j]]) ∧ (marked l d n T j)[T[j]]? = some l[T[j]] := by
  have hn := take_not_mem hT j h
  constructor
  · apply List.ext_getElem?
    intro i
    rw [List.getElem?_set]
    by_cases hi : i < l.length
    · rw [marked_get _ _ _ _ _ _ hi, marked_get _ _ _ _ _ _ hi, List.take_succ_eq_append_getElem h]
      by_cases he : T[j] = i
      · subst he
        have e1 : (T.take j ++ [T[j]]).contains T[j] = true := by rw [List.contains_eq_mem, decide_eq_true_eq, List.mem_append]; exact .inr (List.mem_singleton.2 rfl)
        rw [e1, marked_length]
        simp [hi]
      · rw [if_neg he]
        have : (T.take j ++ [T[j]]).contains i = (T.take j).contains i := by
          rw [List.contains_append]; simp; intro h; exact absurd h.symm he
        rw [this]
    · rw [List.getElem?_eq_none (by rw [marked_length]; omega)]
      rw [List.getElem?_eq_none (by rw [marked_length]; omega)]
      split
      · split
        · rename_i h1 h2; rw [marked_length] at h2; omega
        · rfl
      · rfl
  · rw [marked_get _ _ _ _ _ _ hl, hn]; rfl

theorem takenTo_nodup (l : List Ch) (d : Dd) (k : Nat) : (takenTo l d k).Nodup := List.Pairwise.filter _ List.nodup_range

theorem marked_all (l : List Ch) (d : Dd) (n : Int) : marked l d n (takenTo l d l.length) (takenTo l d l.length).length = takeGo d.Seen d.By d.At (d.At + d.Many) n l 0 := by
  apply List.ext_getElem?
  intro i
  rw [takeGo_get]
  by_cases hi : i < l.length
  · rw [marked_get _ _ _ _ _ _ hi, List.getElem?_eq_getElem hi, List.take_length]
    simp only [Option.map_some, Option.some.injEq]
    have e : (takenTo l d l.length).contains i = isTaken l d i := by
      unfold takenTo
      rw [List.contains_eq_mem, Bool.eq_iff_iff, decide_eq_true_eq, List.mem_filter, List.mem_range]
      exact ⟨fun h => h.2, fun h => ⟨hi, h⟩⟩
    rw [e, isTaken_at l d i hi]
    unfold cntTo
    simp only [Bool.and_eq_true, decide_eq_true_eq, Int.zero_add]
  · rw [List.getElem?_eq_none (by rw [marked_length]; omega), List.getElem?_eq_none (show l.length ≤ i by omega)]; rfl

theorem takenTo_mem {l : List Ch} {d : Dd} {k j : Nat} (h : j < (takenTo l d k).length) : (takenTo l d k)[j] < k ∧ isTaken l d (takenTo l d k)[j] = true := by
  have := List.getElem_mem h
  unfold takenTo at this ⊢
  rw [List.mem_filter, List.mem_range] at this
  exact this

section
variable {P : Program} {w : World} {base : Nat} {e : TypeId} {size : Nat} {a : Option Addr} {n cap : Nat} {xs : List Value}
/-- A store of one cell into an owned row. -/
theorem wpList_store_own1 {ops : Array Oper} {rest : List Oper} {o : Oper} {ac : Act} {Q : Exit → Act → World → Prop} (hgd : o.guard = none) (ty : TypeId) (x y : Operand) (ho : o.op = .store ty x y)
    (h : OwnRow w base e size a n cap xs) {g off : Nat} (ha : a = some ⟨g, off, none⟩) (c : Nat) (v : Value) (od : Nat) (hx : ac.eval x = .pointer (some ⟨g, od, none⟩)) (hod : od = off + c) (hy : ac.eval y = v) (hcells : v.cells = #[v])
    (hi : (P.info? ty).map (·.size) = some 1) (hc : c < xs.length) (h1 : v.oneCell' = true)
    (hk : ∀ w', OwnRow w' base e size a n cap (xs.set c v) → w.grownBy w' (some g) → wpList P ops Q rest (ac.put o.dst undef) w') : wpList P ops Q (o :: rest) ac w :=
  wpList_plain hgd fun _ hK => by
    subst hod
    obtain ⟨w', hr, h2, h3⟩ := own_store (P := P) h ha c [v] (by simp; omega) (one1 h1) (by omega)
    have hs : (storeVar ty ⟨g, off + c, none⟩ v).run P w = .ok () w' := by
      cases hq : P.info? ty with
      | none => simp [hq] at hi
      | some i =>
        have hs : i.size = 1 := by simpa [hq] using hi
        simp [storeVar, sizeOf, typeInfo, hq, hcells, hs, hr]
    have e2 : xs.take c ++ [v] ++ xs.drop (c + [v].length) = xs.set c v := by
      rw [List.set_eq_take_append_cons_drop, if_pos hc]; simp
    rw [e2] at h2
    unfold Oper.wp execOp
    simp only [ho, hx, hy, Instr.storeAt, Instr.sureAddr, Sem.run_bind, Sem.run_pure, Result.andThen_ok, hs]
    exact hK _ _ (hk w' h2 h3)
end

theorem flat_set_cell (l : List Ch) (i j : Nat) (h : i < l.length) (hj : j < 7) (v : Value) (x : Ch) (hx : x.cells = l[i].cells.set j v) : (flat l).set (i * 7 + j) v = flat (l.set i x) := by
  rw [flat_set l i x h, hx]
  have hl := flat_length l
  have e1 : (flat l).take (i * 7) ++ l[i].cells ++ (flat l).drop (i * 7 + 7) = flat l := by
    have := flat_set l i l[i] h
    rw [List.set_getElem_self] at this
    simpa using this.symm
  conv => lhs; rw [← e1]
  have e2 : ((flat l).take (i * 7)).length = i * 7 := by rw [List.length_take]; omega
  rw [List.append_assoc, List.set_append_right _ _ (by omega), e2, show i * 7 + j - i * 7 = j by omega, List.set_append_left _ _ (by simp; omega)]
  simp
end Go.Proofs.Ytneoeokfffnonaa
