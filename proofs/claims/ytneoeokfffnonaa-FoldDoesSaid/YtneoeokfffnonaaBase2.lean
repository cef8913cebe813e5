/- Slices that the call owns: a store into them, clear, a piece of them. No program in sight. -/
import Derived.Test.YtneoeokfffnonaaBase
namespace Go.Proofs.Ytneoeokfffnonaa
open Go.RowKit

section
variable {P : Program} {w w' : World} {base : Nat} {e : TypeId} {size : Nat} {a : Option Addr} {n cap : Nat} {xs : List Value}

theorem splice_len {α : Type} (xs vs : List α) (c : Nat) (h : c + vs.length ≤ xs.length) : (xs.take c ++ vs ++ xs.drop (c + vs.length)).length = xs.length := by
  simp only [List.length_append, List.length_take, List.length_drop]; omega

theorem own_store (h : OwnRow w base e size a n cap xs) {g off : Nat} (ha : a = some ⟨g, off, none⟩) (c : Nat) (vs : List Value) (hc : c + vs.length ≤ xs.length) (h1 : ∀ v ∈ vs, v.oneCell' = true) (hp : 0 < xs.length) :
    ∃ w', (storeCells ⟨g, off + c, none⟩ vs 0).run P w = .ok () w' ∧ OwnRow w' base e size a n cap (xs.take c ++ vs ++ xs.drop (c + vs.length)) ∧ w.grownBy w' (some g) := by
  have hx := h.len
  have hle := h.le
  rcases h.own with h0 | ⟨g', off', cur, hb, hbg, hg, hfit, htake⟩
  · subst h0; obtain rfl : n = 0 := by omega
    rw [hx] at hp; omega
  · rw [ha] at hb; cases hb
    have hn : n * size ≤ cap * size := Nat.mul_le_mul_right _ hle
    have hst := run_storeCells_at P g (off + c) e vs 0 cur w hg (by omega) h1
    simp only [Nat.add_zero] at hst
    refine ⟨_, hst, ⟨hle, h.max, (splice_len xs vs c hc).trans hx, .inr ⟨g, off, _, ha, hbg, setRow_heap w g cur _ e _ hg, ?_, ?_⟩⟩, ⟨rfl, rfl, rfl, by simp, fun k _ hk => setRow_other w g k _ (fun e => hk (by rw [e]))⟩⟩
    · simp only [List.size_toArray, List.length_append, List.length_take, List.length_drop, Array.length_toList]
      omega
    · have hcl : cur.toList.length = cur.size := by simp
      generalize hcur : cur.toList = C at *
      have e1 : C.take (off + c) = C.take off ++ (C.drop off).take c := by rw [List.take_add]
      have e2 : (C.take off).length = off := by rw [List.length_take]; omega
      have e3 : (C.drop off).take c = xs.take c := by rw [← htake, List.take_take]; congr 1; omega
      have e4 : List.drop off (C.take (off + c) ++ vs ++ C.drop (off + c + vs.length)) = xs.take c ++ vs ++ C.drop (off + c + vs.length) := by
        rw [e1, e3, List.append_assoc, List.append_assoc, List.drop_append_of_le_length (by omega), List.drop_of_length_le (by omega), List.nil_append, List.append_assoc]
      show List.take (n * size) (List.drop off (C.take (off + c) ++ vs ++ C.drop (off + c + vs.length))) = _
      rw [e4]
      have e5 : xs.drop (c + vs.length) = (C.drop (off + c + vs.length)).take (n * size - (c + vs.length)) := by
        rw [← htake, List.drop_take, List.drop_drop]; congr 2; omega
      rw [e5]
      have e6 : (xs.take c ++ vs).length = c + vs.length := by simp only [List.length_append, List.length_take]; omega
      rw [List.take_append, List.take_of_length_le (by omega), e6]

theorem OwnRow.take (h : OwnRow w base e size a n cap xs) (m : Nat) (hm : m ≤ n) : OwnRow w base e size a m cap (xs.take (m * size)) := by
  have hx := h.len
  have hmn : m * size ≤ n * size := Nat.mul_le_mul_right _ hm
  refine ⟨Nat.le_trans hm h.le, h.max, by rw [List.length_take]; omega, ?_⟩
  rcases h.own with h0 | ⟨g, off, cur, ha, hb, hg, hfit, ht⟩
  · exact .inl h0
  · exact .inr ⟨g, off, cur, ha, hb, hg, hfit, by rw [← ht, List.take_take]; congr 1; omega⟩

theorem grownBy_trans {a b c : World} {r : Option Nat} (h : a.grownBy b r) (k : b.grownBy c r) : a.grownBy c r :=
  ⟨k.os.trans h.os, k.tape.trans h.tape, k.output.trans h.output, Nat.le_trans h.size k.size, fun i hi hr => (k.block i (Nat.lt_of_lt_of_le hi h.size) hr).trans (h.block i hi hr)⟩

theorem grownBy_refl (w : World) (r : Option Nat) : w.grownBy w r := ⟨rfl, rfl, rfl, Nat.le_refl _, fun _ _ _ => rfl⟩

theorem grownBy_below {w w' : World} (h : Below w.heap.size w w') (r : Option Nat) : w.grownBy w' r := ⟨h.os, h.tape, h.output, h.size, fun k hk _ => h.block k hk⟩

theorem below_grownBy {w w' : World} {r : Option Nat} {B : Nat} (h : w.grownBy w' r) (hB : B ≤ w.heap.size) (hr : ∀ k, r = some k → B ≤ k) : Below B w w' :=
  ⟨h.os, h.tape, h.output, h.size, fun k hk => h.block k (by omega) (fun e => by have := hr k e.symm; omega)⟩

/-- A store of a whole value into an owned row. -/
theorem wpList_store_own {ops : Array Oper} {rest : List Oper} {o : Oper} {ac : Act} {Q : Exit → Act → World → Prop} (hgd : o.guard = none) (ty : TypeId) (x y : Operand) (ho : o.op = .store ty x y)
    (h : OwnRow w base e size a n cap xs) {g off : Nat} (ha : a = some ⟨g, off, none⟩) (c : Nat) (vs : List Value) (hx : ac.eval x = .pointer (some ⟨g, off + c, none⟩)) (hy : ac.eval y = .agg vs.toArray)
    (hi : (P.info? ty).map (·.size) = some vs.length) (hc : c + vs.length ≤ xs.length) (h1 : ∀ v ∈ vs, v.oneCell' = true) (hp : 0 < xs.length)
    (hk : ∀ w', OwnRow w' base e size a n cap (xs.take c ++ vs ++ xs.drop (c + vs.length)) → w.grownBy w' (some g) → wpList P ops Q rest (ac.put o.dst undef) w') : wpList P ops Q (o :: rest) ac w :=
  wpList_plain hgd fun _ hK => by
    obtain ⟨w', hr, h2, h3⟩ := own_store (P := P) h ha c vs hc h1 hp
    have hs : (storeVar ty ⟨g, off + c, none⟩ (.agg vs.toArray)).run P w = .ok () w' := by
      cases hq : P.info? ty with
      | none => simp [hq] at hi
      | some i =>
        have hs : vs.length = i.size := by simp [hq] at hi; omega
        simp [storeVar, sizeOf, typeInfo, hq, Value.cells, hs, hr]
    unfold Oper.wp execOp
    simp only [ho, hx, hy, Instr.storeAt, Instr.sureAddr, Sem.run_bind, Sem.run_pure, Result.andThen_ok, hs]
    exact hK _ _ (hk w' h2 h3)

/-- clear(s) of a piece of an owned row that holds something. -/
theorem wpList_clear_own {ops : Array Oper} {rest : List Oper} {o : Oper} {ac : Act} {Q : Exit → Act → World → Prop} (hgd : o.guard = none) (s : Operand) (t : TypeId)
    (ho : o.op = .call { callee := .builtin .clear, args := #[s], argTypes := #[t] }) (ht : P.underlying t = some (.slice e))
    (i : TypeInfo) (z : Value) (hi : P.info? e = some i) (hz : i.zero = some z) (hzs : z.cells.size = size) (hz1 : ∀ v ∈ z.cells, v.oneCell' = true) (hsz : 0 < size)
    (h : OwnRow w base e size a n cap xs) {g off : Nat} (ha : a = some ⟨g, off, none⟩) (k m c : Nat) (hs : ac.eval s = .slice (some ⟨g, off + k * size, none⟩) m c) (hm : 0 < m) (hkm : k + m ≤ n)
    (hk : ∀ w' ys, OwnRow w' base e size a n cap (xs.take (k * size) ++ ys) → w.grownBy w' (some g) → wpList P ops Q rest (ac.put o.dst (.tuple #[])) w') : wpList P ops Q (o :: rest) ac w :=
  wpList_plain hgd fun _ hK => by
    have hlen : (Builtin.zeroCells z.cells m).toList.length = m * size := by rw [Array.length_toList, size_zeroCells, hzs]
    have hx := h.len
    have hkn : k * size + m * size ≤ n * size := by rw [← Nat.add_mul]; exact Nat.mul_le_mul_right _ hkm
    have hms : 0 < m * size := Nat.mul_pos hm hsz
    obtain ⟨w', hr, h2, h3⟩ := own_store (P := P) h ha (k * size) (Builtin.zeroCells z.cells m).toList (by omega) (fun v hv => by
      simp only [Builtin.zeroCells, Array.toList_map, List.mem_map] at hv
      obtain ⟨j, _, rfl⟩ := hv
      have hj : j % z.cells.size < z.cells.size := Nat.mod_lt _ (by omega)
      rw [getElem!_pos z.cells _ hj]
      exact hz1 _ (Array.getElem_mem hj)) (by omega)
    have hm0 : m ≠ 0 := by omega
    obtain ⟨m', rfl⟩ : ∃ m', m = m' + 1 := ⟨m - 1, by omega⟩
    unfold Oper.wp execOp
    simp only [ho, resolve, invoke, builtin, Sem.run_bind, Sem.run_pure, Result.andThen_ok, List.map_toArray, List.map_cons, List.map_nil, hs]
    have hcl : (Builtin.clear_ #[t] o.type #[.slice (some ⟨g, off + k * size, none⟩) (m' + 1) c]).run P w = .ok (.tuple #[]) w' := by
      simp [Builtin.clear_, run_underlying ht, zeroValue, typeInfo, hi, hz, hr]
    rw [hcl]
    rw [List.append_assoc] at h2
    exact hK _ _ (hk w' _ h2 h3)
end

theorem flat_take (l : List Ch) (i : Nat) : (flat l).take (i * 7) = flat (l.take i) := by
  induction l generalizing i with
  | nil => simp [flat]
  | cons c l ih =>
    cases i with
    | zero => simp [flat]
    | succ i =>
      rw [flat_cons, List.take_succ_cons, flat_cons, show (i + 1) * 7 = c.cells.length + i * 7 by simp; omega, List.take_length_add_append, ih]

theorem flat_drop (l : List Ch) (i : Nat) : (flat l).drop (i * 7) = flat (l.drop i) := by
  induction l generalizing i with
  | nil => simp [flat]
  | cons c l ih =>
    cases i with
    | zero => simp [flat]
    | succ i =>
      rw [flat_cons, List.drop_succ_cons, show (i + 1) * 7 = c.cells.length + i * 7 by simp; omega, List.drop_length_add_append, ih]

theorem flat_set (l : List Ch) (i : Nat) (x : Ch) (h : i < l.length) : flat (l.set i x) = (flat l).take (i * 7) ++ x.cells ++ (flat l).drop (i * 7 + x.cells.length) := by
  rw [show i * 7 + x.cells.length = (i + 1) * 7 by simp; omega, flat_take, flat_drop, List.set_eq_take_append_cons_drop, if_pos h, flat_append, flat_cons, List.append_assoc]
end Go.Proofs.Ytneoeokfffnonaa
