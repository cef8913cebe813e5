/- Slices that the call owns: the builtin copy into them, their spare room, append of zeros. No program in sight. -/
import Derived.Test.YtneoeokfffnonaaBase2
import Derived.Lib.AppendZerosOnto
import Derived.Laws.Append
import Derived.StillTailTactics
namespace Go.Proofs.Ytneoeokfffnonaa
open Go.RowKit

section
variable {P : Program} {w w' : World} {base : Nat} {e : TypeId} {size : Nat} {a : Option Addr} {n cap : Nat} {xs : List Value}

/-- The spare room of an owned row. -/
theorem OwnRow.widen (h : OwnRow w base e size a n cap xs) (m : Nat) (hm : n + m ≤ cap) : ∃ ys : List Value, ys.length = m * size ∧ OwnRow w base e size a (n + m) cap (xs ++ ys) := by
  have hx := h.len
  rcases h.own with h0 | ⟨g, off, cur, ha, hb, hg, hfit, ht⟩
  · obtain rfl : m = 0 := by omega
    exact ⟨[], by simp, ⟨hm, h.max, by simpa using hx, .inl h0⟩⟩
  · have hmul : n * size + m * size ≤ cap * size := by rw [← Nat.add_mul]; exact Nat.mul_le_mul_right _ hm
    refine ⟨((cur.toList.drop off).drop (n * size)).take (m * size), ?_, ⟨hm, h.max, ?_, .inr ⟨g, off, cur, ha, hb, hg, hfit, ?_⟩⟩⟩
    · simp only [List.length_take, List.length_drop, Array.length_toList]; omega
    · simp only [List.length_append, List.length_take, List.length_drop, Array.length_toList]; rw [Nat.add_mul]; omega
    · rw [Nat.add_mul, List.take_add, ht]

theorem run_copy_own (h : OwnRow w base e size a n cap xs) {g off : Nat} (ha : a = some ⟨g, off, none⟩) (c : Nat) (vs : List Value) (dT sT ty : TypeId) (hdT : P.underlying dT = some (.slice e)) (hsz : (P.info? e).map (·.size) = some size)
    (dLen dCap : Nat) (xa : Addr) (sLen sCap : Nat) (hn : vs.length = Nat.min sLen dLen * size) (hsrc : ∀ j v, vs[j]? = some v → w.cell? (xa.add j) = some v) (hc : c + vs.length ≤ xs.length) (h1 : ∀ v ∈ vs, v.oneCell' = true) (hp : 0 < xs.length) :
    ∃ w', (Builtin.copy_ #[dT, sT] ty #[.slice (some ⟨g, off + c, none⟩) dLen dCap, .slice (some xa) sLen sCap]).run P w = .ok (goInt (Nat.min sLen dLen)) w' ∧ OwnRow w' base e size a n cap (xs.take c ++ vs ++ xs.drop (c + vs.length)) ∧ w.grownBy w' (some g) := by
  obtain ⟨w', hr, h2, h3⟩ := own_store (P := P) h ha c vs hc h1 hp
  refine ⟨w', ?_, h2, h3⟩
  have hl := run_firstCells_some (P := P) w size (Nat.min sLen dLen) xa sLen sCap vs hn hsrc
  cases hq : P.info? e with
  | none => simp [hq] at hsz
  | some i =>
    have hi : i.size = size := by simpa [hq] using hsz
    simp only [Nat.min_def] at hl ⊢
    simp [Builtin.copy_, run_underlying hdT, Builtin.lenOf, sizeOf, typeInfo, hq, hi, Nat.min_def, hl, hr]

theorem wpList_copy_own {ops : Array Oper} {rest : List Oper} {o : Oper} {ac : Act} {Q : Exit → Act → World → Prop} (hgd : o.guard = none) (d s : Operand) (dT sT : TypeId)
    (ho : o.op = .call { callee := .builtin .copy, args := #[d, s], argTypes := #[dT, sT] }) (hdT : P.underlying dT = some (.slice e)) (hsz : (P.info? e).map (·.size) = some size)
    (h : OwnRow w base e size a n cap xs) {g off : Nat} (ha : a = some ⟨g, off, none⟩) (c : Nat) (vs : List Value) (od dLen dCap : Nat) (hd : ac.eval d = .slice (some ⟨g, od, none⟩) dLen dCap) (hod : od = off + c)
    (xa : Addr) (sLen sCap : Nat) (hs : ac.eval s = .slice (some xa) sLen sCap) (hn : vs.length = Nat.min sLen dLen * size) (hsrc : ∀ j v, vs[j]? = some v → w.cell? (xa.add j) = some v) (hc : c + vs.length ≤ xs.length)
    (h1 : ∀ v ∈ vs, v.oneCell' = true) (hp : 0 < xs.length)
    (hk : ∀ w', OwnRow w' base e size a n cap (xs.take c ++ vs ++ xs.drop (c + vs.length)) → w.grownBy w' (some g) → wpList P ops Q rest (ac.put o.dst (goInt (Nat.min sLen dLen))) w') : wpList P ops Q (o :: rest) ac w :=
  wpList_plain hgd fun _ hK => by
    subst hod
    obtain ⟨w', hr, h2, h3⟩ := run_copy_own (P := P) h ha c vs dT sT o.type hdT hsz dLen dCap xa sLen sCap hn hsrc hc h1 hp
    unfold Oper.wp execOp
    simp only [ho, resolve, invoke, builtin, Sem.run_bind, Sem.run_pure, Result.andThen_ok, List.map_toArray, List.map_cons, List.map_nil, hd, hs, hr]
    exact hK _ _ (hk w' h2 h3)

/-- append(s[:i], make([]T, k)...) where there is no room. -/
theorem run_append_zeros_row (w : World) (base : Nat) (t tn ty e : TypeId) (kn : IntKind) (size bytes : Nat) (ht : P.underlying t = some (.slice e)) (htn : P.underlying tn = some (.int kn)) (hE : TInfo P e size bytes) (hsz : 0 < size)
    (a : Option Addr) (i cap : Nat) (xs : List Value) (hown : OwnRow w base e size a i cap xs) (hi0 : 0 < xs.length ∨ i = 0) (k : Nat) (h0 : 0 < k) (hg : cap < i + k) (hbytes : (i + k) * bytes ≤ 140737488355328) :
    ∃ G zs w1, (Builtin.append_ #[t, tn] ty #[.slice a i cap, .int .i64 (k : Int)]).run P w = .ok (.slice (some ⟨w.heap.size, 0, none⟩) (i + k) G) w1 ∧
      OwnRow w1 w.heap.size e size (some ⟨w.heap.size, 0, none⟩) (i + k) G (xs ++ zs) ∧ zs.length = k * size ∧ Below w.heap.size w w1 := by
  obtain ⟨f, z, hi, hz, hsize, hby, hzs, hbp⟩ := hE
  have h63 : i + k ≤ maxLen := by
    have := Nat.le_mul_of_pos_right (i + k) hbp
    unfold maxLen; omega
  have hsmall : i + k ≤ 9223372036854775807 := by simp only [maxLen] at h63; omega
  subst hsize; subst hby
  have hold : (Builtin.firstCells f.size i (.slice a i cap)).run P w.drew = .ok xs.toArray w.drew := by
    rcases hown.own with hc0 | ⟨g, off, cur, ha, hb, hgg, hfit, htk⟩
    · have hz0 : i = 0 := by have := hown.le; omega
      subst hz0
      have hx : xs = [] := List.eq_nil_of_length_eq_zero (by simpa using hown.len)
      subst hx
      cases a <;> simp [Builtin.firstCells, loadCells, loadCellsFrom]
    · subst ha
      refine run_firstCells_some (P := P) w.drew f.size i _ i cap xs hown.len fun j v hj => ?_
      rcases hi0 with hp | hz0
      · obtain ⟨g', off', he, _, _, hcell⟩ := hown.cell hp
        cases he
        rw [Addr.add_lit]; exact hcell j v hj
      · have hx : xs = [] := List.eq_nil_of_length_eq_zero (by rw [hown.len, hz0]; simp)
        subst hx; simp at hj
  have hkb : k * f.bytes ≤ 281474976710656 := by
    have : k * f.bytes ≤ (i + k) * f.bytes := Nat.mul_le_mul_right _ (by omega)
    omega
  have hr := Lib.run_append_grow_zeros (P := P) w t tn ty e f z .i64 kn ht htn hi hz a i cap xs hold k h0 hsz hg (by omega) hkb (growslice_fits hg hbytes)
  refine ⟨_, (Builtin.zeroCells z.cells k).toList, _, hr, ?_, by rw [Array.length_toList, size_zeroCells, hzs], ⟨rfl, rfl, rfl, by simp, fun q hq => Below.heap_alloc w.drew _ q hq⟩⟩
  have hgr := grown_row w w.heap.size e z f.size hzs i k cap xs (Builtin.zeroCells z.cells k).toList hown.len (by rw [Array.length_toList, size_zeroCells, hzs]) h63 (Nat.le_refl _)
  simpa using hgr

theorem wpList_append_zeros {ops : Array Oper} {rest : List Oper} {o : Oper} {ac : Act} {Q : Exit → Act → World → Prop} (w : World) (hgd : o.guard = none) (s x : Operand) (t tn : TypeId) (kn : IntKind)
    (ho : o.op = .call { callee := .builtin .append, args := #[s, x], argTypes := #[t, tn] })
    (base : Nat) (e : TypeId) (size bytes : Nat) (ht : P.underlying t = some (.slice e)) (htn : P.underlying tn = some (.int kn)) (hE : TInfo P e size bytes) (hsz : 0 < size)
    (a : Option Addr) (i cap : Nat) (xs : List Value) (hs : ac.eval s = .slice a i cap) (hown : OwnRow w base e size a i cap xs) (hi0 : 0 < xs.length ∨ i = 0) (k : Nat) (hx : ac.eval x = .int .i64 (k : Int)) (h0 : 0 < k) (hg : cap < i + k) (hbytes : (i + k) * bytes ≤ 140737488355328)
    (hk : ∀ G zs w1, OwnRow w1 w.heap.size e size (some ⟨w.heap.size, 0, none⟩) (i + k) G (xs ++ zs) → zs.length = k * size → Below w.heap.size w w1 → w.heap.size < w1.heap.size → wpList P ops Q rest (ac.put o.dst (.slice (some ⟨w.heap.size, 0, none⟩) (i + k) G)) w1) : wpList P ops Q (o :: rest) ac w :=
  wpList_plain hgd fun _ hK => by
    obtain ⟨G, zs, w1, hr, h2, h3, h4⟩ := run_append_zeros_row (P := P) w base t tn o.type e kn size bytes ht htn hE hsz a i cap xs hown hi0 k h0 hg hbytes
    have hlt : w.heap.size < w1.heap.size := by
      rcases h2.own with hG0 | ⟨g, off, cur, ha, hb, hgg, _⟩
      · have := h2.le; omega
      · cases ha; exact (Array.getElem?_eq_some_iff.1 hgg).1
    unfold Oper.wp execOp
    simp only [ho, resolve, invoke, builtin, Sem.run_bind, Sem.run_pure, Result.andThen_ok, List.map_toArray, List.map_cons, List.map_nil, hs, hx, hr]
    exact hK _ _ (hk G zs w1 h2 h3 h4 hlt)

/-- append of new elements, as one step of a region that draws. -/
theorem step_append_new {wb : World} {ops : Array Oper} {o : Oper} {ac : Act} {K : Act → World → Prop} {Q : Exit → Act → World → Prop} {E : Prop} {e' : TypeId} (hgd : o.guard = none) (s x : Operand) (t : TypeId)
    (ho : o.op = .call { callee := .builtin .append, args := #[s, x], argTypes := #[t, t] })
    (base : Nat) (e : TypeId) (size bytes : Nat) (ht : P.underlying t = some (.slice e)) (hE : TInfo P e size bytes)
    (a : Option Addr) (n cap : Nat) (xs : List Value) (hs : ac.eval s = .slice a n cap) (hown : OwnRow wb base e size a n cap xs)
    (m c : Nat) (news : List Value) (hx : ac.eval x = .slice (some ⟨wb.heap.size, 0, none⟩) m c) (hl : news.length = m * size) (h1 : ∀ u ∈ news, u.oneCell' = true)
    (hbytes : (n + m) * bytes ≤ 140737488355328) (hbase : base ≤ wb.heap.size)
    (h : ∀ a' cap' w', OwnRow w' base e size a' (n + m) cap' (xs ++ news) → Below base wb w' → wb.heap.size < w'.heap.size → wb.grownBy w' (ownB a cap) → K (ac.put o.dst (.slice a' (n + m) cap')) w') :
    if Region.wanted o (yielded ops ac.tmps) = true then Oper.wp P o ac (wb.alloc (.cells news.toArray e')) K Q else E := by
  have hw : Region.wanted o (yielded ops ac.tmps) = true := by simp [Region.wanted, hgd]
  rw [if_pos hw]
  obtain ⟨i, z, hi, hz, hsize, hby, hzs, hbp⟩ := hE
  have h63 : n + m ≤ maxLen := by
    have := Nat.le_mul_of_pos_right (n + m) hbp
    unfold maxLen; omega
  have hown' : OwnRow (wb.alloc (.cells news.toArray e')) base e size a n cap xs := hown.alloc _
  obtain ⟨a', cap', w', hr, h2, h3, h4⟩ := run_append_row (P := P) (wb.alloc (.cells news.toArray e')) base t o.type e i z size bytes ht hi hz hsize hby hzs a n cap xs hown' (some ⟨wb.heap.size, 0, none⟩) m c news hl
    (.inr ⟨_, rfl, fun j u hu => by rw [Addr.add_lit, Nat.zero_add, World.cell?_alloc_new]; simpa using hu⟩) h1 h63 hbytes (by simp; omega)
  unfold Oper.wp execOp
  simp only [ho, resolve, invoke, builtin, Sem.run_bind, Sem.run_pure, Result.andThen_ok, List.map_toArray, List.map_cons, List.map_nil, hs, hx, hr]
  exact h a' cap' w' h2 (((Below.refl _ _).alloc hbase _).grown h3 (by simp; omega) fun k hk => (hown.base_le k hk).1) (by have := h3.size; simp at this; omega)
    ⟨h3.os, h3.tape, h3.output, by have := h3.size; simp at this; omega, fun k hk hne => (h3.block k (by simp; omega) hne).trans (Below.heap_alloc _ _ _ hk)⟩
end
end Go.Proofs.Ytneoeokfffnonaa
