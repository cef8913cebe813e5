/- Base for the proofs of this seat: structs as plain data, slices that are read, slices that the call owns, a general law for append. No program in sight. -/
import Derived.WalkKit
import Derived.Lib.Hide
import Derived.BigQuiet
import Derived.Deep.QuietTactic
import Derived.Deep.Quiet
import Derived.WalkLawsBesides
namespace Go.Proofs.Ytneoeokfffnonaa
open Go.RowKit

/-- A byte of a text, as plain data. -/
structure Ch where
  (C By No K In Out Gone : Int)
  deriving DecidableEq

def Ch.cells (c : Ch) : List Value := [.int .u8 c.C, .int .i64 c.By, .int .i64 c.No, .int .i64 c.K, .int .i64 c.In, .int .i64 c.Out, .int .i64 c.Gone]

/-- The seven cells of a byte lie at block b from o on. -/
def ChAt (w : World) (b o : Nat) (c : Ch) : Prop :=
  w.cell? ⟨b, o, none⟩ = some (.int .u8 c.C) ∧ w.cell? ⟨b, o + 1, none⟩ = some (.int .i64 c.By) ∧ w.cell? ⟨b, o + 2, none⟩ = some (.int .i64 c.No) ∧
  w.cell? ⟨b, o + 3, none⟩ = some (.int .i64 c.K) ∧ w.cell? ⟨b, o + 4, none⟩ = some (.int .i64 c.In) ∧ w.cell? ⟨b, o + 5, none⟩ = some (.int .i64 c.Out) ∧
  w.cell? ⟨b, o + 6, none⟩ = some (.int .i64 c.Gone)

/-- The slice value '.slice a l.length cap' reads as l. -/
def SlCh (w : World) (a : Option Addr) (cap : Nat) (l : List Ch) : Prop :=
  l.length ≤ cap ∧ cap ≤ maxLen ∧ ∀ i (h : i < l.length), ∃ b off, a = some ⟨b, off, none⟩ ∧ ChAt w b (off + i * 7) l[i]

theorem bcell {W w1 : World} (hb : Below W.heap.size W w1) : (∀ b o, b < W.heap.size → w1.cell? ⟨b, o, none⟩ = W.cell? ⟨b, o, none⟩) ∧ (∀ b o, b < W.heap.size → w1.frozen? ⟨b, o, none⟩ = W.frozen? ⟨b, o, none⟩) :=
  ⟨fun b o h => hb.cell (p := ⟨b, o, none⟩) h, fun b o h => hb.frozen (p := ⟨b, o, none⟩) h⟩
theorem bl_drewN {B : Nat} {w w' : World} (h : Below B w w') (n : Nat) : Below B w (w'.drewN n) := h.trans ⟨rfl, rfl, rfl, Nat.le_refl _, fun _ _ => rfl⟩

theorem ChAt.lt {w : World} {b o : Nat} {c : Ch} (h : ChAt w b o c) : b < w.heap.size := World.block_lt_of_cell? _ _ h.1

theorem ChAt.of_block {w w' : World} {b o : Nat} {c : Ch} (h : ChAt w b o c) (hb : w'.heap[b]? = w.heap[b]?) : ChAt w' b o c := by
  have k : ∀ o, w'.cell? ⟨b, o, none⟩ = w.cell? ⟨b, o, none⟩ := fun o => World.cell?_of_block (w := w) hb
  unfold ChAt at *
  simp only [k]; exact h

theorem ChAt.below {w w' : World} {b o : Nat} {c : Ch} (h : ChAt w b o c) {B : Nat} (hb : Below B w w') (hB : b < B) : ChAt w' b o c :=
  h.of_block (hb.block b hB)

theorem SlCh.nth {w : World} {a : Option Addr} {cap : Nat} {l : List Ch} (h : SlCh w a cap l) {k : Nat} (hk : k < l.length) :
    ∃ b off, a = some ⟨b, off, none⟩ ∧ ChAt w b (off + k * 7) l[k] := h.2.2 k hk

/-- All cells that the slice reads lie below B. -/
theorem SlCh.below {w w' : World} {a : Option Addr} {cap : Nat} {l : List Ch} (h : SlCh w a cap l) (hb : Below w.heap.size w w') : SlCh w' a cap l := by
  refine ⟨h.1, h.2.1, fun i hi => ?_⟩
  obtain ⟨b, off, ha, hc⟩ := h.2.2 i hi
  exact ⟨b, off, ha, hc.below hb hc.lt⟩



theorem SlCh.of_block {w w' : World} {a : Option Addr} {cap : Nat} {l : List Ch} (h : SlCh w a cap l) (hb : ∀ ad, a = some ad → ad.block < w.heap.size → w'.heap[ad.block]? = w.heap[ad.block]?) : SlCh w' a cap l := by
  refine ⟨h.1, h.2.1, fun i hi => ?_⟩
  obtain ⟨b, off, ha, hc⟩ := h.2.2 i hi
  exact ⟨b, off, ha, hc.of_block (hb _ ha hc.lt)⟩

theorem SlCh.nil (w : World) : SlCh w none 0 [] := ⟨by simp, by simp, fun i h => by simp at h⟩

theorem SlCh.take {w : World} {a : Option Addr} {cap : Nat} {l : List Ch} (h : SlCh w a cap l) (k : Nat) : SlCh w a cap (l.take k) := by
  refine ⟨by have := h.1; simp; omega, h.2.1, fun i hi => ?_⟩
  have hi' : i < l.length := by simp at hi; omega
  obtain ⟨b, off, ha, hc⟩ := h.2.2 i hi'
  exact ⟨b, off, ha, by simpa using hc⟩

/-- A slice that the call owns: a row in a block of its own (from 'base' on), not frozen; or one without room. -/
structure OwnRow (w : World) (base : Nat) (e : TypeId) (size : Nat) (a : Option Addr) (n cap : Nat) (xs : List Value) : Prop where
  le : n ≤ cap
  max : cap ≤ maxLen
  len : xs.length = n * size
  own : cap = 0 ∨ ∃ g off cur, a = some ⟨g, off, none⟩ ∧ base ≤ g ∧ w.heap[g]? = some (.cells cur e (0, 0)) ∧ off + cap * size ≤ cur.size ∧ (cur.toList.drop off).take (n * size) = xs

def ownB (a : Option Addr) (cap : Nat) : Option Nat := if cap = 0 then none else a.map (·.block)

section
variable {w w' : World} {base : Nat} {e : TypeId} {size : Nat} {a : Option Addr} {n cap : Nat} {xs : List Value}

theorem OwnRow.nil (w : World) (base : Nat) (e : TypeId) (size : Nat) (a : Option Addr) : OwnRow w base e size a 0 0 [] := ⟨by simp, by simp, by simp, .inl rfl⟩

theorem OwnRow.of_block (h : OwnRow w base e size a n cap xs) (hb : ∀ g, ownB a cap = some g → base ≤ g → g < w.heap.size → w'.heap[g]? = w.heap[g]?) : OwnRow w' base e size a n cap xs := by
  refine ⟨h.le, h.max, h.len, ?_⟩
  rcases h.own with h0 | ⟨g, off, cur, rfl, hg, hh, r⟩
  · exact .inl h0
  · by_cases h0 : cap = 0
    · exact .inl h0
    · exact .inr ⟨g, off, cur, rfl, hg, by rw [hb g (by simp [ownB, h0]) hg (Array.getElem?_eq_some_iff.1 hh).1]; exact hh, r⟩

theorem OwnRow.alloc (h : OwnRow w base e size a n cap xs) (o : Obj) : OwnRow (w.alloc o) base e size a n cap xs :=
  h.of_block fun g _ _ hg => Below.heap_alloc w o g hg

theorem OwnRow.drew (h : OwnRow w base e size a n cap xs) : OwnRow w.drew base e size a n cap xs := h.of_block fun _ _ _ _ => rfl

theorem OwnRow.below (h : OwnRow w base e size a n cap xs) (hb : Below w.heap.size w w') : OwnRow w' base e size a n cap xs :=
  h.of_block fun g _ _ hg => hb.block g hg

theorem OwnRow.setCell (h : OwnRow w base e size a n cap xs) (p : Addr) (u : Value) (hp : ∀ g, ownB a cap = some g → g ≠ p.block) : OwnRow (w.setCell p u) base e size a n cap xs :=
  h.of_block fun g hg _ _ => Below.heap_setCell w p u g (hp g hg)

theorem OwnRow.mono (h : OwnRow w base e size a n cap xs) {base' : Nat} (hb : base' ≤ base) : OwnRow w base' e size a n cap xs := by
  refine ⟨h.le, h.max, h.len, ?_⟩
  rcases h.own with h0 | ⟨g, off, cur, ha, hg, r⟩
  · exact .inl h0
  · exact .inr ⟨g, off, cur, ha, by omega, r⟩

theorem OwnRow.base_le (h : OwnRow w base e size a n cap xs) : ∀ g, ownB a cap = some g → base ≤ g ∧ g < w.heap.size := by
  intro g hg
  rcases h.own with h0 | ⟨g', off, cur, rfl, hb, hh, _⟩
  · simp [ownB, h0] at hg
  · unfold ownB at hg
    split at hg
    · cases hg
    · simp at hg; subst hg; exact ⟨hb, (Array.getElem?_eq_some_iff.1 hh).1⟩

/-- The cells of an owned row. -/
theorem OwnRow.cell (h : OwnRow w base e size a n cap xs) (hs : 0 < xs.length) : ∃ g off, a = some ⟨g, off, none⟩ ∧ base ≤ g ∧ g < w.heap.size ∧ ∀ j u, xs[j]? = some u → w.cell? ⟨g, off + j, none⟩ = some u := by
  rcases h.own with h0 | ⟨g, off, cur, rfl, hb, hh, _, hx⟩
  · have h1 := h.le; have h2 := h.len; subst h0; obtain rfl : n = 0 := by omega
    rw [h2] at hs; omega
  · refine ⟨g, off, rfl, hb, (Array.getElem?_eq_some_iff.1 hh).1, fun j u hu => ?_⟩
    rw [cell_of_row w g (off + j) cur e (0, 0) hh]
    rw [← hx, List.getElem?_take] at hu
    split at hu
    · simpa [List.getElem?_drop] using hu
    · cases hu
end

def flat (l : List Ch) : List Value := l.flatMap Ch.cells

@[simp] theorem Ch.cells_length (c : Ch) : c.cells.length = 7 := rfl
theorem flat_length (l : List Ch) : (flat l).length = l.length * 7 := by
  induction l with
  | nil => rfl
  | cons c l ih => simp only [flat, List.flatMap_cons, List.length_append, Ch.cells_length, List.length_cons] at *; omega
theorem flat_append (l m : List Ch) : flat (l ++ m) = flat l ++ flat m := by simp [flat]
theorem flat_cons (c : Ch) (l : List Ch) : flat (c :: l) = c.cells ++ flat l := rfl
theorem flat_get (l : List Ch) : ∀ (i : Nat) (h : i < l.length) (j : Nat), j < 7 → (flat l)[i * 7 + j]? = l[i].cells[j]? := by
  induction l with
  | nil => intro i h; simp at h
  | cons c l ih =>
    intro i h j hj
    rw [flat_cons]
    cases i with
    | zero => rw [List.getElem?_append_left (by simp; omega)]; simp
    | succ i =>
      rw [List.getElem?_append_right (by simp; omega)]
      have := ih i (by simpa using h) j hj
      simp only [Ch.cells_length, List.getElem_cons_succ]
      rw [← this]; congr 1; omega

theorem OwnRow.slCh {w : World} {base : Nat} {e : TypeId} {a : Option Addr} {cap : Nat} {l : List Ch} (h : OwnRow w base e 7 a l.length cap (flat l)) : SlCh w a cap l := by
  refine ⟨h.le, h.max, fun i hi => ?_⟩
  obtain ⟨g, off, ha, _, _, hc⟩ := h.cell (by rw [flat_length]; omega)
  refine ⟨g, off, ha, ?_⟩
  have k : ∀ j u, l[i].cells[j]? = some u → j < 7 → w.cell? ⟨g, off + i * 7 + j, none⟩ = some u := fun j u hu hj => by
    rw [Nat.add_assoc]; exact hc _ _ ((flat_get l i hi j hj).trans hu)
  exact ⟨k 0 _ rfl (by omega), k 1 _ rfl (by omega), k 2 _ rfl (by omega), k 3 _ rfl (by omega), k 4 _ rfl (by omega), k 5 _ rfl (by omega), k 6 _ rfl (by omega)⟩

theorem SlCh.cells {w : World} {a : Option Addr} {cap : Nat} {l : List Ch} (h : SlCh w a cap l) (ad : Addr) (ha : a = some ad) : ∀ j u, (flat l)[j]? = some u → w.cell? (ad.add j) = some u := by
  intro j u hu
  have hj : j < l.length * 7 := by
    rw [← flat_length]; rcases Nat.lt_or_ge j (flat l).length with h | h
    · exact h
    · rw [List.getElem?_eq_none h] at hu; cases hu
  have hd : j = j / 7 * 7 + j % 7 := by omega
  have hi : j / 7 < l.length := by omega
  obtain ⟨b, off, hab, hc⟩ := h.2.2 (j / 7) hi
  rw [ha] at hab; cases hab
  rw [hd, flat_get l _ hi _ (by omega)] at hu
  rw [Addr.add_lit]
  obtain ⟨c0, c1, c2, c3, c4, c5, c6⟩ := hc
  have hm : j % 7 < 7 := by omega
  generalize j % 7 = r at *
  generalize j / 7 = q at *
  rw [hd, ← Nat.add_assoc]
  match r, hm with
  | 0, _ => rw [← hu]; exact c0
  | 1, _ => rw [← hu]; exact c1
  | 2, _ => rw [← hu]; exact c2
  | 3, _ => rw [← hu]; exact c3
  | 4, _ => rw [← hu]; exact c4
  | 5, _ => rw [← hu]; exact c5
  | 6, _ => rw [← hu]; exact c6

theorem Ch.cells_one (c : Ch) : ∀ u ∈ c.cells, u.oneCell' = true := by
  intro u hu; simp [Ch.cells] at hu; rcases hu with h | h | h | h | h | h | h <;> subst h <;> rfl
theorem flat_one (l : List Ch) : ∀ u ∈ flat l, u.oneCell' = true := by
  intro u hu; simp only [flat, List.mem_flatMap] at hu; obtain ⟨c, _, h⟩ := hu; exact c.cells_one u h

section
variable {P : Program}

theorem grown_row (w : World) (base : Nat) (e : TypeId) (z : Value) (size : Nat) (hzs : z.cells.size = size) (n m old : Nat) (xs news : List Value) (hx : xs.length = n * size) (hl : news.length = m * size)
    (h63 : n + m ≤ maxLen) (hbase : base ≤ w.heap.size) :
    OwnRow (w.drew.alloc (.cells (xs.toArray ++ news.toArray ++ Builtin.zeroCells z.cells (grownCap w (n + m) old e - (n + m))) e)) base e size (some ⟨w.heap.size, 0, none⟩) (n + m) (grownCap w (n + m) old e) (xs ++ news) := by
  have hge := grownCap_ge w (n + m) old e
  have hlen : (xs ++ news).length = (n + m) * size := by rw [List.length_append, hx, hl, Nat.add_mul]
  refine ⟨hge, grownCap_le_maxLen w (n + m) old e h63, hlen, .inr ⟨w.heap.size, 0, _, rfl, hbase, heap_alloc_new w.drew _, ?_, ?_⟩⟩
  · simp only [Array.size_append, List.size_toArray, size_zeroCells, hzs, hx, hl, ← Nat.add_mul]
    rw [Nat.zero_add, show n + m + (grownCap w (n + m) old e - (n + m)) = grownCap w (n + m) old e by omega]
    exact Nat.le_refl _
  · simp only [Array.toList_append, List.append_assoc, List.drop_zero]
    rw [← List.append_assoc, ← hlen]
    exact List.take_left

/-- append to a slice that the call owns, of whatever slice. -/
theorem run_append_row (w : World) (base : Nat) (t ty e : TypeId) (i : TypeInfo) (z : Value) (size bytes : Nat) (ht : P.underlying t = some (.slice e)) (hi : P.info? e = some i) (hz : i.zero = some z)
    (hsize : i.size = size) (hby : i.bytes = bytes) (hzs : z.cells.size = size)
    (a : Option Addr) (n cap : Nat) (xs : List Value) (hown : OwnRow w base e size a n cap xs)
    (xa : Option Addr) (m c : Nat) (news : List Value) (hl : news.length = m * size) (hnews : m = 0 ∨ ∃ ad, xa = some ad ∧ ∀ j u, news[j]? = some u → w.cell? (ad.add j) = some u) (h1 : ∀ u ∈ news, u.oneCell' = true)
    (h63 : n + m ≤ maxLen) (hbytes : (n + m) * bytes ≤ 140737488355328) (hbase : base ≤ w.heap.size) :
    ∃ a' cap' w', (Builtin.append_ #[t, t] ty #[.slice a n cap, .slice xa m c]).run P w = .ok (.slice a' (n + m) cap') w' ∧ OwnRow w' base e size a' (n + m) cap' (xs ++ news) ∧ w.grownBy w' (ownB a cap) ∧ (a' = a ∧ cap' = cap ∨ 0 < m) := by
  subst hsize
  subst hby
  have hsmall : n + m ≤ 9223372036854775807 := by simp only [maxLen] at h63; omega
  have hgrown : ∀ (o : Obj) (row : Option Nat), w.grownBy (w.drew.alloc o) row := fun o row => ⟨rfl, rfl, rfl, by simp, fun k hk _ => Below.heap_alloc w.drew _ k hk⟩
  by_cases hm : m = 0
  · subst hm
    have hn : news = [] := List.eq_nil_of_length_eq_zero (by simpa using hl)
    subst hn
    have hle := hown.le
    refine ⟨a, cap, w, ?_, by simpa using hown, ⟨rfl, rfl, rfl, Nat.le_refl _, fun _ _ _ => rfl⟩, .inl ⟨rfl, rfl⟩⟩
    cases a <;> cases xa <;> simp [Builtin.append_, run_underlying ht, sizeOf, typeInfo, hi, Builtin.lenOf, Builtin.firstCells, loadCells, loadCellsFrom, hle, storeCells]
  · obtain ⟨ad, rfl, hnews'⟩ := hnews.resolve_left hm
    by_cases hroom : n + m ≤ cap
    · rcases hown.own with h0 | ⟨g, off, cur, rfl, hb, hg, hfit, hx⟩
      · omega
      · have hfit' : off + n * i.size + news.length ≤ cur.size := by
          rw [hl]; have : n * i.size + m * i.size ≤ cap * i.size := by rw [← Nat.add_mul]; exact Nat.mul_le_mul_right _ hroom
          omega
        have hf := run_firstCells_some (P := P) w i.size m ad m c news hl hnews'
        have hst := run_storeCells_at P g (off + n * i.size) e news 0 cur w hg (by simpa using hfit') h1
        simp only [Nat.add_zero] at hst
        have hlen : (xs ++ news).length = (n + m) * i.size := by rw [List.length_append, hown.len, hl, Nat.add_mul]
        refine ⟨some ⟨g, off, none⟩, cap, w.setRow g (cur.toList.take (off + n * i.size) ++ news ++ cur.toList.drop (off + n * i.size + news.length)).toArray, ?_, ⟨hroom, hown.max, hlen, .inr ⟨g, off, _, rfl, hb, setRow_heap w g cur _ e _ hg, ?_, ?_⟩⟩, ⟨rfl, rfl, rfl, by simp, fun k _ hk => setRow_other w g k _ (fun e => hk (by simp [ownB, e]; omega))⟩, .inr (by omega)⟩
        · simp [Builtin.append_, run_underlying ht, sizeOf, typeInfo, hi, Builtin.lenOf, hroom, hf, Addr.add_lit, hst]
        · simp only [List.size_toArray, List.length_append, List.length_take, List.length_drop, Array.length_toList]
          omega
        · have hcl : cur.toList.length = cur.size := by simp
          have e1 : cur.toList.take (off + n * i.size) = cur.toList.take off ++ xs := by rw [List.take_add, hx]
          rw [show (off + n * i.size + news.length) = off + n * i.size + news.length from rfl, e1, List.append_assoc, List.append_assoc, ]
          have e2 : (cur.toList.take off).length = off := by rw [List.length_take]; omega
          show List.take _ (List.drop off (cur.toList.take off ++ (xs ++ (news ++ _)))) = _
          rw [show List.drop off (cur.toList.take off ++ (xs ++ (news ++ List.drop (off + n * i.size + news.length) cur.toList))) = xs ++ (news ++ List.drop (off + n * i.size + news.length) cur.toList) from by
            conv => lhs; rw [show off = (cur.toList.take off).length from e2.symm]
            simp only [e2]
            rw [List.drop_append_of_le_length (by omega), List.drop_of_length_le (by omega)]; rfl]
          rw [← List.append_assoc, ← hlen]
          exact List.take_left
    · have hfit := growslice_fits (need := n + m) (old := cap) (by omega) hbytes
      cases a with
      | none =>
        have hc0 : cap = 0 := by rcases hown.own with h0 | ⟨g, off, cur, h, _⟩; exact h0; cases h
        subst hc0
        have hn0 : n = 0 := by have := hown.le; omega
        subst hn0
        have hx : xs = [] := List.eq_nil_of_length_eq_zero (by simpa using hown.len)
        subst hx
        have hr := run_append_nil (P := P) w t ty e i z ht hi hz ad m c news hl hnews' (by omega) (by omega) (by have hb := hbytes; simp only [Nat.zero_add] at hb; omega)
        have hgr := grown_row w base e z i.size hzs 0 m 0 [] news (by simp) hl h63 hbase
        simp only [Nat.zero_add, List.nil_append, Array.empty_append] at hgr ⊢
        exact ⟨_, _, _, hr, hgr, hgrown _ _, .inr (by omega)⟩
      | some b =>
        have holds : ∀ j v, xs[j]? = some v → w.cell? (b.add j) = some v := by
          intro j v hv
          have hp : 0 < xs.length := by
            rcases Nat.lt_or_ge j xs.length with h | h
            · omega
            · rw [List.getElem?_eq_none h] at hv; cases hv
          obtain ⟨g, off, hb, _, _, hcell⟩ := hown.cell hp
          cases hb
          rw [Addr.add_lit]; exact hcell j v hv
        have hr := run_append_grow (P := P) w t ty e i z ht hi hz b n cap xs hown.len holds ad m c news hl hnews' (by omega) (by omega) hfit
        exact ⟨_, _, _, hr, grown_row w base e z i.size hzs n m cap xs news hown.len hl h63 hbase, hgrown _ _, .inr (by omega)⟩

/-- What the program's table says of an element type: its size in cells, its bytes, that its zero value has as many cells. -/
def TInfo (P : Program) (e : TypeId) (size bytes : Nat) : Prop := ∃ i z, P.info? e = some i ∧ i.zero = some z ∧ i.size = size ∧ i.bytes = bytes ∧ z.cells.size = size ∧ 0 < bytes

theorem TInfo.mk {P : Program} {e : TypeId} {size bytes : Nat} {z : Value} (h : (P.info? e).map (fun i => (i.zero, i.size, i.bytes)) = some (some z, size, bytes)) (hz : z.cells.size = size) (hb : 0 < bytes) : TInfo P e size bytes := by
  cases hi : P.info? e with
  | none => rw [hi] at h; cases h
  | some i =>
    rw [hi] at h
    simp only [Option.map_some, Option.some.injEq, Prod.mk.injEq] at h
    exact ⟨i, z, hi, h.1, h.2.1, h.2.2, hz, hb⟩

theorem wpList_append_row (w : World) {ops : Array Oper} {rest : List Oper} {o : Oper} {ac : Act} {Q : Exit → Act → World → Prop} (hgd : o.guard = none) (s x : Operand) (t : TypeId)
    (ho : o.op = .call { callee := .builtin .append, args := #[s, x], argTypes := #[t, t] })
    (base : Nat) (e : TypeId) (size bytes : Nat) (ht : P.underlying t = some (.slice e)) (hE : TInfo P e size bytes)
    (a : Option Addr) (n cap : Nat) (xs : List Value) (hs : ac.eval s = .slice a n cap) (hown : OwnRow w base e size a n cap xs)
    (xa : Option Addr) (m c : Nat) (news : List Value) (hx : ac.eval x = .slice xa m c) (hl : news.length = m * size) (hnews : m = 0 ∨ ∃ ad, xa = some ad ∧ ∀ j u, news[j]? = some u → w.cell? (ad.add j) = some u) (h1 : ∀ u ∈ news, u.oneCell' = true)
    (hbytes : (n + m) * bytes ≤ 140737488355328) (hbase : base ≤ w.heap.size)
    (h : ∀ a' cap' w', OwnRow w' base e size a' (n + m) cap' (xs ++ news) → w.grownBy w' (ownB a cap) → (a' = a ∧ cap' = cap ∨ 0 < m) → wpList P ops Q rest (ac.put o.dst (.slice a' (n + m) cap')) w') : wpList P ops Q (o :: rest) ac w :=
  wpList_plain hgd fun _ hK => by
    obtain ⟨i, z, hi, hz, hsize, hby, hzs, hbp⟩ := hE
    have h63 : n + m ≤ maxLen := by
      have := Nat.le_mul_of_pos_right (n + m) hbp
      unfold maxLen; omega
    obtain ⟨a', cap', w', hr, h2, h3, h4⟩ := run_append_row (P := P) w base t o.type e i z size bytes ht hi hz hsize hby hzs a n cap xs hown xa m c news hl hnews h1 h63 hbytes hbase
    unfold Oper.wp execOp
    simp only [ho, resolve, invoke, builtin, Sem.run_bind, Sem.run_pure, Result.andThen_ok, List.map_toArray, List.map_cons, List.map_nil, hs, hx, hr]
    exact hK _ _ (h a' cap' w' h2 h3 h4)

/-- The same of new elements that have just been laid in a block of their own. -/
theorem wpList_append_new {wb : World} {ops : Array Oper} {rest : List Oper} {o : Oper} {ac : Act} {Q : Exit → Act → World → Prop} {e' : TypeId} (hgd : o.guard = none) (s x : Operand) (t : TypeId)
    (ho : o.op = .call { callee := .builtin .append, args := #[s, x], argTypes := #[t, t] })
    (base : Nat) (e : TypeId) (size bytes : Nat) (ht : P.underlying t = some (.slice e)) (hE : TInfo P e size bytes)
    (a : Option Addr) (n cap : Nat) (xs : List Value) (hs : ac.eval s = .slice a n cap) (hown : OwnRow wb base e size a n cap xs)
    (m c : Nat) (news : List Value) (hx : ac.eval x = .slice (some ⟨wb.heap.size, 0, none⟩) m c) (hl : news.length = m * size) (h1 : ∀ u ∈ news, u.oneCell' = true)
    (hbytes : (n + m) * bytes ≤ 140737488355328) (hbase : base ≤ wb.heap.size)
    (h : ∀ a' cap' w', OwnRow w' base e size a' (n + m) cap' (xs ++ news) → Below base wb w' → wb.heap.size < w'.heap.size → wb.grownBy w' (ownB a cap) → wpList P ops Q rest (ac.put o.dst (.slice a' (n + m) cap')) w') : wpList P ops Q (o :: rest) ac (wb.alloc (.cells news.toArray e')) :=
  wpList_append_row (wb.alloc (.cells news.toArray e')) hgd s x t ho base e size bytes ht hE a n cap xs hs (hown.alloc _) (some ⟨wb.heap.size, 0, none⟩) m c news hx hl
    (.inr ⟨_, rfl, fun j u hu => by rw [Addr.add_lit, Nat.zero_add, World.cell?_alloc_new]; simpa using hu⟩) h1 hbytes (by simp; omega)
    fun a' cap' w' h2 h3 _ => h a' cap' w' h2 (((Below.refl _ _).alloc hbase _).grown h3 (by simp; omega) fun k hk => (hown.base_le k hk).1) (by have := h3.size; simp at this; omega)
      ⟨h3.os, h3.tape, h3.output, by have := h3.size; simp at this; omega, fun k hk hne => (h3.block k (by simp; omega) hne).trans (Below.heap_alloc _ _ _ hk)⟩
end

theorem strOfNums_append (xs ys : List Int) : strOfNums xs ++ strOfNums ys = strOfNums (xs ++ ys) := by
  unfold strOfNums; rw [ByteArray.mk_append_mk, List.map_append]

/-- string(b) of bytes that the call owns. -/
theorem run_convert_row {P : Program} {w : World} {base : Nat} {e : TypeId} {a : Option Addr} {n cap : Nat} {xs : List Int} (h : OwnRow w base e 1 a n cap (xs.map (Value.int .u8))) (src : TypeId) (hs : P.underlying src = some (.slice e)) (he : P.underlying e = some (.int .u8)) :
    ∀ dst, P.underlying dst = some .string → (convert src dst (.slice a n cap)).run P w = .ok (.string (strOfNums xs)) w := by
  intro dst hd
  have hlen : xs.length = n := by simpa using h.len
  by_cases h0 : xs = []
  · subst h0
    have hn : n = 0 := by simpa using hlen.symm
    subst hn
    cases a with
    | none => rw [run_convert_bytes_nil w src e hs he 0 cap dst hd]; rfl
    | some ad =>
      rw [run_convert_bytes_string w src dst e _ 0 cap hs he hd, run_bytesToString w _ 0 cap [] (by simp [loadCells, loadCellsFrom])]
      rfl
  · obtain ⟨g, off, rfl, _, _, hc⟩ := h.cell (by simp; exact List.length_pos_iff.2 h0)
    exact run_convert_bytes_arg w src e hs he g off n cap xs hlen (fun i hi => hc i _ (by simp [List.getElem?_eq_getElem (show i < xs.length by omega)])) dst hd

/-- A callee that leaves what was there, met in a world of the class 'nothing that was in w has changed'. -/
theorem calm {P : Program} {f : FuncId} {args : Array Value} {w W : World} {v : Value} (hC : Below w.heap.size w W)
    (h : Calls P f args W fun e w' => e = .returned v ∧ Below W.heap.size W w') : Calls P f args W fun e w'' => e = .returned v ∧ Below w.heap.size w w'' :=
  h.mono fun _ _ ⟨he, hb⟩ => ⟨he, hC.trans (hb.mono hC.size)⟩
theorem calm_same {P : Program} {f : FuncId} {args : Array Value} {w W : World} {v : Value} (hC : Below w.heap.size w W)
    (h : Calls P f args W fun e w' => e = .returned v ∧ w' = W) : Calls P f args W fun e w'' => e = .returned v ∧ Below w.heap.size w w'' :=
  h.mono fun _ _ ⟨he, hb⟩ => ⟨he, by rw [hb]; exact hC⟩
theorem one1 {v : Value} (h : v.oneCell' = true) : ∀ u ∈ [v], u.oneCell' = true := by intro u hu; simp at hu; subst hu; exact h
end Go.Proofs.Ytneoeokfffnonaa
