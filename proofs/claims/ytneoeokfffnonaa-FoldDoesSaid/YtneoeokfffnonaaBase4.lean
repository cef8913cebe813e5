/- append of whatever slice, as one step of a region that draws; a piece of a slice that is read. No program in sight. -/
import Derived.Test.YtneoeokfffnonaaBase3
namespace Go.Proofs.Ytneoeokfffnonaa
open Go.RowKit

section
variable {P : Program}
theorem step_append_row (w : World) {ops : Array Oper} {o : Oper} {ac : Act} {K : Act → World → Prop} {Q : Exit → Act → World → Prop} {E : Prop} (hgd : o.guard = none) (s x : Operand) (t : TypeId)
    (ho : o.op = .call { callee := .builtin .append, args := #[s, x], argTypes := #[t, t] })
    (base : Nat) (e : TypeId) (size bytes : Nat) (ht : P.underlying t = some (.slice e)) (hE : TInfo P e size bytes)
    (a : Option Addr) (n cap : Nat) (xs : List Value) (hs : ac.eval s = .slice a n cap) (hown : OwnRow w base e size a n cap xs)
    (xa : Option Addr) (m c : Nat) (news : List Value) (hx : ac.eval x = .slice xa m c) (hl : news.length = m * size) (hnews : m = 0 ∨ ∃ ad, xa = some ad ∧ ∀ j u, news[j]? = some u → w.cell? (ad.add j) = some u) (h1 : ∀ u ∈ news, u.oneCell' = true)
    (hbytes : (n + m) * bytes ≤ 140737488355328) (hbase : base ≤ w.heap.size)
    (h : ∀ a' cap' w', OwnRow w' base e size a' (n + m) cap' (xs ++ news) → w.grownBy w' (ownB a cap) → K (ac.put o.dst (.slice a' (n + m) cap')) w') :
    if Region.wanted o (yielded ops ac.tmps) = true then Oper.wp P o ac w K Q else E := by
  have hw : Region.wanted o (yielded ops ac.tmps) = true := by simp [Region.wanted, hgd]
  rw [if_pos hw]
  obtain ⟨i, z, hi, hz, hsize, hby, hzs, hbp⟩ := hE
  have h63 : n + m ≤ maxLen := by
    have := Nat.le_mul_of_pos_right (n + m) hbp
    unfold maxLen; omega
  obtain ⟨a', cap', w', hr, h2, h3, _⟩ := run_append_row (P := P) w base t o.type e i z size bytes ht hi hz hsize hby hzs a n cap xs hown xa m c news hl hnews h1 h63 hbytes hbase
  unfold Oper.wp execOp
  simp only [ho, resolve, invoke, builtin, Sem.run_bind, Sem.run_pure, Result.andThen_ok, List.map_toArray, List.map_cons, List.map_nil, hs, hx, hr]
  exact h a' cap' w' h2 h3
end

theorem SlCh.take_cells {w : World} {a : Option Addr} {cap : Nat} {l : List Ch} (h : SlCh w a cap l) (i : Nat) : i = 0 ∨ l.length = 0 ∨ ∃ ad, a = some ad ∧ ∀ j u, (flat (l.take i))[j]? = some u → w.cell? (ad.add j) = some u := by
  by_cases hi : i = 0
  · exact .inl hi
  by_cases hl : l.length = 0
  · exact .inr (.inl hl)
  obtain ⟨b, off, rfl, _⟩ := h.nth (k := 0) (by omega)
  exact .inr (.inr ⟨_, rfl, (h.take i).cells _ rfl⟩)

theorem SlCh.drop_cells {w : World} {b off : Nat} {cap : Nat} {l : List Ch} (h : SlCh w (some ⟨b, off, none⟩) cap l) (i : Nat) : ∀ j u, (flat (l.drop i))[j]? = some u → w.cell? ((⟨b, off + i * 7, none⟩ : Addr).add j) = some u := by
  intro j u hu
  rw [Addr.add_lit, Nat.add_assoc, ← Addr.add_lit]
  refine h.cells _ rfl _ _ ?_
  rw [← hu, ← flat_drop, List.getElem?_drop]
end Go.Proofs.Ytneoeokfffnonaa
