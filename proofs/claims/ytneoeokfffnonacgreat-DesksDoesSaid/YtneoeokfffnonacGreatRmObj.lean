/- A room in memory: desks, and beside each writer its Scribe. -/
import Derived.Test.YtneoeokfffnonacGreatDkObj
import Derived.Test.YtneoeokfffnonacGreatScrW
import Derived.Test.YtneoeokfffnonacGreatPlainW
set_option linter.unusedVariables false
set_option linter.unusedSimpArgs false
namespace Go.Proofs.YtneoeokfffnonacGreat
open Go.RowKit

/-- The Scribe of a writer. -/
def WM.sc (m : WM) : ScV := ⟨m.me, m.seen, m.next, m.base, m.ds, m.ns⟩


section
variable {w w' : World} {base : Nat} {F : Nat → Prop} {g : Nat} {gw gs : Nat → Nat} {d : DkM} {e : Nat → Option ScV} {bare : Bool} {FD : Nat → Prop} {FSk : Nat → Nat → Prop}

theorem ScrAt.mono {b2 : Nat} {s : ScV} {G : Nat → Prop} (h : ScrAt w b2 G g s) (hb : base ≤ b2) : ScrAt w base G g s := by
  obtain ⟨a, cap, oa, ocap, r0, r1, r2, r3, r4, r5⟩ := h.rows
  exact ⟨h.lt, h.fg, fun k hk => ⟨Nat.le_trans hb (h.foot k hk).1, (h.foot k hk).2⟩, h.fz, h.c0, h.c1, h.c2, h.c5, a, cap, oa, ocap, r0, r1, r2.mono hb, r3.mono hb, r4, r5⟩
end
end Go.Proofs.YtneoeokfffnonacGreat
