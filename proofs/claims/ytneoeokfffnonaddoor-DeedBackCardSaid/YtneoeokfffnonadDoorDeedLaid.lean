/- From what a row lists to what the library's texts ask; a world that meets it; the frame for a law that has both. -/
import Derived.Test.YtneoeokfffnonadDoorOpenD
import Derived.Test.YtneoeokfffnonadDoorTie
import Derived.JoinedOf
import Derived.JoinedAt
import Derived.RowKit
import Derived.RowKit3
import Derived.RowKitTokens
import Derived.LaidLaws
import Derived.LaidHandle
import Derived.MakeChecks
import Derived.HandedShaped
import Derived.Shelf.Vars
import Derived.Deep.DeepLaidRun
import Derived.Stop.Joined
import Derived.Stop.LaidErr
import Derived.Lib.LaidTab
import Derived.SevenTiedAt
set_option linter.unusedVariables false
set_option linter.unusedSimpArgs false
namespace Go.Proofs.YtneoeokfffnonadDoor
open Go.ChangeShapes Go.WideShapes Go.ChangeAt Go.RowKit
set_option maxRecDepth 100000

theorem gES : Tryd.prog.globalNamed "strconv.ErrSyntax" = some 0 := by kernel_rfl
theorem gER : Tryd.prog.globalNamed "strconv.ErrRange" = some 1 := by kernel_rfl
theorem gPT : Tryd.prog.globalNamed "internal/strconv.uint64pow10" = some 3 := by kernel_rfl
theorem gEST : (Tryd.prog.globals[0]?).map (·.type) = some 39 := by kernel_rfl
theorem gERT : (Tryd.prog.globals[1]?).map (·.type) = some 39 := by kernel_rfl
theorem gPTT : (Tryd.prog.globals[3]?).map (·.type) = some 93 := by kernel_rfl
theorem cellsES : Tryd.prog.cellsOf 91 = 1 := by kernel_rfl
theorem cellsU64 : Tryd.prog.cellsOf 74 = 1 := by kernel_rfl
theorem cells20 : Tryd.prog.cellsOf 93 = 20 := by kernel_rfl
theorem starES : "*" ++ "errors.errorString" = "*errors.errorString" := by decide
theorem rowES (u : TypeId) (h : Tryd.prog.typeName? 3 u = some "*errors.errorString") : u = 89 :=
  typeName_ptr_named (nm := "errors.errorString") (by rw [starES]; kernel_rfl) (by kernel_rfl) (by decide) u (by rw [starES]; exact h)
theorem pow_eq : (Rows.laid_internal_strconv_uint64pow10 : DataW Unit) = Lib.tabData .u64 Lib.pow10Tab := by kernel_rfl

/-- What the rows list. -/
abbrev laidL : List (String × DataW Unit) := Rows.deedDoesRow.laid
theorem libK_of_laid {W : World} (hsh : W.ShapedOpen Tryd.prog) (h : laidMetH Tryd.prog laidL W) : LibK W := by
  rw [MakeChecks.laidMetH_plain _ _ _ (by kernel_rfl)] at h
  have h3 := h.tail.tail
  have h5 := h3.tail.tail
  rw [pow_eq] at h3
  obtain ⟨a1, s1, hv1, -, -, -⟩ := laid_sentinel h5 gER gERT Tryd.underlying39 rowES Tryd.underlying89 Tryd.underlying91 rfl rfl Tryd.underlying9 cellsES cells_string
  obtain ⟨a0, s0, hv0, -, -, -⟩ := laid_sentinel h5.tail gES gEST Tryd.underlying39 rowES Tryd.underlying89 Tryd.underlying91 rfl rfl Tryd.underlying9 cellsES cells_string
  have c0 : W.cell? ⟨0, 0, none⟩ = some (.iface 89 (.pointer (some a0))) := by
    have h0 := World.var?_cell gES hv0 0; simpa using h0
  have c1 : W.cell? ⟨1, 0, none⟩ = some (.iface 89 (.pointer (some a1))) := by
    have h0 := World.var?_cell gER hv1 0; simpa using h0
  exact ⟨Lib.tabIs_of_head gPT gPTT Tryd.underlying93 Tryd.underlying74 cellsU64 cells20 h3, ⟨_, _, c0⟩, ⟨_, _, c1⟩,
    cell_of_shapedOpen_int (P := Tryd.prog) (g := 2) (t := 3) (zero := #[.int .i64 0]) hsh (of_decide_eq_true (by kernel_rfl)) (by kernel_rfl) rfl (by kernel_rfl) (by kernel_rfl) Tryd.underlying3⟩

/-! A world that meets the list. -/
def cell0 : DataW Unit → List Value
  | .lit (.int k n) => [.int k n]
  | _ => []
def cell1 : DataW Unit → List Value
  | .lit (.int k n) => [.int k n]
  | .agg l => l.flatMap cell0
  | _ => []
def cell2 : DataW Unit → Array Value
  | .agg l => (l.flatMap cell1).toArray
  | _ => #[]
abbrev synS : ByteArray := { data := #[105, 110, 118, 97, 108, 105, 100, 32, 115, 121, 110, 116, 97, 120] }
abbrev rngS : ByteArray := { data := #[118, 97, 108, 117, 101, 32, 111, 117, 116, 32, 111, 102, 32, 114, 97, 110, 103, 101] }
noncomputable def low : Nat := (World.holding Tryd.prog default ⟨#[], #[], []⟩).heap.size
noncomputable def laidWorld (os : Os) : World :=
  let w0 := World.holding Tryd.prog os ⟨#[.cells #[.string synS] 91, .cells #[.string rngS] 91], #[], []⟩
  let put (h : Array Obj) (g : Nat) (cs : Array Value) : Array Obj := h.modify g fun
    | .cells _ t frozen => .cells cs t frozen
    | o => o
  let h1 := put w0.heap 0 #[.iface 89 (.pointer (some ⟨low, 0, none⟩))]
  let h2 := put h1 1 #[.iface 89 (.pointer (some ⟨low + 1, 0, none⟩))]
  let h3 := put h2 3 (cell2 Rows.laid_internal_strconv_uint64pow10)
  let h4 := put h3 4 (cell2 Rows.laid_unicode_utf8_first)
  let h5 := put h4 5 (cell2 Rows.laid_unicode_utf8_acceptRanges)
  let h6 := put h5 6 (cell2 Rows.laid_math_bits_deBruijn32tab)
  let h7 := put h6 7 (cell2 Rows.laid_math_bits_deBruijn64tab)
  { w0 with heap := h7 }
theorem laid_met (os : Os) (args : Array Value) : laidMetH Tryd.prog laidL ((laidWorld os).forCall (fun _ _ => 0) ⟨#[], args, []⟩).memory := by
  rw [MakeChecks.laidMetH_plain _ _ _ (by kernel_rfl)]
  exact laidMet_of_run3 8 (by kernel_rfl) (by kernel_rfl) (by kernel_rfl)

/-- The frame: a law with a list, and the world's shape kept. -/
theorem returns_and_shaped {H : Type} {enc : TypeId × Value → H} {a : Assume} {C : Checked} {os : Os} {f : FuncId} {fn : Func} {s : ChangeSpec} {conds : List PathCond} {apart fresh handsOn again : Bool} {X : World → Array Value → Prop}
    (hX : ∀ (w w' : World) (args : Array Value), w.heap = w'.heap → X w args → X w' args)
    (own : ownKnob C.prog.godebug = none) (started : os.Started) (noInit : C.prog.inits.idxOf? f = none) (hfn : C.prog.funcs[f]? = some fn)
    (witness : ∃ (w : World) (tape : Tape) (i : Input), w.os = os ∧ (w.forCall tape i).Shaped C.prog ∧ i.vars = [] ∧ Input.okWide C.prog (w.forCall tape i) .any w.heap.size f i ∧
      ((s.pre enc C.prog fn conds apart (w.forCall tape i).memory i.args ∧ X (w.forCall tape i).memory i.args) ∧ sizedMet enc C.prog fn (OpenSpec.ofChange s) apart (w.forCall tape i).memory i.args) ∧ a.holds C.prog (lone (Frame.enter C.prog f i.args .normal) [] (w.forCall tape i)))
    (contract : ∀ (W : World) (base : Nat) (args : Array Value) (ds gs : List (DataW H)) (before : List MemPlace),
      (∀ (j : Nat) t v, fn.params[j]? = some t → args[j]? = some v → Value.okWide C.prog W .any base t v) →
      DataW.Whole enc C.prog fn.params.toList s.vars apart W args.toList ds gs before →
      X W args → W.ShapedOpen C.prog →
      Calls C.prog f args W fun e W' => ∃ v, e = .returned v ∧ s.post enc C.prog fn apart fresh handsOn again W args v W') :
    ReturnsInHanded a C os f .any (fun w args => (s.pre enc C.prog fn conds apart w args ∧ X w args) ∧ sizedMet enc C.prog fn (OpenSpec.ofChange s) apart w args) (s.post enc C.prog fn apart fresh handsOn again) := by
  refine returnsInHanded_of_calls own started noInit witness ?_
  intro w tape i _ hsh _ hok hpre _
  obtain ⟨_, _, _, fn', hfn', _, _, _, _, hval⟩ := hok
  have e : fn' = fn := Option.some.inj (hfn'.symm.trans hfn)
  subst e
  obtain ⟨⟨⟨ds, gs, before, hw, _⟩, hx⟩, _⟩ := hpre
  have hw' := DataW.Whole.of_heap (w' := w.forCall tape i) (by rfl) hw
  refine (contract (w.forCall tape i) w.heap.size i.args ds gs before hval hw' (hX _ _ _ (by rfl) hx) hsh).mono fun e W' ⟨v, he, hp⟩ => ?_
  subst he
  exact ChangeSpec.post_blind hp
end Go.Proofs.YtneoeokfffnonadDoor
