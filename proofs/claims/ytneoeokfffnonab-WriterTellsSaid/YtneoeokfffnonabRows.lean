/-
  No cell of these rows narrows 'for every input' (looked for: loops, veiled, ifaces, maps, wideKeys, modest, calm, conditions, laid).
  DERIVED. THE GIVEN ROWS OF THIS SEAT. 11 by the template 'for every input the law returns true; each argument reads behind the call as it read before'; 0 by the template 'total and deterministic' (their statements: YtneoeokfffnonabTotals.lean).
  GIVEN WITH THE SEED: the statements are not yours to turn. If you find one false, say at which input.
  Laid BY PROGRAM, IN A SANDBOX (cutbox-rows.mjs): the forced cells as the released guide's own fill.sh prints them over the translation 395f4bbcc6efcc24… (all of the seat's roots in one cut). By AI agents, Wed Nov 11 2026. No macro, syntax, notation, axiom, sorry.
-/
import Derived.Test.YtneoeokfffnonabChecked
import GoSem.Claim
import GoSem.ClaimJoined
import GoSem.ClaimMapViews
import Derived.JoinedTies
import Derived.KernelRfl
namespace Go.Proofs.Ytneoeokfffnonab
/- THE CELL 'sum', in the pinned program and in every row, IS THE sha256 OF THE DUMP (.gsa) THAT YtneoeokfffnonabProg.lean LOADS. Nothing in Lean hashes anything: it is a label: what it is worth is what the hold of that sum in a sandbox is worth. -/
noncomputable def Try.pinned : Pinned := { name := "ytneoeokfffnonab", sum := "395f4bbcc6efcc2481ebdc9e72ee2ef62734dd245c3c31443e769fa43876072b", checked := Try.checked }
namespace Rows
def none {H : Type} : Left H := { results := [], args := [] }

/-- 'quillworklaw.FoldMeets': WHATEVER THE INPUT: true; the input reads as it did. -/
def foldMeetsSpec : ChangeSpec := { name := "foldMeets", fn := fun _ => fun
  | [d1, d2, d3, d4] => { results := [.lit (.bool true)], args := [d1, d2, d3, d4] }
  | _ => none }
def foldMeetsRow : OpenClaim := { program := "ytneoeokfffnonab", sum := "395f4bbcc6efcc2481ebdc9e72ee2ef62734dd245c3c31443e769fa43876072b", func := "quillwork/quillworklaw.FoldMeets", spec := "foldMeets", inPlace := ["slices.overlaps[quillwork/api.Char]"], apart := false }
def FoldMeetsSaid : Prop := foldMeetsRow.holds Try.pinned (OpenSpec.ofChange foldMeetsSpec)

/-- ITS FALSE NEIGHBOUR: 'it returns false'. Refute it at one input. -/
def foldMeetsWrong : ChangeSpec := { name := "foldMeets", fn := fun _ => fun
  | [d1, d2, d3, d4] => { results := [.lit (.bool false)], args := [d1, d2, d3, d4] }
  | _ => none }
def FoldMeetsWrongFalsely : Prop := foldMeetsRow.holds Try.pinned (OpenSpec.ofChange foldMeetsWrong)

/-- 'quillworklaw.FoldTakes': WHATEVER THE INPUT: true; the input reads as it did. -/
def foldTakesSpec : ChangeSpec := { name := "foldTakes", fn := fun _ => fun
  | [d1, d2, d3] => { results := [.lit (.bool true)], args := [d1, d2, d3] }
  | _ => none }
def foldTakesRow : OpenClaim := { program := "ytneoeokfffnonab", sum := "395f4bbcc6efcc2481ebdc9e72ee2ef62734dd245c3c31443e769fa43876072b", func := "quillwork/quillworklaw.FoldTakes", spec := "foldTakes", inPlace := ["slices.overlaps[quillwork/api.Char]"], apart := false }
def FoldTakesSaid : Prop := foldTakesRow.holds Try.pinned (OpenSpec.ofChange foldTakesSpec)

/-- ITS FALSE NEIGHBOUR: 'it returns false'. Refute it at one input. -/
def foldTakesWrong : ChangeSpec := { name := "foldTakes", fn := fun _ => fun
  | [d1, d2, d3] => { results := [.lit (.bool false)], args := [d1, d2, d3] }
  | _ => none }
def FoldTakesWrongFalsely : Prop := foldTakesRow.holds Try.pinned (OpenSpec.ofChange foldTakesWrong)

/-- 'quillworklaw.FoldLists': WHATEVER THE INPUT: true; the input reads as it did. -/
def foldListsSpec : ChangeSpec := { name := "foldLists", fn := fun _ => fun
  | [d] => { results := [.lit (.bool true)], args := [d] }
  | _ => none }
def foldListsRow : OpenClaim := { program := "ytneoeokfffnonab", sum := "395f4bbcc6efcc2481ebdc9e72ee2ef62734dd245c3c31443e769fa43876072b", func := "quillwork/quillworklaw.FoldLists", spec := "foldLists", inPlace := ["slices.overlaps[quillwork/api.Char]"], unfollowed := true, recurses := true, apart := false }
def FoldListsSaid : Prop := foldListsRow.holds Try.pinned (OpenSpec.ofChange foldListsSpec)

/-- ITS FALSE NEIGHBOUR: 'it returns false'. Refute it at one input. -/
def foldListsWrong : ChangeSpec := { name := "foldLists", fn := fun _ => fun
  | [d] => { results := [.lit (.bool false)], args := [d] }
  | _ => none }
def FoldListsWrongFalsely : Prop := foldListsRow.holds Try.pinned (OpenSpec.ofChange foldListsWrong)

/-- 'quillworklaw.LogOnce': WHATEVER THE INPUT: true; the input reads as it did. -/
def logOnceSpec : ChangeSpec := { name := "logOnce", fn := fun _ => fun
  | [d] => { results := [.lit (.bool true)], args := [d] }
  | _ => none }
def logOnceRow : OpenClaim := { program := "ytneoeokfffnonab", sum := "395f4bbcc6efcc2481ebdc9e72ee2ef62734dd245c3c31443e769fa43876072b", func := "quillwork/quillworklaw.LogOnce", spec := "logOnce", inPlace := ["slices.overlaps[quillwork/api.Char]"], recurses := true, apart := false }
def LogOnceSaid : Prop := logOnceRow.holds Try.pinned (OpenSpec.ofChange logOnceSpec)

/-- ITS FALSE NEIGHBOUR: 'it returns false'. Refute it at one input. -/
def logOnceWrong : ChangeSpec := { name := "logOnce", fn := fun _ => fun
  | [d] => { results := [.lit (.bool false)], args := [d] }
  | _ => none }
def LogOnceWrongFalsely : Prop := logOnceRow.holds Try.pinned (OpenSpec.ofChange logOnceWrong)

/-- 'quillworklaw.LogLeast': WHATEVER THE INPUT: true; the input reads as it did. -/
def logLeastSpec : ChangeSpec := { name := "logLeast", fn := fun _ => fun
  | [d] => { results := [.lit (.bool true)], args := [d] }
  | _ => none }
def logLeastRow : OpenClaim := { program := "ytneoeokfffnonab", sum := "395f4bbcc6efcc2481ebdc9e72ee2ef62734dd245c3c31443e769fa43876072b", func := "quillwork/quillworklaw.LogLeast", spec := "logLeast", inPlace := ["slices.overlaps[quillwork/api.Char]"], recurses := true, apart := false }
def LogLeastSaid : Prop := logLeastRow.holds Try.pinned (OpenSpec.ofChange logLeastSpec)

/-- ITS FALSE NEIGHBOUR: 'it returns false'. Refute it at one input. -/
def logLeastWrong : ChangeSpec := { name := "logLeast", fn := fun _ => fun
  | [d] => { results := [.lit (.bool false)], args := [d] }
  | _ => none }
def LogLeastWrongFalsely : Prop := logLeastRow.holds Try.pinned (OpenSpec.ofChange logLeastWrong)

/-- 'quillworklaw.LogDoes': WHATEVER THE INPUT: true; the input reads as it did. -/
def logDoesSpec : ChangeSpec := { name := "logDoes", fn := fun _ => fun
  | [d1, d2] => { results := [.lit (.bool true)], args := [d1, d2] }
  | _ => none }
def logDoesRow : OpenClaim := { program := "ytneoeokfffnonab", sum := "395f4bbcc6efcc2481ebdc9e72ee2ef62734dd245c3c31443e769fa43876072b", func := "quillwork/quillworklaw.LogDoes", spec := "logDoes", inPlace := ["slices.overlaps[quillwork/api.Char]"], recurses := true, apart := false }
def LogDoesSaid : Prop := logDoesRow.holds Try.pinned (OpenSpec.ofChange logDoesSpec)

/-- ITS FALSE NEIGHBOUR: 'it returns false'. Refute it at one input. -/
def logDoesWrong : ChangeSpec := { name := "logDoes", fn := fun _ => fun
  | [d1, d2] => { results := [.lit (.bool false)], args := [d1, d2] }
  | _ => none }
def LogDoesWrongFalsely : Prop := logDoesRow.holds Try.pinned (OpenSpec.ofChange logDoesWrong)

/-- 'quillworklaw.LogRefuses': WHATEVER THE INPUT: true; the input reads as it did. -/
def logRefusesSpec : ChangeSpec := { name := "logRefuses", fn := fun _ => fun
  | [d1, d2] => { results := [.lit (.bool true)], args := [d1, d2] }
  | _ => none }
def logRefusesRow : OpenClaim := { program := "ytneoeokfffnonab", sum := "395f4bbcc6efcc2481ebdc9e72ee2ef62734dd245c3c31443e769fa43876072b", func := "quillwork/quillworklaw.LogRefuses", spec := "logRefuses", inPlace := ["slices.overlaps[quillwork/api.Char]"], recurses := true, apart := false }
def LogRefusesSaid : Prop := logRefusesRow.holds Try.pinned (OpenSpec.ofChange logRefusesSpec)

/-- ITS FALSE NEIGHBOUR: 'it returns false'. Refute it at one input. -/
def logRefusesWrong : ChangeSpec := { name := "logRefuses", fn := fun _ => fun
  | [d1, d2] => { results := [.lit (.bool false)], args := [d1, d2] }
  | _ => none }
def LogRefusesWrongFalsely : Prop := logRefusesRow.holds Try.pinned (OpenSpec.ofChange logRefusesWrong)

/-- 'quillworklaw.LogComes': WHATEVER THE INPUT: true; the input reads as it did. -/
def logComesSpec : ChangeSpec := { name := "logComes", fn := fun _ => fun
  | [d1, d2] => { results := [.lit (.bool true)], args := [d1, d2] }
  | _ => none }
def logComesRow : OpenClaim := { program := "ytneoeokfffnonab", sum := "395f4bbcc6efcc2481ebdc9e72ee2ef62734dd245c3c31443e769fa43876072b", func := "quillwork/quillworklaw.LogComes", spec := "logComes", inPlace := ["slices.overlaps[quillwork/api.Char]"], recurses := true, apart := false }
def LogComesSaid : Prop := logComesRow.holds Try.pinned (OpenSpec.ofChange logComesSpec)

/-- ITS FALSE NEIGHBOUR: 'it returns false'. Refute it at one input. -/
def logComesWrong : ChangeSpec := { name := "logComes", fn := fun _ => fun
  | [d1, d2] => { results := [.lit (.bool false)], args := [d1, d2] }
  | _ => none }
def LogComesWrongFalsely : Prop := logComesRow.holds Try.pinned (OpenSpec.ofChange logComesWrong)

/-- 'quillworklaw.LogFolds': WHATEVER THE INPUT: true; the input reads as it did. -/
def logFoldsSpec : ChangeSpec := { name := "logFolds", fn := fun _ => fun
  | [d] => { results := [.lit (.bool true)], args := [d] }
  | _ => none }
def logFoldsRow : OpenClaim := { program := "ytneoeokfffnonab", sum := "395f4bbcc6efcc2481ebdc9e72ee2ef62734dd245c3c31443e769fa43876072b", func := "quillwork/quillworklaw.LogFolds", spec := "logFolds", inPlace := ["slices.overlaps[quillwork/api.Char]"], recurses := true, apart := false }
def LogFoldsSaid : Prop := logFoldsRow.holds Try.pinned (OpenSpec.ofChange logFoldsSpec)

/-- ITS FALSE NEIGHBOUR: 'it returns false'. Refute it at one input. -/
def logFoldsWrong : ChangeSpec := { name := "logFolds", fn := fun _ => fun
  | [d] => { results := [.lit (.bool false)], args := [d] }
  | _ => none }
def LogFoldsWrongFalsely : Prop := logFoldsRow.holds Try.pinned (OpenSpec.ofChange logFoldsWrong)

/-- 'quillworklaw.WriterAcks': WHATEVER THE INPUT: true; the input reads as it did. -/
def writerAcksSpec : ChangeSpec := { name := "writerAcks", fn := fun _ => fun
  | [d] => { results := [.lit (.bool true)], args := [d] }
  | _ => none }
def writerAcksRow : OpenClaim := { program := "ytneoeokfffnonab", sum := "395f4bbcc6efcc2481ebdc9e72ee2ef62734dd245c3c31443e769fa43876072b", func := "quillwork/quillworklaw.WriterAcks", spec := "writerAcks", inPlace := ["slices.overlaps[quillwork/api.Char]"], unfollowed := true, recurses := true, apart := false }
def WriterAcksSaid : Prop := writerAcksRow.holds Try.pinned (OpenSpec.ofChange writerAcksSpec)

/-- ITS FALSE NEIGHBOUR: 'it returns false'. Refute it at one input. -/
def writerAcksWrong : ChangeSpec := { name := "writerAcks", fn := fun _ => fun
  | [d] => { results := [.lit (.bool false)], args := [d] }
  | _ => none }
def WriterAcksWrongFalsely : Prop := writerAcksRow.holds Try.pinned (OpenSpec.ofChange writerAcksWrong)

/-- 'quillworklaw.WriterTells': WHATEVER THE INPUT: true; the input reads as it did. -/
def writerTellsSpec : ChangeSpec := { name := "writerTells", fn := fun _ => fun
  | [d] => { results := [.lit (.bool true)], args := [d] }
  | _ => none }
def writerTellsRow : OpenClaim := { program := "ytneoeokfffnonab", sum := "395f4bbcc6efcc2481ebdc9e72ee2ef62734dd245c3c31443e769fa43876072b", func := "quillwork/quillworklaw.WriterTells", spec := "writerTells", inPlace := ["slices.overlaps[quillwork/api.Char]"], unfollowed := true, recurses := true, apart := false }
def WriterTellsSaid : Prop := writerTellsRow.holds Try.pinned (OpenSpec.ofChange writerTellsSpec)

/-- ITS FALSE NEIGHBOUR: 'it returns false'. Refute it at one input. -/
def writerTellsWrong : ChangeSpec := { name := "writerTells", fn := fun _ => fun
  | [d] => { results := [.lit (.bool false)], args := [d] }
  | _ => none }
def WriterTellsWrongFalsely : Prop := writerTellsRow.holds Try.pinned (OpenSpec.ofChange writerTellsWrong)

/- THE SECOND FORM. 'bulk': how many values and letters a reading holds, each counted each time it is reached (what is shared counts as often as it is met; a slice's spare places count too). A statement '..UptoSaid' is the law's where the arguments, and the package variables that the reading takes, are together of bulk at most 1048576: NARROWER than '..Said'. Prove '..Said' where nothing that the law and all that it calls make is longer than what came in: it says more and counts as full. Else prove '..UptoSaid'. A law counts once. -/
mutual
def uptoBulk {H : Type} : DataW H → Nat
  | .lit (.string bytes) => bytes.length + 1
  | .lit _ => 1
  | .nil => 1
  | .ptr d => uptoBulk d + 1
  | .slice elems spare => uptoBulkAll elems + uptoBulkAll spare + 1
  | .agg parts => uptoBulkAll parts + 1
  | .iface _ d => uptoBulk d + 1
  | .map entries => uptoBulkEntries entries + 1
  | .held _ => 1
def uptoBulkAll {H : Type} : List (DataW H) → Nat
  | [] => 0
  | d :: r => uptoBulk d + uptoBulkAll r
def uptoBulkEntries {H : Type} : List (Lit × DataW H) → Nat
  | [] => 0
  | x :: r => uptoBulkEntry x + uptoBulkEntries r
def uptoBulkEntry {H : Type} : Lit × DataW H → Nat
  | (.string bytes, d) => bytes.length + uptoBulk d + 1
  | (_, d) => uptoBulk d + 1
 end
def uptoSmall : (H : Type) → List (DataW H) → Bool := fun _ ds => decide (uptoBulkAll ds ≤ 1048576)
def OpenSpec.upto (s : _root_.Go.ChangeSpec) : _root_.Go.OpenSpec := { _root_.Go.OpenSpec.ofChange s with cond := some uptoSmall }

/-- 'quillworklaw.FoldMeets', WHERE WHAT IT READS IS OF BULK AT MOST 1048576: true; the input reads as it did. -/
def foldMeetsUptoRow : OpenClaim := { program := "ytneoeokfffnonab", sum := "395f4bbcc6efcc2481ebdc9e72ee2ef62734dd245c3c31443e769fa43876072b", func := "quillwork/quillworklaw.FoldMeets", spec := "foldMeets", inPlace := ["slices.overlaps[quillwork/api.Char]"], apart := false, narrowed := true }
def FoldMeetsUptoSaid : Prop := foldMeetsUptoRow.holds Try.pinned (OpenSpec.upto foldMeetsSpec)

/-- 'quillworklaw.FoldTakes', WHERE WHAT IT READS IS OF BULK AT MOST 1048576: true; the input reads as it did. -/
def foldTakesUptoRow : OpenClaim := { program := "ytneoeokfffnonab", sum := "395f4bbcc6efcc2481ebdc9e72ee2ef62734dd245c3c31443e769fa43876072b", func := "quillwork/quillworklaw.FoldTakes", spec := "foldTakes", inPlace := ["slices.overlaps[quillwork/api.Char]"], apart := false, narrowed := true }
def FoldTakesUptoSaid : Prop := foldTakesUptoRow.holds Try.pinned (OpenSpec.upto foldTakesSpec)

/-- 'quillworklaw.FoldLists', WHERE WHAT IT READS IS OF BULK AT MOST 1048576: true; the input reads as it did. -/
def foldListsUptoRow : OpenClaim := { program := "ytneoeokfffnonab", sum := "395f4bbcc6efcc2481ebdc9e72ee2ef62734dd245c3c31443e769fa43876072b", func := "quillwork/quillworklaw.FoldLists", spec := "foldLists", inPlace := ["slices.overlaps[quillwork/api.Char]"], unfollowed := true, recurses := true, apart := false, narrowed := true }
def FoldListsUptoSaid : Prop := foldListsUptoRow.holds Try.pinned (OpenSpec.upto foldListsSpec)

/-- 'quillworklaw.LogOnce', WHERE WHAT IT READS IS OF BULK AT MOST 1048576: true; the input reads as it did. -/
def logOnceUptoRow : OpenClaim := { program := "ytneoeokfffnonab", sum := "395f4bbcc6efcc2481ebdc9e72ee2ef62734dd245c3c31443e769fa43876072b", func := "quillwork/quillworklaw.LogOnce", spec := "logOnce", inPlace := ["slices.overlaps[quillwork/api.Char]"], recurses := true, apart := false, narrowed := true }
def LogOnceUptoSaid : Prop := logOnceUptoRow.holds Try.pinned (OpenSpec.upto logOnceSpec)

/-- 'quillworklaw.LogLeast', WHERE WHAT IT READS IS OF BULK AT MOST 1048576: true; the input reads as it did. -/
def logLeastUptoRow : OpenClaim := { program := "ytneoeokfffnonab", sum := "395f4bbcc6efcc2481ebdc9e72ee2ef62734dd245c3c31443e769fa43876072b", func := "quillwork/quillworklaw.LogLeast", spec := "logLeast", inPlace := ["slices.overlaps[quillwork/api.Char]"], recurses := true, apart := false, narrowed := true }
def LogLeastUptoSaid : Prop := logLeastUptoRow.holds Try.pinned (OpenSpec.upto logLeastSpec)

/-- 'quillworklaw.LogDoes', WHERE WHAT IT READS IS OF BULK AT MOST 1048576: true; the input reads as it did. -/
def logDoesUptoRow : OpenClaim := { program := "ytneoeokfffnonab", sum := "395f4bbcc6efcc2481ebdc9e72ee2ef62734dd245c3c31443e769fa43876072b", func := "quillwork/quillworklaw.LogDoes", spec := "logDoes", inPlace := ["slices.overlaps[quillwork/api.Char]"], recurses := true, apart := false, narrowed := true }
def LogDoesUptoSaid : Prop := logDoesUptoRow.holds Try.pinned (OpenSpec.upto logDoesSpec)

/-- 'quillworklaw.LogRefuses', WHERE WHAT IT READS IS OF BULK AT MOST 1048576: true; the input reads as it did. -/
def logRefusesUptoRow : OpenClaim := { program := "ytneoeokfffnonab", sum := "395f4bbcc6efcc2481ebdc9e72ee2ef62734dd245c3c31443e769fa43876072b", func := "quillwork/quillworklaw.LogRefuses", spec := "logRefuses", inPlace := ["slices.overlaps[quillwork/api.Char]"], recurses := true, apart := false, narrowed := true }
def LogRefusesUptoSaid : Prop := logRefusesUptoRow.holds Try.pinned (OpenSpec.upto logRefusesSpec)

/-- 'quillworklaw.LogComes', WHERE WHAT IT READS IS OF BULK AT MOST 1048576: true; the input reads as it did. -/
def logComesUptoRow : OpenClaim := { program := "ytneoeokfffnonab", sum := "395f4bbcc6efcc2481ebdc9e72ee2ef62734dd245c3c31443e769fa43876072b", func := "quillwork/quillworklaw.LogComes", spec := "logComes", inPlace := ["slices.overlaps[quillwork/api.Char]"], recurses := true, apart := false, narrowed := true }
def LogComesUptoSaid : Prop := logComesUptoRow.holds Try.pinned (OpenSpec.upto logComesSpec)

/-- 'quillworklaw.LogFolds', WHERE WHAT IT READS IS OF BULK AT MOST 1048576: true; the input reads as it did. -/
def logFoldsUptoRow : OpenClaim := { program := "ytneoeokfffnonab", sum := "395f4bbcc6efcc2481ebdc9e72ee2ef62734dd245c3c31443e769fa43876072b", func := "quillwork/quillworklaw.LogFolds", spec := "logFolds", inPlace := ["slices.overlaps[quillwork/api.Char]"], recurses := true, apart := false, narrowed := true }
def LogFoldsUptoSaid : Prop := logFoldsUptoRow.holds Try.pinned (OpenSpec.upto logFoldsSpec)

/-- 'quillworklaw.WriterAcks', WHERE WHAT IT READS IS OF BULK AT MOST 1048576: true; the input reads as it did. -/
def writerAcksUptoRow : OpenClaim := { program := "ytneoeokfffnonab", sum := "395f4bbcc6efcc2481ebdc9e72ee2ef62734dd245c3c31443e769fa43876072b", func := "quillwork/quillworklaw.WriterAcks", spec := "writerAcks", inPlace := ["slices.overlaps[quillwork/api.Char]"], unfollowed := true, recurses := true, apart := false, narrowed := true }
def WriterAcksUptoSaid : Prop := writerAcksUptoRow.holds Try.pinned (OpenSpec.upto writerAcksSpec)

/-- 'quillworklaw.WriterTells', WHERE WHAT IT READS IS OF BULK AT MOST 1048576: true; the input reads as it did. -/
def writerTellsUptoRow : OpenClaim := { program := "ytneoeokfffnonab", sum := "395f4bbcc6efcc2481ebdc9e72ee2ef62734dd245c3c31443e769fa43876072b", func := "quillwork/quillworklaw.WriterTells", spec := "writerTells", inPlace := ["slices.overlaps[quillwork/api.Char]"], unfollowed := true, recurses := true, apart := false, narrowed := true }
def WriterTellsUptoSaid : Prop := writerTellsUptoRow.holds Try.pinned (OpenSpec.upto writerTellsSpec)

end Rows
end Go.Proofs.Ytneoeokfffnonab
