/-
  No cell of these rows narrows 'for every input' (looked for: loops, veiled, ifaces, maps, wideKeys, modest, calm, conditions, laid).
  DERIVED. THE GIVEN ROWS OF THIS SEAT. 11 by the template 'for every input the law returns true; each argument reads behind the call as it read before'; 0 by the template 'total and deterministic' (their statements: YtneoeokfffnonaaTotals.lean).
  GIVEN WITH THE SEED: the statements are not yours to turn. If you find one false, say at which input.
  Laid BY PROGRAM, IN A SANDBOX (cutbox-rows.mjs): the forced cells as the released guide's own fill.sh prints them over the translation e28b0fdbbff320a8… (all of the seat's roots in one cut). By AI agents, Wed Nov 11 2026. No macro, syntax, notation, axiom, sorry.
-/
import Derived.Test.YtneoeokfffnonaaChecked
import GoSem.Claim
import GoSem.ClaimJoined
import GoSem.ClaimMapViews
import Derived.JoinedTies
import Derived.KernelRfl
namespace Go.Proofs.Ytneoeokfffnonaa
/- THE CELL 'sum', in the pinned program and in every row, IS THE sha256 OF THE DUMP (.gsa) THAT YtneoeokfffnonaaProg.lean LOADS. Nothing in Lean hashes anything: it is a label: what it is worth is what the hold of that sum in a sandbox is worth. -/
noncomputable def Try.pinned : Pinned := { name := "ytneoeokfffnonaa", sum := "e28b0fdbbff320a8608402348fa4cf06da2767f6143dfa3d46b4e354fde16aee", checked := Try.checked }
namespace Rows
def none {H : Type} : Left H := { results := [], args := [] }

/-- 'quillworklaw.ClearDoes': WHATEVER THE INPUT: true; the input reads as it did. -/
def clearDoesSpec : ChangeSpec := { name := "clearDoes", fn := fun _ => fun
  | [d1, d2, d3, d4, d5] => { results := [.lit (.bool true)], args := [d1, d2, d3, d4, d5] }
  | _ => none }
def clearDoesRow : OpenClaim := { program := "ytneoeokfffnonaa", sum := "e28b0fdbbff320a8608402348fa4cf06da2767f6143dfa3d46b4e354fde16aee", func := "quillwork/quillworklaw.ClearDoes", spec := "clearDoes", unfollowed := true, recurses := true, apart := false }
def ClearDoesSaid : Prop := clearDoesRow.holds Try.pinned (OpenSpec.ofChange clearDoesSpec)

/-- ITS FALSE NEIGHBOUR: 'it returns false'. Refute it at one input. -/
def clearDoesWrong : ChangeSpec := { name := "clearDoes", fn := fun _ => fun
  | [d1, d2, d3, d4, d5] => { results := [.lit (.bool false)], args := [d1, d2, d3, d4, d5] }
  | _ => none }
def ClearDoesWrongFalsely : Prop := clearDoesRow.holds Try.pinned (OpenSpec.ofChange clearDoesWrong)

/-- 'quillworklaw.ClearKeeps': WHATEVER THE INPUT: true; the input reads as it did. -/
def clearKeepsSpec : ChangeSpec := { name := "clearKeeps", fn := fun _ => fun
  | [d1, d2, d3] => { results := [.lit (.bool true)], args := [d1, d2, d3] }
  | _ => none }
def clearKeepsRow : OpenClaim := { program := "ytneoeokfffnonaa", sum := "e28b0fdbbff320a8608402348fa4cf06da2767f6143dfa3d46b4e354fde16aee", func := "quillwork/quillworklaw.ClearKeeps", spec := "clearKeeps", unfollowed := true, recurses := true, apart := false }
def ClearKeepsSaid : Prop := clearKeepsRow.holds Try.pinned (OpenSpec.ofChange clearKeepsSpec)

/-- ITS FALSE NEIGHBOUR: 'it returns false'. Refute it at one input. -/
def clearKeepsWrong : ChangeSpec := { name := "clearKeeps", fn := fun _ => fun
  | [d1, d2, d3] => { results := [.lit (.bool false)], args := [d1, d2, d3] }
  | _ => none }
def ClearKeepsWrongFalsely : Prop := clearKeepsRow.holds Try.pinned (OpenSpec.ofChange clearKeepsWrong)

/-- 'quillworklaw.CharsMore': WHATEVER THE INPUT: true; the input reads as it did. -/
def charsMoreSpec : ChangeSpec := { name := "charsMore", fn := fun _ => fun
  | [d1, d2, d3, d4] => { results := [.lit (.bool true)], args := [d1, d2, d3, d4] }
  | _ => none }
def charsMoreRow : OpenClaim := { program := "ytneoeokfffnonaa", sum := "e28b0fdbbff320a8608402348fa4cf06da2767f6143dfa3d46b4e354fde16aee", func := "quillwork/quillworklaw.CharsMore", spec := "charsMore", unfollowed := true, recurses := true, apart := false }
def CharsMoreSaid : Prop := charsMoreRow.holds Try.pinned (OpenSpec.ofChange charsMoreSpec)

/-- ITS FALSE NEIGHBOUR: 'it returns false'. Refute it at one input. -/
def charsMoreWrong : ChangeSpec := { name := "charsMore", fn := fun _ => fun
  | [d1, d2, d3, d4] => { results := [.lit (.bool false)], args := [d1, d2, d3, d4] }
  | _ => none }
def CharsMoreWrongFalsely : Prop := charsMoreRow.holds Try.pinned (OpenSpec.ofChange charsMoreWrong)

/-- 'quillworklaw.CharsDoes': WHATEVER THE INPUT: true; the input reads as it did. -/
def charsDoesSpec : ChangeSpec := { name := "charsDoes", fn := fun _ => fun
  | [d1, d2, d3, d4, d5] => { results := [.lit (.bool true)], args := [d1, d2, d3, d4, d5] }
  | _ => none }
def charsDoesRow : OpenClaim := { program := "ytneoeokfffnonaa", sum := "e28b0fdbbff320a8608402348fa4cf06da2767f6143dfa3d46b4e354fde16aee", func := "quillwork/quillworklaw.CharsDoes", spec := "charsDoes", unfollowed := true, recurses := true, apart := false }
def CharsDoesSaid : Prop := charsDoesRow.holds Try.pinned (OpenSpec.ofChange charsDoesSpec)

/-- ITS FALSE NEIGHBOUR: 'it returns false'. Refute it at one input. -/
def charsDoesWrong : ChangeSpec := { name := "charsDoes", fn := fun _ => fun
  | [d1, d2, d3, d4, d5] => { results := [.lit (.bool false)], args := [d1, d2, d3, d4, d5] }
  | _ => none }
def CharsDoesWrongFalsely : Prop := charsDoesRow.holds Try.pinned (OpenSpec.ofChange charsDoesWrong)

/-- 'quillworklaw.CharsBehind': WHATEVER THE INPUT: true; the input reads as it did. -/
def charsBehindSpec : ChangeSpec := { name := "charsBehind", fn := fun _ => fun
  | [d1, d2, d3, d4] => { results := [.lit (.bool true)], args := [d1, d2, d3, d4] }
  | _ => none }
def charsBehindRow : OpenClaim := { program := "ytneoeokfffnonaa", sum := "e28b0fdbbff320a8608402348fa4cf06da2767f6143dfa3d46b4e354fde16aee", func := "quillwork/quillworklaw.CharsBehind", spec := "charsBehind", unfollowed := true, recurses := true, apart := false }
def CharsBehindSaid : Prop := charsBehindRow.holds Try.pinned (OpenSpec.ofChange charsBehindSpec)

/-- ITS FALSE NEIGHBOUR: 'it returns false'. Refute it at one input. -/
def charsBehindWrong : ChangeSpec := { name := "charsBehind", fn := fun _ => fun
  | [d1, d2, d3, d4] => { results := [.lit (.bool false)], args := [d1, d2, d3, d4] }
  | _ => none }
def CharsBehindWrongFalsely : Prop := charsBehindRow.holds Try.pinned (OpenSpec.ofChange charsBehindWrong)

/-- 'quillworklaw.ClearViews': WHATEVER THE INPUT: true; the input reads as it did. -/
def clearViewsSpec : ChangeSpec := { name := "clearViews", fn := fun _ => fun
  | [d1, d2, d3, d4] => { results := [.lit (.bool true)], args := [d1, d2, d3, d4] }
  | _ => none }
def clearViewsRow : OpenClaim := { program := "ytneoeokfffnonaa", sum := "e28b0fdbbff320a8608402348fa4cf06da2767f6143dfa3d46b4e354fde16aee", func := "quillwork/quillworklaw.ClearViews", spec := "clearViews", unfollowed := true, recurses := true, apart := false }
def ClearViewsSaid : Prop := clearViewsRow.holds Try.pinned (OpenSpec.ofChange clearViewsSpec)

/-- ITS FALSE NEIGHBOUR: 'it returns false'. Refute it at one input. -/
def clearViewsWrong : ChangeSpec := { name := "clearViews", fn := fun _ => fun
  | [d1, d2, d3, d4] => { results := [.lit (.bool false)], args := [d1, d2, d3, d4] }
  | _ => none }
def ClearViewsWrongFalsely : Prop := clearViewsRow.holds Try.pinned (OpenSpec.ofChange clearViewsWrong)

/-- 'quillworklaw.ClearSlides': WHATEVER THE INPUT: true; the input reads as it did. -/
def clearSlidesSpec : ChangeSpec := { name := "clearSlides", fn := fun _ => fun
  | [d1, d2, d3, d4, d5] => { results := [.lit (.bool true)], args := [d1, d2, d3, d4, d5] }
  | _ => none }
def clearSlidesRow : OpenClaim := { program := "ytneoeokfffnonaa", sum := "e28b0fdbbff320a8608402348fa4cf06da2767f6143dfa3d46b4e354fde16aee", func := "quillwork/quillworklaw.ClearSlides", spec := "clearSlides", unfollowed := true, recurses := true, apart := false }
def ClearSlidesSaid : Prop := clearSlidesRow.holds Try.pinned (OpenSpec.ofChange clearSlidesSpec)

/-- ITS FALSE NEIGHBOUR: 'it returns false'. Refute it at one input. -/
def clearSlidesWrong : ChangeSpec := { name := "clearSlides", fn := fun _ => fun
  | [d1, d2, d3, d4, d5] => { results := [.lit (.bool false)], args := [d1, d2, d3, d4, d5] }
  | _ => none }
def ClearSlidesWrongFalsely : Prop := clearSlidesRow.holds Try.pinned (OpenSpec.ofChange clearSlidesWrong)

/-- 'quillworklaw.FoldDoes': WHATEVER THE INPUT: true; the input reads as it did. -/
def foldDoesSpec : ChangeSpec := { name := "foldDoes", fn := fun _ => fun
  | [d1, d2, d3, d4] => { results := [.lit (.bool true)], args := [d1, d2, d3, d4] }
  | _ => none }
def foldDoesRow : OpenClaim := { program := "ytneoeokfffnonaa", sum := "e28b0fdbbff320a8608402348fa4cf06da2767f6143dfa3d46b4e354fde16aee", func := "quillwork/quillworklaw.FoldDoes", spec := "foldDoes", inPlace := ["slices.overlaps[quillwork/api.Char]"], recurses := true, apart := false }
def FoldDoesSaid : Prop := foldDoesRow.holds Try.pinned (OpenSpec.ofChange foldDoesSpec)

/-- ITS FALSE NEIGHBOUR: 'it returns false'. Refute it at one input. -/
def foldDoesWrong : ChangeSpec := { name := "foldDoes", fn := fun _ => fun
  | [d1, d2, d3, d4] => { results := [.lit (.bool false)], args := [d1, d2, d3, d4] }
  | _ => none }
def FoldDoesWrongFalsely : Prop := foldDoesRow.holds Try.pinned (OpenSpec.ofChange foldDoesWrong)

/-- 'quillworklaw.FoldSplices': WHATEVER THE INPUT: true; the input reads as it did. -/
def foldSplicesSpec : ChangeSpec := { name := "foldSplices", fn := fun _ => fun
  | [d1, d2, d3] => { results := [.lit (.bool true)], args := [d1, d2, d3] }
  | _ => none }
def foldSplicesRow : OpenClaim := { program := "ytneoeokfffnonaa", sum := "e28b0fdbbff320a8608402348fa4cf06da2767f6143dfa3d46b4e354fde16aee", func := "quillwork/quillworklaw.FoldSplices", spec := "foldSplices", inPlace := ["slices.overlaps[quillwork/api.Char]"], apart := false }
def FoldSplicesSaid : Prop := foldSplicesRow.holds Try.pinned (OpenSpec.ofChange foldSplicesSpec)

/-- ITS FALSE NEIGHBOUR: 'it returns false'. Refute it at one input. -/
def foldSplicesWrong : ChangeSpec := { name := "foldSplices", fn := fun _ => fun
  | [d1, d2, d3] => { results := [.lit (.bool false)], args := [d1, d2, d3] }
  | _ => none }
def FoldSplicesWrongFalsely : Prop := foldSplicesRow.holds Try.pinned (OpenSpec.ofChange foldSplicesWrong)

/-- 'quillworklaw.FoldOthers': WHATEVER THE INPUT: true; the input reads as it did. -/
def foldOthersSpec : ChangeSpec := { name := "foldOthers", fn := fun _ => fun
  | [d1, d2, d3, d4, d5] => { results := [.lit (.bool true)], args := [d1, d2, d3, d4, d5] }
  | _ => none }
def foldOthersRow : OpenClaim := { program := "ytneoeokfffnonaa", sum := "e28b0fdbbff320a8608402348fa4cf06da2767f6143dfa3d46b4e354fde16aee", func := "quillwork/quillworklaw.FoldOthers", spec := "foldOthers", inPlace := ["slices.overlaps[quillwork/api.Char]"], apart := false }
def FoldOthersSaid : Prop := foldOthersRow.holds Try.pinned (OpenSpec.ofChange foldOthersSpec)

/-- ITS FALSE NEIGHBOUR: 'it returns false'. Refute it at one input. -/
def foldOthersWrong : ChangeSpec := { name := "foldOthers", fn := fun _ => fun
  | [d1, d2, d3, d4, d5] => { results := [.lit (.bool false)], args := [d1, d2, d3, d4, d5] }
  | _ => none }
def FoldOthersWrongFalsely : Prop := foldOthersRow.holds Try.pinned (OpenSpec.ofChange foldOthersWrong)

/-- 'quillworklaw.FoldKeeps': WHATEVER THE INPUT: true; the input reads as it did. -/
def foldKeepsSpec : ChangeSpec := { name := "foldKeeps", fn := fun _ => fun
  | [d1, d2, d3] => { results := [.lit (.bool true)], args := [d1, d2, d3] }
  | _ => none }
def foldKeepsRow : OpenClaim := { program := "ytneoeokfffnonaa", sum := "e28b0fdbbff320a8608402348fa4cf06da2767f6143dfa3d46b4e354fde16aee", func := "quillwork/quillworklaw.FoldKeeps", spec := "foldKeeps", inPlace := ["slices.overlaps[quillwork/api.Char]"], recurses := true, apart := false }
def FoldKeepsSaid : Prop := foldKeepsRow.holds Try.pinned (OpenSpec.ofChange foldKeepsSpec)

/-- ITS FALSE NEIGHBOUR: 'it returns false'. Refute it at one input. -/
def foldKeepsWrong : ChangeSpec := { name := "foldKeeps", fn := fun _ => fun
  | [d1, d2, d3] => { results := [.lit (.bool false)], args := [d1, d2, d3] }
  | _ => none }
def FoldKeepsWrongFalsely : Prop := foldKeepsRow.holds Try.pinned (OpenSpec.ofChange foldKeepsWrong)

/- THE SECOND FORM. 'bulk': how many values and letters a reading holds, each counted each time it is reached (what is shared counts as often as it is met; a slice's spare places count too). A statement '..UptoSaid' is the law's where the arguments, and the package variables that the reading takes, are together of bulk at most 1048576: NARROWER than '..Said'. Prove '..Said' where nothing that the law and all that it calls make is longer than what came in: it says more and counts as full. Else prove '..UptoSaid'. A law counts once. -/
mutual
def uptoBulk {H : Type} : DataW H → Nat
  | .lit (.string bytes) => bytes.length + 1
  | .lit _ => 1
  | .nil => 1
  | .ptr d => uptoBulk d + 1
  | .slice elems spare => uptoBulkAll elems + uptoBulkAll spare + 1
  | .agg parts => uptoBulkAll parts + 1
  | .iface _ d => uptoBulk d + 1
  | .map entries => uptoBulkEntries entries + 1
  | .held _ => 1
def uptoBulkAll {H : Type} : List (DataW H) → Nat
  | [] => 0
  | d :: r => uptoBulk d + uptoBulkAll r
def uptoBulkEntries {H : Type} : List (Lit × DataW H) → Nat
  | [] => 0
  | x :: r => uptoBulkEntry x + uptoBulkEntries r
def uptoBulkEntry {H : Type} : Lit × DataW H → Nat
  | (.string bytes, d) => bytes.length + uptoBulk d + 1
  | (_, d) => uptoBulk d + 1
 end
def uptoSmall : (H : Type) → List (DataW H) → Bool := fun _ ds => decide (uptoBulkAll ds ≤ 1048576)
def OpenSpec.upto (s : _root_.Go.ChangeSpec) : _root_.Go.OpenSpec := { _root_.Go.OpenSpec.ofChange s with cond := some uptoSmall }

/-- 'quillworklaw.ClearDoes', WHERE WHAT IT READS IS OF BULK AT MOST 1048576: true; the input reads as it did. -/
def clearDoesUptoRow : OpenClaim := { program := "ytneoeokfffnonaa", sum := "e28b0fdbbff320a8608402348fa4cf06da2767f6143dfa3d46b4e354fde16aee", func := "quillwork/quillworklaw.ClearDoes", spec := "clearDoes", unfollowed := true, recurses := true, apart := false, narrowed := true }
def ClearDoesUptoSaid : Prop := clearDoesUptoRow.holds Try.pinned (OpenSpec.upto clearDoesSpec)

/-- 'quillworklaw.ClearKeeps', WHERE WHAT IT READS IS OF BULK AT MOST 1048576: true; the input reads as it did. -/
def clearKeepsUptoRow : OpenClaim := { program := "ytneoeokfffnonaa", sum := "e28b0fdbbff320a8608402348fa4cf06da2767f6143dfa3d46b4e354fde16aee", func := "quillwork/quillworklaw.ClearKeeps", spec := "clearKeeps", unfollowed := true, recurses := true, apart := false, narrowed := true }
def ClearKeepsUptoSaid : Prop := clearKeepsUptoRow.holds Try.pinned (OpenSpec.upto clearKeepsSpec)

/-- 'quillworklaw.CharsMore', WHERE WHAT IT READS IS OF BULK AT MOST 1048576: true; the input reads as it did. -/
def charsMoreUptoRow : OpenClaim := { program := "ytneoeokfffnonaa", sum := "e28b0fdbbff320a8608402348fa4cf06da2767f6143dfa3d46b4e354fde16aee", func := "quillwork/quillworklaw.CharsMore", spec := "charsMore", unfollowed := true, recurses := true, apart := false, narrowed := true }
def CharsMoreUptoSaid : Prop := charsMoreUptoRow.holds Try.pinned (OpenSpec.upto charsMoreSpec)

/-- 'quillworklaw.CharsDoes', WHERE WHAT IT READS IS OF BULK AT MOST 1048576: true; the input reads as it did. -/
def charsDoesUptoRow : OpenClaim := { program := "ytneoeokfffnonaa", sum := "e28b0fdbbff320a8608402348fa4cf06da2767f6143dfa3d46b4e354fde16aee", func := "quillwork/quillworklaw.CharsDoes", spec := "charsDoes", unfollowed := true, recurses := true, apart := false, narrowed := true }
def CharsDoesUptoSaid : Prop := charsDoesUptoRow.holds Try.pinned (OpenSpec.upto charsDoesSpec)

/-- 'quillworklaw.CharsBehind', WHERE WHAT IT READS IS OF BULK AT MOST 1048576: true; the input reads as it did. -/
def charsBehindUptoRow : OpenClaim := { program := "ytneoeokfffnonaa", sum := "e28b0fdbbff320a8608402348fa4cf06da2767f6143dfa3d46b4e354fde16aee", func := "quillwork/quillworklaw.CharsBehind", spec := "charsBehind", unfollowed := true, recurses := true, apart := false, narrowed := true }
def CharsBehindUptoSaid : Prop := charsBehindUptoRow.holds Try.pinned (OpenSpec.upto charsBehindSpec)

/-- 'quillworklaw.ClearViews', WHERE WHAT IT READS IS OF BULK AT MOST 1048576: true; the input reads as it did. -/
def clearViewsUptoRow : OpenClaim := { program := "ytneoeokfffnonaa", sum := "e28b0fdbbff320a8608402348fa4cf06da2767f6143dfa3d46b4e354fde16aee", func := "quillwork/quillworklaw.ClearViews", spec := "clearViews", unfollowed := true, recurses := true, apart := false, narrowed := true }
def ClearViewsUptoSaid : Prop := clearViewsUptoRow.holds Try.pinned (OpenSpec.upto clearViewsSpec)

/-- 'quillworklaw.ClearSlides', WHERE WHAT IT READS IS OF BULK AT MOST 1048576: true; the input reads as it did. -/
def clearSlidesUptoRow : OpenClaim := { program := "ytneoeokfffnonaa", sum := "e28b0fdbbff320a8608402348fa4cf06da2767f6143dfa3d46b4e354fde16aee", func := "quillwork/quillworklaw.ClearSlides", spec := "clearSlides", unfollowed := true, recurses := true, apart := false, narrowed := true }
def ClearSlidesUptoSaid : Prop := clearSlidesUptoRow.holds Try.pinned (OpenSpec.upto clearSlidesSpec)

/-- 'quillworklaw.FoldDoes', WHERE WHAT IT READS IS OF BULK AT MOST 1048576: true; the input reads as it did. -/
def foldDoesUptoRow : OpenClaim := { program := "ytneoeokfffnonaa", sum := "e28b0fdbbff320a8608402348fa4cf06da2767f6143dfa3d46b4e354fde16aee", func := "quillwork/quillworklaw.FoldDoes", spec := "foldDoes", inPlace := ["slices.overlaps[quillwork/api.Char]"], recurses := true, apart := false, narrowed := true }
def FoldDoesUptoSaid : Prop := foldDoesUptoRow.holds Try.pinned (OpenSpec.upto foldDoesSpec)

/-- 'quillworklaw.FoldSplices', WHERE WHAT IT READS IS OF BULK AT MOST 1048576: true; the input reads as it did. -/
def foldSplicesUptoRow : OpenClaim := { program := "ytneoeokfffnonaa", sum := "e28b0fdbbff320a8608402348fa4cf06da2767f6143dfa3d46b4e354fde16aee", func := "quillwork/quillworklaw.FoldSplices", spec := "foldSplices", inPlace := ["slices.overlaps[quillwork/api.Char]"], apart := false, narrowed := true }
def FoldSplicesUptoSaid : Prop := foldSplicesUptoRow.holds Try.pinned (OpenSpec.upto foldSplicesSpec)

/-- 'quillworklaw.FoldOthers', WHERE WHAT IT READS IS OF BULK AT MOST 1048576: true; the input reads as it did. -/
def foldOthersUptoRow : OpenClaim := { program := "ytneoeokfffnonaa", sum := "e28b0fdbbff320a8608402348fa4cf06da2767f6143dfa3d46b4e354fde16aee", func := "quillwork/quillworklaw.FoldOthers", spec := "foldOthers", inPlace := ["slices.overlaps[quillwork/api.Char]"], apart := false, narrowed := true }
def FoldOthersUptoSaid : Prop := foldOthersUptoRow.holds Try.pinned (OpenSpec.upto foldOthersSpec)

/-- 'quillworklaw.FoldKeeps', WHERE WHAT IT READS IS OF BULK AT MOST 1048576: true; the input reads as it did. -/
def foldKeepsUptoRow : OpenClaim := { program := "ytneoeokfffnonaa", sum := "e28b0fdbbff320a8608402348fa4cf06da2767f6143dfa3d46b4e354fde16aee", func := "quillwork/quillworklaw.FoldKeeps", spec := "foldKeeps", inPlace := ["slices.overlaps[quillwork/api.Char]"], recurses := true, apart := false, narrowed := true }
def FoldKeepsUptoSaid : Prop := foldKeepsUptoRow.holds Try.pinned (OpenSpec.upto foldKeepsSpec)

end Rows
end Go.Proofs.Ytneoeokfffnonaa
