/-
  No cell of these rows narrows 'for every input' (looked for: loops, veiled, ifaces, maps, wideKeys, modest, calm, conditions, laid).
  DERIVED. THE GIVEN ROWS OF THIS SEAT. 11 by the template 'for every input the law returns true; each argument reads behind the call as it read before'; 0 by the template 'total and deterministic' (their statements: YtneoeokfffnonacTotals.lean).
  GIVEN WITH THE SEED: the statements are not yours to turn. If you find one false, say at which input.
  Laid BY PROGRAM, IN A SANDBOX (cutbox-rows.mjs): the forced cells as the released guide's own fill.sh prints them over the translation 95e24b6ee54c8802… (all of the seat's roots in one cut). By AI agents, Wed Nov 11 2026. No macro, syntax, notation, axiom, sorry.
-/
import Derived.Test.YtneoeokfffnonacChecked
import GoSem.Claim
import GoSem.ClaimJoined
import GoSem.ClaimMapViews
import Derived.JoinedTies
import Derived.KernelRfl
namespace Go.Proofs.Ytneoeokfffnonac
/- THE CELL 'sum', in the pinned program and in every row, IS THE sha256 OF THE DUMP (.gsa) THAT YtneoeokfffnonacProg.lean LOADS. Nothing in Lean hashes anything: it is a label: what it is worth is what the hold of that sum in a sandbox is worth. -/
noncomputable def Try.pinned : Pinned := { name := "ytneoeokfffnonac", sum := "95e24b6ee54c8802b3455c6bb985b293079774195fae081c3c6783b62185912b", checked := Try.checked }
namespace Rows
def none {H : Type} : Left H := { results := [], args := [] }

/-- 'quillworklaw.WriterRefuses': WHATEVER THE INPUT: true; the input reads as it did. -/
def writerRefusesSpec : ChangeSpec := { name := "writerRefuses", fn := fun _ => fun
  | [d1, d2, d3] => { results := [.lit (.bool true)], args := [d1, d2, d3] }
  | _ => none }
def writerRefusesRow : OpenClaim := { program := "ytneoeokfffnonac", sum := "95e24b6ee54c8802b3455c6bb985b293079774195fae081c3c6783b62185912b", func := "quillwork/quillworklaw.WriterRefuses", spec := "writerRefuses", inPlace := ["slices.overlaps[quillwork/api.Char]"], unfollowed := true, recurses := true, apart := false }
def WriterRefusesSaid : Prop := writerRefusesRow.holds Try.pinned (OpenSpec.ofChange writerRefusesSpec)

/-- ITS FALSE NEIGHBOUR: 'it returns false'. Refute it at one input. -/
def writerRefusesWrong : ChangeSpec := { name := "writerRefuses", fn := fun _ => fun
  | [d1, d2, d3] => { results := [.lit (.bool false)], args := [d1, d2, d3] }
  | _ => none }
def WriterRefusesWrongFalsely : Prop := writerRefusesRow.holds Try.pinned (OpenSpec.ofChange writerRefusesWrong)

/-- 'quillworklaw.WriterDoes': WHATEVER THE INPUT: true; the input reads as it did. -/
def writerDoesSpec : ChangeSpec := { name := "writerDoes", fn := fun _ => fun
  | [d] => { results := [.lit (.bool true)], args := [d] }
  | _ => none }
def writerDoesRow : OpenClaim := { program := "ytneoeokfffnonac", sum := "95e24b6ee54c8802b3455c6bb985b293079774195fae081c3c6783b62185912b", func := "quillwork/quillworklaw.WriterDoes", spec := "writerDoes", inPlace := ["slices.overlaps[quillwork/api.Char]"], unfollowed := true, recurses := true, apart := false }
def WriterDoesSaid : Prop := writerDoesRow.holds Try.pinned (OpenSpec.ofChange writerDoesSpec)

/-- ITS FALSE NEIGHBOUR: 'it returns false'. Refute it at one input. -/
def writerDoesWrong : ChangeSpec := { name := "writerDoes", fn := fun _ => fun
  | [d] => { results := [.lit (.bool false)], args := [d] }
  | _ => none }
def WriterDoesWrongFalsely : Prop := writerDoesRow.holds Try.pinned (OpenSpec.ofChange writerDoesWrong)

/-- 'quillworklaw.WriterKnows': WHATEVER THE INPUT: true; the input reads as it did. -/
def writerKnowsSpec : ChangeSpec := { name := "writerKnows", fn := fun _ => fun
  | [d1, d2] => { results := [.lit (.bool true)], args := [d1, d2] }
  | _ => none }
def writerKnowsRow : OpenClaim := { program := "ytneoeokfffnonac", sum := "95e24b6ee54c8802b3455c6bb985b293079774195fae081c3c6783b62185912b", func := "quillwork/quillworklaw.WriterKnows", spec := "writerKnows", inPlace := ["slices.overlaps[quillwork/api.Char]"], unfollowed := true, recurses := true, apart := false }
def WriterKnowsSaid : Prop := writerKnowsRow.holds Try.pinned (OpenSpec.ofChange writerKnowsSpec)

/-- ITS FALSE NEIGHBOUR: 'it returns false'. Refute it at one input. -/
def writerKnowsWrong : ChangeSpec := { name := "writerKnows", fn := fun _ => fun
  | [d1, d2] => { results := [.lit (.bool false)], args := [d1, d2] }
  | _ => none }
def WriterKnowsWrongFalsely : Prop := writerKnowsRow.holds Try.pinned (OpenSpec.ofChange writerKnowsWrong)

/-- 'quillworklaw.DesksClear': WHATEVER THE INPUT: true; the input reads as it did. -/
def desksClearSpec : ChangeSpec := { name := "desksClear", fn := fun _ => fun
  | [d] => { results := [.lit (.bool true)], args := [d] }
  | _ => none }
def desksClearRow : OpenClaim := { program := "ytneoeokfffnonac", sum := "95e24b6ee54c8802b3455c6bb985b293079774195fae081c3c6783b62185912b", func := "quillwork/quillworklaw.DesksClear", spec := "desksClear", inPlace := ["slices.overlaps[quillwork/api.Char]"], unfollowed := true, recurses := true, apart := false }
def DesksClearSaid : Prop := desksClearRow.holds Try.pinned (OpenSpec.ofChange desksClearSpec)

/-- ITS FALSE NEIGHBOUR: 'it returns false'. Refute it at one input. -/
def desksClearWrong : ChangeSpec := { name := "desksClear", fn := fun _ => fun
  | [d] => { results := [.lit (.bool false)], args := [d] }
  | _ => none }
def DesksClearWrongFalsely : Prop := desksClearRow.holds Try.pinned (OpenSpec.ofChange desksClearWrong)

/-- 'quillworklaw.DesksAlone': WHATEVER THE INPUT: true; the input reads as it did. -/
def desksAloneSpec : ChangeSpec := { name := "desksAlone", fn := fun _ => fun
  | [d] => { results := [.lit (.bool true)], args := [d] }
  | _ => none }
def desksAloneRow : OpenClaim := { program := "ytneoeokfffnonac", sum := "95e24b6ee54c8802b3455c6bb985b293079774195fae081c3c6783b62185912b", func := "quillwork/quillworklaw.DesksAlone", spec := "desksAlone", inPlace := ["slices.overlaps[quillwork/api.Char]"], unfollowed := true, recurses := true, apart := false }
def DesksAloneSaid : Prop := desksAloneRow.holds Try.pinned (OpenSpec.ofChange desksAloneSpec)

/-- ITS FALSE NEIGHBOUR: 'it returns false'. Refute it at one input. -/
def desksAloneWrong : ChangeSpec := { name := "desksAlone", fn := fun _ => fun
  | [d] => { results := [.lit (.bool false)], args := [d] }
  | _ => none }
def DesksAloneWrongFalsely : Prop := desksAloneRow.holds Try.pinned (OpenSpec.ofChange desksAloneWrong)

/-- 'quillworklaw.DesksAgain': WHATEVER THE INPUT: true; the input reads as it did. -/
def desksAgainSpec : ChangeSpec := { name := "desksAgain", fn := fun _ => fun
  | [d1, d2, d3, d4] => { results := [.lit (.bool true)], args := [d1, d2, d3, d4] }
  | _ => none }
def desksAgainRow : OpenClaim := { program := "ytneoeokfffnonac", sum := "95e24b6ee54c8802b3455c6bb985b293079774195fae081c3c6783b62185912b", func := "quillwork/quillworklaw.DesksAgain", spec := "desksAgain", inPlace := ["slices.overlaps[quillwork/api.Char]"], unfollowed := true, recurses := true, apart := false }
def DesksAgainSaid : Prop := desksAgainRow.holds Try.pinned (OpenSpec.ofChange desksAgainSpec)

/-- ITS FALSE NEIGHBOUR: 'it returns false'. Refute it at one input. -/
def desksAgainWrong : ChangeSpec := { name := "desksAgain", fn := fun _ => fun
  | [d1, d2, d3, d4] => { results := [.lit (.bool false)], args := [d1, d2, d3, d4] }
  | _ => none }
def DesksAgainWrongFalsely : Prop := desksAgainRow.holds Try.pinned (OpenSpec.ofChange desksAgainWrong)

/-- 'quillworklaw.DesksMeet': WHATEVER THE INPUT: true; the input reads as it did. -/
def desksMeetSpec : ChangeSpec := { name := "desksMeet", fn := fun _ => fun
  | [d] => { results := [.lit (.bool true)], args := [d] }
  | _ => none }
def desksMeetRow : OpenClaim := { program := "ytneoeokfffnonac", sum := "95e24b6ee54c8802b3455c6bb985b293079774195fae081c3c6783b62185912b", func := "quillwork/quillworklaw.DesksMeet", spec := "desksMeet", inPlace := ["slices.overlaps[quillwork/api.Char]"], unfollowed := true, recurses := true, apart := false }
def DesksMeetSaid : Prop := desksMeetRow.holds Try.pinned (OpenSpec.ofChange desksMeetSpec)

/-- ITS FALSE NEIGHBOUR: 'it returns false'. Refute it at one input. -/
def desksMeetWrong : ChangeSpec := { name := "desksMeet", fn := fun _ => fun
  | [d] => { results := [.lit (.bool false)], args := [d] }
  | _ => none }
def DesksMeetWrongFalsely : Prop := desksMeetRow.holds Try.pinned (OpenSpec.ofChange desksMeetWrong)

/-- 'quillworklaw.DesksLate': WHATEVER THE INPUT: true; the input reads as it did. -/
def desksLateSpec : ChangeSpec := { name := "desksLate", fn := fun _ => fun
  | [d1, d2, d3] => { results := [.lit (.bool true)], args := [d1, d2, d3] }
  | _ => none }
def desksLateRow : OpenClaim := { program := "ytneoeokfffnonac", sum := "95e24b6ee54c8802b3455c6bb985b293079774195fae081c3c6783b62185912b", func := "quillwork/quillworklaw.DesksLate", spec := "desksLate", inPlace := ["slices.overlaps[quillwork/api.Char]"], unfollowed := true, recurses := true, apart := false }
def DesksLateSaid : Prop := desksLateRow.holds Try.pinned (OpenSpec.ofChange desksLateSpec)

/-- ITS FALSE NEIGHBOUR: 'it returns false'. Refute it at one input. -/
def desksLateWrong : ChangeSpec := { name := "desksLate", fn := fun _ => fun
  | [d1, d2, d3] => { results := [.lit (.bool false)], args := [d1, d2, d3] }
  | _ => none }
def DesksLateWrongFalsely : Prop := desksLateRow.holds Try.pinned (OpenSpec.ofChange desksLateWrong)

/-- 'quillworklaw.StoryDoes': WHATEVER THE INPUT: true; the input reads as it did. -/
def storyDoesSpec : ChangeSpec := { name := "storyDoes", fn := fun _ => fun
  | [d1, d2, d3] => { results := [.lit (.bool true)], args := [d1, d2, d3] }
  | _ => none }
def storyDoesRow : OpenClaim := { program := "ytneoeokfffnonac", sum := "95e24b6ee54c8802b3455c6bb985b293079774195fae081c3c6783b62185912b", func := "quillwork/quillworklaw.StoryDoes", spec := "storyDoes", inPlace := ["slices.overlaps[quillwork/api.Char]"], unfollowed := true, recurses := true, apart := false }
def StoryDoesSaid : Prop := storyDoesRow.holds Try.pinned (OpenSpec.ofChange storyDoesSpec)

/-- ITS FALSE NEIGHBOUR: 'it returns false'. Refute it at one input. -/
def storyDoesWrong : ChangeSpec := { name := "storyDoes", fn := fun _ => fun
  | [d1, d2, d3] => { results := [.lit (.bool false)], args := [d1, d2, d3] }
  | _ => none }
def StoryDoesWrongFalsely : Prop := storyDoesRow.holds Try.pinned (OpenSpec.ofChange storyDoesWrong)

/-- 'quillworklaw.StoryGrows': WHATEVER THE INPUT: true; the input reads as it did. -/
def storyGrowsSpec : ChangeSpec := { name := "storyGrows", fn := fun _ => fun
  | [d1, d2] => { results := [.lit (.bool true)], args := [d1, d2] }
  | _ => none }
def storyGrowsRow : OpenClaim := { program := "ytneoeokfffnonac", sum := "95e24b6ee54c8802b3455c6bb985b293079774195fae081c3c6783b62185912b", func := "quillwork/quillworklaw.StoryGrows", spec := "storyGrows", inPlace := ["slices.overlaps[quillwork/api.Char]"], unfollowed := true, recurses := true, apart := false }
def StoryGrowsSaid : Prop := storyGrowsRow.holds Try.pinned (OpenSpec.ofChange storyGrowsSpec)

/-- ITS FALSE NEIGHBOUR: 'it returns false'. Refute it at one input. -/
def storyGrowsWrong : ChangeSpec := { name := "storyGrows", fn := fun _ => fun
  | [d1, d2] => { results := [.lit (.bool false)], args := [d1, d2] }
  | _ => none }
def StoryGrowsWrongFalsely : Prop := storyGrowsRow.holds Try.pinned (OpenSpec.ofChange storyGrowsWrong)

/-- 'quillworklaw.StoryWhere': WHATEVER THE INPUT: true; the input reads as it did. -/
def storyWhereSpec : ChangeSpec := { name := "storyWhere", fn := fun _ => fun
  | [d1, d2] => { results := [.lit (.bool true)], args := [d1, d2] }
  | _ => none }
def storyWhereRow : OpenClaim := { program := "ytneoeokfffnonac", sum := "95e24b6ee54c8802b3455c6bb985b293079774195fae081c3c6783b62185912b", func := "quillwork/quillworklaw.StoryWhere", spec := "storyWhere", inPlace := ["slices.overlaps[quillwork/api.Char]"], unfollowed := true, recurses := true, apart := false }
def StoryWhereSaid : Prop := storyWhereRow.holds Try.pinned (OpenSpec.ofChange storyWhereSpec)

/-- ITS FALSE NEIGHBOUR: 'it returns false'. Refute it at one input. -/
def storyWhereWrong : ChangeSpec := { name := "storyWhere", fn := fun _ => fun
  | [d1, d2] => { results := [.lit (.bool false)], args := [d1, d2] }
  | _ => none }
def StoryWhereWrongFalsely : Prop := storyWhereRow.holds Try.pinned (OpenSpec.ofChange storyWhereWrong)

/- THE SECOND FORM. 'bulk': how many values and letters a reading holds, each counted each time it is reached (what is shared counts as often as it is met; a slice's spare places count too). A statement '..UptoSaid' is the law's where the arguments, and the package variables that the reading takes, are together of bulk at most 1048576: NARROWER than '..Said'. Prove '..Said' where nothing that the law and all that it calls make is longer than what came in: it says more and counts as full. Else prove '..UptoSaid'. A law counts once. -/
mutual
def uptoBulk {H : Type} : DataW H → Nat
  | .lit (.string bytes) => bytes.length + 1
  | .lit _ => 1
  | .nil => 1
  | .ptr d => uptoBulk d + 1
  | .slice elems spare => uptoBulkAll elems + uptoBulkAll spare + 1
  | .agg parts => uptoBulkAll parts + 1
  | .iface _ d => uptoBulk d + 1
  | .map entries => uptoBulkEntries entries + 1
  | .held _ => 1
def uptoBulkAll {H : Type} : List (DataW H) → Nat
  | [] => 0
  | d :: r => uptoBulk d + uptoBulkAll r
def uptoBulkEntries {H : Type} : List (Lit × DataW H) → Nat
  | [] => 0
  | x :: r => uptoBulkEntry x + uptoBulkEntries r
def uptoBulkEntry {H : Type} : Lit × DataW H → Nat
  | (.string bytes, d) => bytes.length + uptoBulk d + 1
  | (_, d) => uptoBulk d + 1
 end
def uptoSmall : (H : Type) → List (DataW H) → Bool := fun _ ds => decide (uptoBulkAll ds ≤ 1048576)
def OpenSpec.upto (s : _root_.Go.ChangeSpec) : _root_.Go.OpenSpec := { _root_.Go.OpenSpec.ofChange s with cond := some uptoSmall }

/-- 'quillworklaw.WriterRefuses', WHERE WHAT IT READS IS OF BULK AT MOST 1048576: true; the input reads as it did. -/
def writerRefusesUptoRow : OpenClaim := { program := "ytneoeokfffnonac", sum := "95e24b6ee54c8802b3455c6bb985b293079774195fae081c3c6783b62185912b", func := "quillwork/quillworklaw.WriterRefuses", spec := "writerRefuses", inPlace := ["slices.overlaps[quillwork/api.Char]"], unfollowed := true, recurses := true, apart := false, narrowed := true }
def WriterRefusesUptoSaid : Prop := writerRefusesUptoRow.holds Try.pinned (OpenSpec.upto writerRefusesSpec)

/-- 'quillworklaw.WriterDoes', WHERE WHAT IT READS IS OF BULK AT MOST 1048576: true; the input reads as it did. -/
def writerDoesUptoRow : OpenClaim := { program := "ytneoeokfffnonac", sum := "95e24b6ee54c8802b3455c6bb985b293079774195fae081c3c6783b62185912b", func := "quillwork/quillworklaw.WriterDoes", spec := "writerDoes", inPlace := ["slices.overlaps[quillwork/api.Char]"], unfollowed := true, recurses := true, apart := false, narrowed := true }
def WriterDoesUptoSaid : Prop := writerDoesUptoRow.holds Try.pinned (OpenSpec.upto writerDoesSpec)

/-- 'quillworklaw.WriterKnows', WHERE WHAT IT READS IS OF BULK AT MOST 1048576: true; the input reads as it did. -/
def writerKnowsUptoRow : OpenClaim := { program := "ytneoeokfffnonac", sum := "95e24b6ee54c8802b3455c6bb985b293079774195fae081c3c6783b62185912b", func := "quillwork/quillworklaw.WriterKnows", spec := "writerKnows", inPlace := ["slices.overlaps[quillwork/api.Char]"], unfollowed := true, recurses := true, apart := false, narrowed := true }
def WriterKnowsUptoSaid : Prop := writerKnowsUptoRow.holds Try.pinned (OpenSpec.upto writerKnowsSpec)

/-- 'quillworklaw.DesksClear', WHERE WHAT IT READS IS OF BULK AT MOST 1048576: true; the input reads as it did. -/
def desksClearUptoRow : OpenClaim := { program := "ytneoeokfffnonac", sum := "95e24b6ee54c8802b3455c6bb985b293079774195fae081c3c6783b62185912b", func := "quillwork/quillworklaw.DesksClear", spec := "desksClear", inPlace := ["slices.overlaps[quillwork/api.Char]"], unfollowed := true, recurses := true, apart := false, narrowed := true }
def DesksClearUptoSaid : Prop := desksClearUptoRow.holds Try.pinned (OpenSpec.upto desksClearSpec)

/-- 'quillworklaw.DesksAlone', WHERE WHAT IT READS IS OF BULK AT MOST 1048576: true; the input reads as it did. -/
def desksAloneUptoRow : OpenClaim := { program := "ytneoeokfffnonac", sum := "95e24b6ee54c8802b3455c6bb985b293079774195fae081c3c6783b62185912b", func := "quillwork/quillworklaw.DesksAlone", spec := "desksAlone", inPlace := ["slices.overlaps[quillwork/api.Char]"], unfollowed := true, recurses := true, apart := false, narrowed := true }
def DesksAloneUptoSaid : Prop := desksAloneUptoRow.holds Try.pinned (OpenSpec.upto desksAloneSpec)

/-- 'quillworklaw.DesksAgain', WHERE WHAT IT READS IS OF BULK AT MOST 1048576: true; the input reads as it did. -/
def desksAgainUptoRow : OpenClaim := { program := "ytneoeokfffnonac", sum := "95e24b6ee54c8802b3455c6bb985b293079774195fae081c3c6783b62185912b", func := "quillwork/quillworklaw.DesksAgain", spec := "desksAgain", inPlace := ["slices.overlaps[quillwork/api.Char]"], unfollowed := true, recurses := true, apart := false, narrowed := true }
def DesksAgainUptoSaid : Prop := desksAgainUptoRow.holds Try.pinned (OpenSpec.upto desksAgainSpec)

/-- 'quillworklaw.DesksMeet', WHERE WHAT IT READS IS OF BULK AT MOST 1048576: true; the input reads as it did. -/
def desksMeetUptoRow : OpenClaim := { program := "ytneoeokfffnonac", sum := "95e24b6ee54c8802b3455c6bb985b293079774195fae081c3c6783b62185912b", func := "quillwork/quillworklaw.DesksMeet", spec := "desksMeet", inPlace := ["slices.overlaps[quillwork/api.Char]"], unfollowed := true, recurses := true, apart := false, narrowed := true }
def DesksMeetUptoSaid : Prop := desksMeetUptoRow.holds Try.pinned (OpenSpec.upto desksMeetSpec)

/-- 'quillworklaw.DesksLate', WHERE WHAT IT READS IS OF BULK AT MOST 1048576: true; the input reads as it did. -/
def desksLateUptoRow : OpenClaim := { program := "ytneoeokfffnonac", sum := "95e24b6ee54c8802b3455c6bb985b293079774195fae081c3c6783b62185912b", func := "quillwork/quillworklaw.DesksLate", spec := "desksLate", inPlace := ["slices.overlaps[quillwork/api.Char]"], unfollowed := true, recurses := true, apart := false, narrowed := true }
def DesksLateUptoSaid : Prop := desksLateUptoRow.holds Try.pinned (OpenSpec.upto desksLateSpec)

/-- 'quillworklaw.StoryDoes', WHERE WHAT IT READS IS OF BULK AT MOST 1048576: true; the input reads as it did. -/
def storyDoesUptoRow : OpenClaim := { program := "ytneoeokfffnonac", sum := "95e24b6ee54c8802b3455c6bb985b293079774195fae081c3c6783b62185912b", func := "quillwork/quillworklaw.StoryDoes", spec := "storyDoes", inPlace := ["slices.overlaps[quillwork/api.Char]"], unfollowed := true, recurses := true, apart := false, narrowed := true }
def StoryDoesUptoSaid : Prop := storyDoesUptoRow.holds Try.pinned (OpenSpec.upto storyDoesSpec)

/-- 'quillworklaw.StoryGrows', WHERE WHAT IT READS IS OF BULK AT MOST 1048576: true; the input reads as it did. -/
def storyGrowsUptoRow : OpenClaim := { program := "ytneoeokfffnonac", sum := "95e24b6ee54c8802b3455c6bb985b293079774195fae081c3c6783b62185912b", func := "quillwork/quillworklaw.StoryGrows", spec := "storyGrows", inPlace := ["slices.overlaps[quillwork/api.Char]"], unfollowed := true, recurses := true, apart := false, narrowed := true }
def StoryGrowsUptoSaid : Prop := storyGrowsUptoRow.holds Try.pinned (OpenSpec.upto storyGrowsSpec)

/-- 'quillworklaw.StoryWhere', WHERE WHAT IT READS IS OF BULK AT MOST 1048576: true; the input reads as it did. -/
def storyWhereUptoRow : OpenClaim := { program := "ytneoeokfffnonac", sum := "95e24b6ee54c8802b3455c6bb985b293079774195fae081c3c6783b62185912b", func := "quillwork/quillworklaw.StoryWhere", spec := "storyWhere", inPlace := ["slices.overlaps[quillwork/api.Char]"], unfollowed := true, recurses := true, apart := false, narrowed := true }
def StoryWhereUptoSaid : Prop := storyWhereUptoRow.holds Try.pinned (OpenSpec.upto storyWhereSpec)

end Rows
end Go.Proofs.Ytneoeokfffnonac
