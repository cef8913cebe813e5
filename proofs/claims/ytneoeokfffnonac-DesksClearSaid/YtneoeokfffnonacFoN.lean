/- The walk of foldBegun. -/
import Derived.Test.YtneoeokfffnonacAllW
import Derived.Test.YtneoeokfffnonacPlain
set_option linter.unusedVariables false
set_option linter.unusedSimpArgs false
namespace Go.Proofs.Ytneoeokfffnonac
open Go.RowKit

def Df : List Dd := [⟨1, 0, 1, 0, 0, 0, ⟨#[97, 99]⟩⟩, ⟨1, 1, 1, 1, 1, 0, ⟨#[98]⟩⟩, ⟨2, 0, 2, 1, 1, 1, ⟨#[]⟩⟩]
def Lf : List Ch := [⟨97, 0, 1, 0, 1, 0, 0⟩, ⟨98, 1, 1, 0, 2, 0, 0⟩, ⟨99, 0, 1, 1, 1, 3, 1⟩]
theorem Df_all : allF Df = (Lf, 0, 0) := by decide +kernel
theorem Lf_text : textF Lf = [97, 98] := by decide +kernel

theorem All_n (a : Option Addr) (cap : Nat) (ds : List Dd) (n : Nat) (hn : ds.length = n) (R : List Ch × Int × Int) (hR : allF ds = R) (m : Nat) (hm : R.1.length = m) (w : World) (hs : SlDd w a cap ds) (hok : ∀ d ∈ ds, d.Text.size ≤ maxLen ∧ i64ok d.Many) (hlen : ds.length ≤ 1000000) :
    Calls Try.prog 33 #[.slice a n cap] w fun e w' => ∃ a' cap', e = .returned (.tuple #[.slice a' m cap', .agg #[.int .i64 R.2.1, .int .i64 R.2.2]]) ∧
      OwnRow w' w.heap.size 86 7 a' R.1.length cap' (flat R.1) ∧ Below w.heap.size w w' := by
  subst hn; subst hR; subst hm; exact All_c a cap ds w hs hok hlen
theorem Text_n (a : Option Addr) (cap : Nat) (l : List Ch) (n : Nat) (hn : l.length = n) (s : ByteArray) (hv : strOfNums (textF l) = s) (w : World) (hs : SlCh w a cap l) (hsz : l.length ≤ 140737488355328) :
    Calls Try.prog 34 #[.slice a n cap] w fun e w' => e = .returned (.string s) ∧ Below w.heap.size w w' := by
  subst hn; subst hv; exact Text_c a cap l w hs hsz
theorem New_n (d : Dd) (n : Int) (m : Nat) (hm : (newOf d n).length = m) (w : World) (hs : d.Text.size * 56 ≤ 140737488355328) :
    Calls Try.prog 88 #[.agg #[.int .i64 d.Kind, .int .i64 d.By, .int .i64 d.No, .int .i64 d.Seen, .int .i64 d.At, .int .i64 d.Many, .string d.Text], .int .i64 n] w fun e w' => ∃ a' cap', e = .returned (.slice a' m cap') ∧
      OwnRow w' w.heap.size 86 7 a' (newOf d n).length cap' (flat (newOf d n)) ∧ Below w.heap.size w w' := by
  subst hm; exact New_c d n w hs
end Go.Proofs.Ytneoeokfffnonac
