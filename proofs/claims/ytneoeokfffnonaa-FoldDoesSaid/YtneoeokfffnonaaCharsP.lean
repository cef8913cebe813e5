/- The plain functions of layer 1 and what the walks need of them. No program in sight. -/
import Derived.Test.YtneoeokfffnonaaBase
namespace Go.Proofs.Ytneoeokfffnonaa
open Go.RowKit

def isWriter (x : Int) : Bool := decide (0 ≤ x) && decide (x < 4)
def bitOf (x : Int) : Int := if x = 0 then 1 else if x = 1 then 2 else if x = 2 then 4 else if x = 3 then 8 else 0
def Ch.knowsIn (c : Ch) (seen by_ : Int) : Bool := decide (c.In ≤ seen) || c.By == by_
def Ch.knowsOut (c : Ch) (seen by_ : Int) : Bool := (decide (0 < c.Out) && decide (c.Out ≤ seen)) || bits .and .i64 c.Gone (bitOf by_) != 0
def Ch.sees (c : Ch) (seen by_ : Int) : Bool := c.knowsIn seen by_ && !c.knowsOut seen by_
def Ch.same (a b : Ch) : Bool := a.By == b.By && a.No == b.No && a.K == b.K

def vis (seen by_ : Int) (l : List Ch) : List Ch := l.filter fun c => c.sees seen by_
/-- The numbers of the bytes that it sees. -/
def viewN (seen by_ : Int) (l : List Ch) : List Int := (vis seen by_ l).map Ch.C
def viewV (seen by_ : Int) (l : List Ch) : List Value := (viewN seen by_ l).map (Value.int .u8)

theorem vis_snoc (seen by_ : Int) (l : List Ch) (k : Nat) (h : k < l.length) : vis seen by_ (l.take (k + 1)) = vis seen by_ (l.take k) ++ (if l[k].sees seen by_ then [l[k]] else []) := by
  unfold vis
  rw [List.take_succ_eq_append_getElem h, List.filter_append]
  congr 1
  by_cases hs : l[k].sees seen by_ <;> simp [hs]

theorem vis_le (seen by_ : Int) (l : List Ch) : (vis seen by_ l).length ≤ l.length := List.length_filter_le _ _

def behindFrom (seen by_ : Int) : List Ch → Int → Int → Int
  | [], _, _ => -1
  | c :: l, n, i => if c.sees seen by_ then (if n = 1 then i + 1 else behindFrom seen by_ l (n - 1) (i + 1)) else behindFrom seen by_ l n (i + 1)
def behind (seen by_ : Int) (l : List Ch) (n : Int) : Int := if n = 0 then 0 else behindFrom seen by_ l n 0

theorem behindFrom_neg (seen by_ : Int) (l : List Ch) : ∀ (n i : Int), n < 1 → behindFrom seen by_ l n i = -1 := by
  induction l with
  | nil => intros; rfl
  | cons c l ih =>
    intro n i h
    unfold behindFrom
    rw [if_neg (show ¬ n = 1 by omega), ih _ _ h, ih _ _ (show n - 1 < 1 by omega)]
    simp

def findFrom (c : Ch) : List Ch → Int → Int
  | [], _ => -1
  | x :: l, i => if x.same c then i else findFrom c l (i + 1)
def find (l : List Ch) (c : Ch) : Int := findFrom c l 0

/-- Each number of a byte lies in its kind. -/
def i64ok (x : Int) : Prop := -9223372036854775808 ≤ x ∧ x < 9223372036854775808
def Ch.ok (c : Ch) : Prop := (0 ≤ c.C ∧ c.C < 256) ∧ i64ok c.By ∧ i64ok c.No ∧ i64ok c.K ∧ i64ok c.In ∧ i64ok c.Out ∧ i64ok c.Gone

theorem nat_and_pow (n k : Nat) : n &&& 2 ^ k = if n.testBit k then 2 ^ k else 0 := by
  apply Nat.eq_of_testBit_eq
  intro j
  rw [Nat.testBit_and, Nat.testBit_two_pow]
  by_cases hj : k = j
  · subst hj
    cases hb : n.testBit k <;> simp
  · cases hb : n.testBit k <;> simp [hj]

theorem bits_and_pow (g : Int) (k : Nat) (hk : k < 62) : bits .and .i64 g ((2 ^ k : Nat) : Int) = if ((g % 18446744073709551616).toNat).testBit k then ((2 ^ k : Nat) : Int) else 0 := by
  have hp : (2 : Nat) ^ k < 2 ^ 62 := Nat.pow_lt_pow_right (by omega) hk
  have e2 : (BitVec.ofInt 64 ((2 ^ k : Nat) : Int)).toNat = 2 ^ k := by
    rw [BitVec.toNat_ofInt]
    have : ((2 ^ k : Nat) : Int) % ((2 ^ 64 : Nat) : Int) = ((2 ^ k : Nat) : Int) := Int.emod_eq_of_lt (Int.natCast_nonneg _) (Int.ofNat_lt.2 (Nat.lt_trans hp (by decide)))
    rw [this]; rfl
  have e1 : (BitVec.ofInt 64 g).toNat = (g % 18446744073709551616).toNat := by rw [BitVec.toNat_ofInt]; rfl
  show IntKind.i64.wrap ((BitVec.ofInt 64 g &&& BitVec.ofInt 64 ((2 ^ k : Nat) : Int)).toNat : Int) = _
  rw [BitVec.toNat_and, e1, e2, nat_and_pow]
  have hp' : ((2 ^ k : Nat) : Int) < 4611686018427387904 := Int.lt_of_lt_of_le (Int.ofNat_lt.2 hp) (by decide)
  have hp0 : (0 : Int) ≤ ((2 ^ k : Nat) : Int) := Int.natCast_nonneg _
  split
  · generalize ((2 ^ k : Nat) : Int) = q at *
    rw [IntKind.wrap_i64]; omega
  · rfl

/-- Is the writer's bit in Gone? -/
def took (g x : Int) : Bool := bits .and .i64 g (bitOf x) != 0

theorem bits_zero (g : Int) : bits .and .i64 g 0 = 0 := by
  show IntKind.i64.wrap ((BitVec.ofInt 64 g &&& BitVec.ofInt 64 0).toNat : Int) = _
  simp; rfl

theorem took_no (g x : Int) (h : isWriter x = false) : took g x = false := by
  have : bitOf x = 0 := by
    simp [isWriter] at h; unfold bitOf; repeat (rw [if_neg (by omega)])
  unfold took; rw [this, bits_zero]; rfl

theorem took_pow (g : Int) (k : Nat) (hk : k < 62) (x : Int) (hx : bitOf x = ((2 ^ k : Nat) : Int)) : took g x = ((g % 18446744073709551616).toNat).testBit k := by
  unfold took; rw [hx, bits_and_pow g k hk]
  have hp : 0 < (2 : Nat) ^ k := Nat.pow_pos (by omega)
  cases hb : ((g % 18446744073709551616).toNat).testBit k
  · simp
  · rw [if_pos rfl]
    have : ((2 ^ k : Nat) : Int) ≠ 0 := by intro h0; have := Int.ofNat_eq_zero.1 h0; omega
    simpa [bne_iff_ne] using this

theorem took_0 (g : Int) : took g 0 = decide (g % 2 = 1) := by
  rw [took_pow g 0 (by omega) 0 rfl, Nat.testBit_eq_decide_div_mod_eq]; congr 1; simp only [Nat.reducePow]; apply propext; omega
theorem took_1 (g : Int) : took g 1 = decide (g / 2 % 2 = 1) := by
  rw [took_pow g 1 (by omega) 1 rfl, Nat.testBit_eq_decide_div_mod_eq]; congr 1; simp only [Nat.reducePow]; apply propext; omega
theorem took_2 (g : Int) : took g 2 = decide (g / 4 % 2 = 1) := by
  rw [took_pow g 2 (by omega) 2 rfl, Nat.testBit_eq_decide_div_mod_eq]; congr 1; simp only [Nat.reducePow]; apply propext; omega
theorem took_3 (g : Int) : took g 3 = decide (g / 8 % 2 = 1) := by
  rw [took_pow g 3 (by omega) 3 rfl, Nat.testBit_eq_decide_div_mod_eq]; congr 1; simp only [Nat.reducePow]; apply propext; omega

theorem isWriter_cases {x : Int} (h : isWriter x = true) : x = 0 ∨ x = 1 ∨ x = 2 ∨ x = 3 := by simp [isWriter] at h; omega

/-- The bits of a number below 0 are those that its complement has not. -/
theorem took_compl (g x : Int) (h : isWriter x = true) : took (-g - 1) x = !took g x := by
  rcases isWriter_cases h with rfl | rfl | rfl | rfl
  · rw [took_0, took_0]; by_cases h : g % 2 = 1 <;> simp [h] <;> omega
  · rw [took_1, took_1]; by_cases h : g / 2 % 2 = 1 <;> simp [h] <;> omega
  · rw [took_2, took_2]; by_cases h : g / 4 % 2 = 1 <;> simp [h] <;> omega
  · rw [took_3, took_3]; by_cases h : g / 8 % 2 = 1 <;> simp [h] <;> omega

/-- What the reference's loop does to a number that is not below 0. -/
def halves : Nat → Int → Int
  | 0, g => g
  | n + 1, g => halves n (g / 2)

theorem took_halves (g : Int) (x : Int) (h : isWriter x = true) : took g x = (halves x.toNat g % 2 == 1) := by
  have e : ∀ a : Int, (a == 1) = decide (a = 1) := fun a => by by_cases h : a = 1 <;> simp [h]
  rcases isWriter_cases h with rfl | rfl | rfl | rfl
  · rw [took_0, e]; rfl
  · rw [took_1, e]; rfl
  · rw [took_2, e]; show decide (g / 4 % 2 = 1) = decide (g / 2 / 2 % 2 = 1); congr 2; omega
  · rw [took_3, e]; show decide (g / 8 % 2 = 1) = decide (g / 2 / 2 / 2 % 2 = 1); congr 2; omega

theorem knowsOut_took (c : Ch) (seen by_ : Int) : c.knowsOut seen by_ = (took c.Gone by_ || (decide (0 < c.Out) && decide (c.Out ≤ seen))) := by
  unfold Ch.knowsOut took; rw [Bool.or_comm]

def bad1 (c : Ch) : Bool := !isWriter c.By || decide (c.No < 1) || decide (c.K < 0) || decide (20 ≤ c.K) || decide (c.Gone < 0) || decide (16 ≤ c.Gone)
def bad2 (log : Int) (c : Ch) : Bool := (c.In != 1073741824 && (decide (c.In < 1) || decide (log < c.In))) || decide (c.Out < 0) || decide (log < c.Out)
def bad3 (c : Ch) : Bool := decide (0 < c.Out) && (decide (c.Out ≤ c.In) || c.Gone == 0)
def chk (log : Int) : List Ch → List Ch → Int
  | _, [] => 0
  | pre, c :: r => if bad1 c then 1 else if bad2 log c then 1 else if bad3 c then 3 else if 0 ≤ find pre c then 6 else chk log (pre ++ [c]) r
/-- chars.Check -/
def listFault (l : List Ch) (log : Int) : Int := if 200 < l.length then 10 else chk log [] l

theorem bad1_cases (c : Ch) : (bad1 c = true ∧ isWriter c.By = false) ∨ (bad1 c = true ∧ isWriter c.By = true ∧ c.No < 1) ∨ (bad1 c = true ∧ isWriter c.By = true ∧ 1 ≤ c.No ∧ c.K < 0) ∨
    (bad1 c = true ∧ isWriter c.By = true ∧ 1 ≤ c.No ∧ 0 ≤ c.K ∧ 20 ≤ c.K) ∨ (bad1 c = true ∧ isWriter c.By = true ∧ 1 ≤ c.No ∧ 0 ≤ c.K ∧ c.K < 20 ∧ c.Gone < 0) ∨
    (bad1 c = true ∧ isWriter c.By = true ∧ 1 ≤ c.No ∧ 0 ≤ c.K ∧ c.K < 20 ∧ 0 ≤ c.Gone ∧ 16 ≤ c.Gone) ∨ (bad1 c = false ∧ isWriter c.By = true ∧ 1 ≤ c.No ∧ 0 ≤ c.K ∧ c.K < 20 ∧ 0 ≤ c.Gone ∧ c.Gone < 16) := by
  unfold bad1
  cases isWriter c.By <;> simp <;> omega

theorem bad2_cases (log : Int) (c : Ch) : (bad2 log c = true ∧ (c.In != 1073741824) = true ∧ c.In < 1) ∨ (bad2 log c = true ∧ (c.In != 1073741824) = true ∧ 1 ≤ c.In ∧ log < c.In) ∨
    (bad2 log c = true ∧ (c.In != 1073741824) = false ∧ c.Out < 0) ∨ (bad2 log c = true ∧ (c.In != 1073741824) = true ∧ 1 ≤ c.In ∧ c.In ≤ log ∧ c.Out < 0) ∨
    (bad2 log c = true ∧ (c.In != 1073741824) = false ∧ 0 ≤ c.Out ∧ log < c.Out) ∨ (bad2 log c = true ∧ (c.In != 1073741824) = true ∧ 1 ≤ c.In ∧ c.In ≤ log ∧ 0 ≤ c.Out ∧ log < c.Out) ∨
    (bad2 log c = false ∧ (c.In != 1073741824) = false ∧ 0 ≤ c.Out ∧ c.Out ≤ log) ∨ (bad2 log c = false ∧ (c.In != 1073741824) = true ∧ 1 ≤ c.In ∧ c.In ≤ log ∧ 0 ≤ c.Out ∧ c.Out ≤ log) := by
  unfold bad2
  by_cases h : c.In = 1073741824 <;> simp [h] <;> omega

theorem bad3_cases (c : Ch) : (bad3 c = false ∧ c.Out ≤ 0) ∨ (bad3 c = true ∧ 0 < c.Out ∧ c.Out ≤ c.In) ∨ (bad3 c = true ∧ 0 < c.Out ∧ c.In < c.Out ∧ (c.Gone == 0) = true) ∨ (bad3 c = false ∧ 0 < c.Out ∧ c.In < c.Out ∧ (c.Gone == 0) = false) := by
  unfold bad3
  by_cases h : c.Gone = 0 <;> simp [h] <;> omega
end Go.Proofs.Ytneoeokfffnonaa
