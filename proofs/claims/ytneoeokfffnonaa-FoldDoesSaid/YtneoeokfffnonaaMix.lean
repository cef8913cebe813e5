/- Regions that draw their order: operations that only read (in whatever later world) may come in any order; between them operations with an effect, each of which can come up at one place alone. One walk, in the order of the text. No program in sight. -/
import Derived.Test.YtneoeokfffnonaaBase
namespace Go.Proofs.Ytneoeokfffnonaa
open Go.RowKit

section
variable {P : Program} {ops : Array Oper} {md : Region.Mode}

/-- w' is later than w: nothing that was in w has changed. -/
def Later (w w' : World) : Prop := Below w.heap.size w w'
theorem Later.refl (w : World) : Later w w := Below.refl _ _
theorem Later.trans {a b c : World} (h : Later a b) (k : Later b c) : Later a c := Below.trans h (Below.mono k (Below.size h))




/-- One operation, carried out in w: what follows is K, in a later world. -/
def Oper.mixUpon (P : Program) (o : Oper) (a : Act) (w : World) (K : Act → World → Prop) : Result Next → Prop
  | .ok (.value v) w' => Later w w' ∧ K (a.put o.dst v) w'
  | .ok .skip w' => Later w w' ∧ K (a.put o.dst undef) w'
  | .ok (.enter f args) w' => Later w w' ∧ Calls P f args w' fun e w'' => ∃ v, e = .returned v ∧ Later w w'' ∧ K (a.put o.dst v) w''
  | _ => False

/-- Operation number i comes up in state a, in w or in a later world. -/
def mixOp (P : Program) (ops : Array Oper) (i : Nat) (K : Act → World → Prop) (a : Act) (w : World) : Prop :=
  match ops[i]? with
  | none => K a w
  | some o => if Region.wanted o (yielded ops a.tmps) then ∀ w1, Later w w1 → Oper.mixUpon P o a w1 K ((execOp a.eval o).run P w1) else K (a.put o.dst undef) w

theorem Oper.mixUpon_mono {o : Oper} {a : Act} {w : World} {K K' : Act → World → Prop} (h : ∀ a w', K a w' → K' a w') {r : Result Next} (hh : Oper.mixUpon P o a w K r) : Oper.mixUpon P o a w K' r := by
  cases r with
  | ok n w' =>
    cases n <;> simp only [Oper.mixUpon] at hh ⊢
    case enter f args => exact ⟨hh.1, hh.2.mono fun e w'' ⟨v, h1, h2, h3⟩ => ⟨v, h1, h2, h _ _ h3⟩⟩
    all_goals exact ⟨hh.1, h _ _ hh.2⟩
  | halt x w' => simp only [Oper.mixUpon] at hh

theorem mixOp_mono {i : Nat} {a : Act} {w : World} {K K' : Act → World → Prop} (h : ∀ a w', K a w' → K' a w') (hh : mixOp P ops i K a w) : mixOp P ops i K' a w := by
  unfold mixOp at *
  split
  · rename_i ho; simp only [ho] at hh; exact h _ _ hh
  · rename_i o ho
    simp only [ho] at hh
    split
    · rename_i hw; simp only [hw, if_true] at hh; exact fun w1 h1 => Oper.mixUpon_mono h (hh w1 h1)
    · rename_i hw; simp only [hw] at hh; exact h _ _ hh

/-- Whatever order is picked from here on, in w or in a later world. -/
def wpAnyM (P : Program) (md : Region.Mode) (ops : Array Oper) (Q : Act → World → Prop) : Nat → Array Bool → Act → World → Prop
  | 0, listed, a, w => Region.ready md ops listed = [] ∧ ∀ w', Later w w' → Q a w'
  | fuel + 1, listed, a, w =>
    (Region.ready md ops listed = [] → ∀ w', Later w w' → Q a w') ∧
    ∀ i ∈ Region.ready md ops listed, mixOp P ops i (wpAnyM P md ops Q fuel (listed.setIfInBounds i true)) a w

theorem mixOp_later {i : Nat} {a : Act} {w w' : World} {K : Act → World → Prop} (hK : ∀ a w w', Later w w' → K a w → K a w') (hl : Later w w') (hh : mixOp P ops i K a w) : mixOp P ops i K a w' := by
  unfold mixOp at *
  split
  · rename_i ho; simp only [ho] at hh; exact hK _ _ _ hl hh
  · rename_i o ho
    simp only [ho] at hh
    split
    · rename_i hw; simp only [hw, if_true] at hh; exact fun w1 h1 => hh w1 (hl.trans h1)
    · rename_i hw; simp only [hw] at hh; exact hK _ _ _ hl hh

theorem wpAnyM_later {Q : Act → World → Prop} : ∀ (fuel : Nat) (listed : Array Bool) (a : Act) (w w' : World), Later w w' → wpAnyM P md ops Q fuel listed a w → wpAnyM P md ops Q fuel listed a w'
  | 0, _, _, _, _, hl, h => ⟨h.1, fun w2 h2 => h.2 w2 (hl.trans h2)⟩
  | fuel + 1, _, _, _, _, hl, h => ⟨fun h0 w2 h2 => h.1 h0 w2 (hl.trans h2), fun i hi => mixOp_later (fun a w w' => wpAnyM_later fuel _ a w w') hl (h.2 i hi)⟩

theorem wpOp_of_mix {i : Nat} {a : Act} {w : World} {K : Act → World → Prop} {K' : Act → World → Prop} {Q' : Exit → Act → World → Prop} (h : ∀ a w', K a w' → K' a w') (hh : mixOp P ops i K a w) : wpOp P ops Q' i K' a w := by
  unfold mixOp at hh
  unfold wpOp
  split
  · rename_i ho; simp only [ho] at hh; exact h _ _ hh
  · rename_i o ho
    simp only [ho] at hh
    split
    · rename_i hw
      simp only [hw, if_true] at hh
      refine .inl ?_
      have h1 := hh w (Later.refl w)
      unfold Oper.wp
      generalize (execOp a.eval o).run P w = r at *
      cases r with
      | ok n w' =>
        cases n <;> simp only [Oper.mixUpon] at h1 <;> simp only [Oper.upon]
        case value u => exact h _ _ h1.2
        case skip => exact h _ _ h1.2
        case enter f args => exact h1.2.mono fun e w'' ⟨v, he, _, hk⟩ => by subst he; exact h _ _ hk
      | halt x w' => simp only [Oper.mixUpon] at h1
    · rename_i hw; simp only [hw] at hh; exact h _ _ hh

theorem wpAny_of_mix {Q : Act → World → Prop} {Q' : Exit → Act → World → Prop} (hQ : ∀ a w, Q a w → Q' .normal a w) : ∀ (fuel : Nat) (listed : Array Bool) (a : Act) (w : World),
    wpAnyM P md ops Q fuel listed a w → wpAny P md ops Q' fuel listed a w
  | 0, _, _, w, h => ⟨h.1, hQ _ _ (h.2 w (Later.refl w))⟩
  | fuel + 1, _, _, w, h => ⟨fun h0 => hQ _ _ (h.1 h0 w (Later.refl w)), fun i hi => wpOp_of_mix (fun a' w' => wpAny_of_mix hQ fuel _ a' w') (h.2 i hi)⟩

/-- In state a, in w and in every later world, operation o leaves v in its temporary, and no more than a later world. -/
def YieldsM (P : Program) (ops : Array Oper) (o : Oper) (v : Value) (a : Act) (w : World) : Prop :=
  (Region.wanted o (yielded ops a.tmps) = true ∧ ∀ w1, Later w w1 → o.quietAt P a (Later w1) w1 v) ∨
  (Region.wanted o (yielded ops a.tmps) = false ∧ v = undef)

theorem YieldsM.later {o : Oper} {v : Value} {a : Act} {w w' : World} (hl : Later w w') (h : YieldsM P ops o v a w) : YieldsM P ops o v a w' :=
  h.imp (fun h => ⟨h.1, fun w1 h1 => h.2 w1 (hl.trans h1)⟩) id

theorem YieldsM.mixOp {i : Nat} {o : Oper} {v : Value} {a : Act} {w : World} (hi : ops[i]? = some o) (hy : YieldsM P ops o v a w) {K : Act → World → Prop} (hK : ∀ a w w', Later w w' → K a w → K a w') (h : K (a.put o.dst v) w) : mixOp P ops i K a w := by
  unfold Proofs.Ytneoeokfffnonaa.mixOp
  simp only [hi]
  rcases hy with ⟨hw, hv⟩ | ⟨hw, rfl⟩
  · simp only [hw, if_true]
    intro w1 h1
    have h2 := hv w1 h1
    unfold Oper.quietAt at h2
    generalize (execOp a.eval o).run P w1 = r at *
    cases r with
    | ok n w' =>
      cases n <;> simp only [Oper.quietUpon] at h2 <;> simp only [Oper.mixUpon]
      case value u => obtain ⟨rfl, rfl⟩ := h2; exact ⟨Later.refl _, hK _ _ _ h1 h⟩
      case skip => obtain ⟨rfl, rfl⟩ := h2; exact ⟨Later.refl _, hK _ _ _ h1 h⟩
      case enter f args =>
        obtain ⟨rfl, hc⟩ := h2
        exact ⟨Later.refl _, hc.mono fun e w'' ⟨he, hl⟩ => ⟨v, he, hl, hK _ _ _ (h1.trans hl) h⟩⟩
    | halt x w' => simp only [Oper.quietUpon] at h2
  · simp only [hw, Bool.false_eq_true, if_false]; exact h

theorem YieldsM.of_same {o : Oper} {v : Value} {a a' : Act} {w : World} (hy : YieldsM P ops o v a w) (he : execOp a'.eval o = execOp a.eval o)
    (hw : Region.wanted o (yielded ops a'.tmps) = Region.wanted o (yielded ops a.tmps)) : YieldsM P ops o v a' w := by
  unfold YieldsM Oper.quietAt at *
  rw [he, hw]
  exact hy

theorem mixOp_put {j : Nat} {oi oj : Oper} {v : Value} (hj : ops[j]? = some oj) (hap : oi.apart ops oj = true)
    (hsi : ∀ cs b, oi.op ≠ .select cs b) (hsj : ∀ cs b, oj.op ≠ .select cs b) {K : Act → World → Prop} {a : Act} {w : World}
    (hy : YieldsM P ops oi v a w) (h : mixOp P ops j K (a.put oi.dst v) w) :
    mixOp P ops j (fun a' w' => YieldsM P ops oi v a' w' ∧ K (a'.put oi.dst v) w') a w := by
  obtain ⟨h1, h2, h3⟩ := Oper.apart_spec hap
  have keep : ∀ (a : Act) (w : World), YieldsM P ops oi v a w → ∀ u, YieldsM P ops oi v (a.put oj.dst u) w := fun a w hy u =>
    hy.of_same (execOp_put oi hsi a oj.dst u h3) (wanted_put oi a oj.dst u h3)
  unfold mixOp at *
  simp only [hj] at *
  rw [wanted_put oj a oi.dst v h1] at h
  split
  · rename_i hw
    simp only [hw, if_true] at h
    intro w1 hl
    have h4 := h w1 hl
    rw [execOp_put oj hsj a oi.dst v h1] at h4
    generalize (execOp a.eval oj).run P w1 = r at *
    cases r with
    | ok n w' =>
      cases n <;> simp only [Oper.mixUpon] at h4 ⊢
      case value u => exact ⟨h4.1, (keep a w hy u).later (hl.trans h4.1), by rw [← Act.put_comm a v u h2]; exact h4.2⟩
      case skip => exact ⟨h4.1, (keep a w hy undef).later (hl.trans h4.1), by rw [← Act.put_comm a v undef h2]; exact h4.2⟩
      case enter f args =>
        exact ⟨h4.1, h4.2.mono fun e w'' ⟨u, he, hl2, hk⟩ => ⟨u, he, hl2, (keep a w hy u).later (hl.trans hl2), by rw [← Act.put_comm a v u h2]; exact hk⟩⟩
    | halt x w' => simp only [Oper.mixUpon] at h4
  · rename_i hw
    simp only [hw] at h
    exact ⟨keep a w hy _, by rw [← Act.put_comm a v undef h2]; exact h⟩

theorem wpAnyM_first {Q : Act → World → Prop} {i : Nat} {oi : Oper} {v : Value} (hi : ops[i]? = some oi) (hsel : ∀ (j : Nat) (o : Oper) cs b, ops[j]? = some o → o.op ≠ .select cs b) :
    ∀ (fuel : Nat) (listed : Array Bool) (a : Act) (w : World),
      (∀ j oj, ops[j]? = some oj → j ≠ i → listed.getD j true = false → (∀ e ∈ oj.after, Region.binds md e = true → e.on ≠ i) → oi.apart ops oj = true) →
      i ∈ Region.ready md ops listed → YieldsM P ops oi v a w →
      wpAnyM P md ops Q fuel (listed.setIfInBounds i true) (a.put oi.dst v) w → wpAnyM P md ops Q (fuel + 1) listed a w := by
  intro fuel
  induction fuel with
  | zero =>
    intro listed a w _ hr hy H
    refine ⟨fun h => (by rw [h] at hr; cases hr), fun j hj => ?_⟩
    by_cases hji : j = i
    · subst hji; exact hy.mixOp hi (fun a w w' => wpAnyM_later _ _ a w w') H
    · have := ready_mono hj hji
      rw [H.1] at this
      cases this
  | succ fuel ih =>
    intro listed a w hfree hr hy H
    refine ⟨fun h => (by rw [h] at hr; cases hr), fun j hj => ?_⟩
    by_cases hji : j = i
    · subst hji; exact hy.mixOp hi (fun a w w' => wpAnyM_later _ _ a w w') H
    · have h1 := H.2 j (ready_mono hj hji)
      obtain ⟨hjun, oj, hoj, hall⟩ := mem_ready.1 hj
      have hnot : ∀ e ∈ oj.after, Region.binds md e = true → e.on ≠ i := fun e he hb heq => by
        have h1 := hall e he hb
        have h0 := (mem_ready.1 hr).1
        rw [heq] at h1
        rcases Nat.lt_or_ge i listed.size with h' | h'
        · simp [h'] at h0 h1; rw [h0] at h1; cases h1
        · simp [Array.getElem?_eq_none h'] at h1
      have h2 := mixOp_put hoj (hfree j oj hoj hji hjun hnot) (fun cs b => hsel i oi cs b hi) (fun cs b => hsel j oj cs b hoj) hy h1
      have hfree' : ∀ k ok, ops[k]? = some ok → k ≠ i → (listed.setIfInBounds j true).getD k true = false →
          (∀ e ∈ ok.after, Region.binds md e = true → e.on ≠ i) → oi.apart ops ok = true := fun k ok hk hki hun hno => by
        refine hfree k ok hk hki ?_ hno
        by_cases hjk : j = k
        · subst hjk; exact hjun
        · rw [getD_set_ne true hjk] at hun; exact hun
      refine mixOp_mono (fun a' w' h3 => ih (listed.setIfInBounds j true) a' w' hfree' (ready_mono hr (Ne.symm hji)) h3.1 ?_) h2
      rw [Array.setIfInBounds_comm _ _ hji]
      exact h3.2

/-- The walk: the operations in the order 'ord'. One that only reads (and calls that leave what was there) hands back one value in whatever later world; at a place at which nothing else can come up (its number is among 'cuts') an operation may do more. -/
def wpMix (P : Program) (ops : Array Oper) (cuts : List Nat) (Q : Act → World → Prop) : List Nat → Act → World → Prop
  | [], a, w => ∀ w', Later w w' → Q a w'
  | k :: l, a, w =>
    match ops[k]? with
    | none => False
    | some o =>
      if Region.wanted o (yielded ops a.tmps) then
        (if cuts.contains k then ∀ w1, Later w w1 → Oper.mixUpon P o a w1 (wpMix P ops cuts Q l) ((execOp a.eval o).run P w1)
         else ∃ v, (∀ w1, Later w w1 → o.quietAt P a (Later w1) w1 v) ∧ wpMix P ops cuts Q l (a.put o.dst v) w)
      else wpMix P ops cuts Q l (a.put o.dst undef) w

/-- Is each number among 'cuts' the only one that can come up at its place, and each other one apart from all that it need not wait for? -/
def mixFrom (md : Region.Mode) (ops : Array Oper) (cuts : List Nat) : List Nat → Array Bool → Bool
  | [], listed => (Region.ready md ops listed).isEmpty
  | k :: l, listed => (if cuts.contains k then Region.ready md ops listed == [k] && Region.free md ops listed k else (Region.ready md ops listed).contains k && Region.free md ops listed k) && mixFrom md ops cuts l (listed.setIfInBounds k true)
def mixB (md : Region.Mode) (ops : Array Oper) (cuts ord : List Nat) : Bool := Region.noSelect ops && (ord.length == ops.size) && mixFrom md ops cuts ord (Array.replicate ops.size false)

theorem wpMix_later {cuts : List Nat} {Q : Act → World → Prop} : ∀ (l : List Nat) (a : Act) (w w' : World), Later w w' → wpMix P ops cuts Q l a w → wpMix P ops cuts Q l a w'
  | [], _, _, _, hl, h => fun w2 h2 => h w2 (hl.trans h2)
  | k :: l, a, w, w', hl, h => by
    unfold wpMix at *
    split
    · rename_i ho; simp only [ho] at h
    · rename_i o ho
      simp only [ho] at h
      split
      · rename_i hw
        simp only [hw, if_true] at h
        split
        · rename_i hc; simp only [hc, if_true] at h; exact fun w1 h1 => h w1 (hl.trans h1)
        · rename_i hc
          simp only [hc] at h
          obtain ⟨v, h1, h2⟩ := h
          exact ⟨v, fun w1 hw1 => h1 w1 (hl.trans hw1), wpMix_later l _ _ _ hl h2⟩
      · rename_i hw; simp only [hw] at h; exact wpMix_later l _ _ _ hl h

theorem wpAnyM_lex {cuts : List Nat} {Q : Act → World → Prop} (hs : Region.noSelect ops = true) : ∀ (l : List Nat) (listed : Array Bool) (a : Act) (w : World),
    mixFrom md ops cuts l listed = true → wpMix P ops cuts Q l a w → wpAnyM P md ops Q l.length listed a w
  | [], _, _, _, hB, h => ⟨by simpa [mixFrom] using hB, h⟩
  | k :: l, listed, a, w, hB, h => by
    simp only [mixFrom, Bool.and_eq_true] at hB
    obtain ⟨hB1, hB'⟩ := hB
    have ih := fun a w => wpAnyM_lex (cuts := cuts) (Q := Q) hs l (listed.setIfInBounds k true) a w hB'
    unfold wpMix at h
    cases h0 : ops[k]? with
    | none => simp only [h0] at h
    | some o =>
    simp only [h0] at h
    by_cases hw : Region.wanted o (yielded ops a.tmps) = true
    · simp only [hw, if_true] at h
      by_cases hc : cuts.contains k = true
      · simp only [hc, if_true] at h hB1
        simp only [Bool.and_eq_true, beq_iff_eq] at hB1
        refine ⟨fun h1 => (by rw [hB1.1] at h1; cases h1), fun i hi => ?_⟩
        rw [hB1.1] at hi
        obtain rfl : i = k := by simpa using hi
        unfold mixOp
        simp only [h0, hw, if_true]
        exact fun w1 h1 => Oper.mixUpon_mono (fun a' w' => ih a' w') (h w1 h1)
      · simp only [hc] at h hB1
        simp only [Bool.false_eq_true, if_false, Bool.and_eq_true] at hB1 h
        obtain ⟨v, hy, hK⟩ := h
        exact wpAnyM_first h0 (Region.noSelect_spec hs) l.length listed a w (Region.free_spec h0 hB1.2) (by simpa using hB1.1) (.inl ⟨hw, hy⟩) (ih _ _ hK)
    · simp only [hw] at h
      have hf : Region.free md ops listed k = true ∧ k ∈ Region.ready md ops listed := by
        by_cases hc : cuts.contains k = true
        · simp only [hc, if_true, Bool.and_eq_true, beq_iff_eq] at hB1; exact ⟨hB1.2, by rw [hB1.1]; simp⟩
        · simp only [hc, Bool.false_eq_true, if_false, Bool.and_eq_true] at hB1; exact ⟨hB1.2, by simpa using hB1.1⟩
      exact wpAnyM_first h0 (Region.noSelect_spec hs) l.length listed a w (Region.free_spec h0 hf.1) hf.2 (.inr ⟨by simpa using hw, rfl⟩) (ih _ _ h)

theorem later_drew (w : World) : Later w { w with drawn := w.drawn + 1 } := Below.drew (Below.refl _ _)

theorem wp_region_mix {id : Nat} {Q : Exit → Act → World → Prop} {a : Act} {w : World} {ops : Array Oper} (cuts ord : List Nat) (hm : P.follows .mixedOrders = true) (hB : mixB .any ops cuts ord = true)
    (h : wpMix P ops cuts (fun a' w' => Q .normal a' w') ord a w) : (Code.region id ops true).wp P Q a w := by
  simp only [mixB, Bool.and_eq_true, beq_iff_eq] at hB
  refine wp_region_any hm (wpAny_of_mix (Q := fun a' w' => Q .normal a' w') (fun _ _ h => h) _ _ _ _ ?_)
  have := wpAnyM_lex (P := P) (md := .any) (cuts := cuts) (Q := fun a' w' => Q .normal a' w') hB.1.1 ord (Array.replicate ops.size false) a { w with drawn := w.drawn + 1 } hB.2 (wpMix_later ord a w _ (later_drew w) h)
  rwa [hB.1.2] at this
end
end Go.Proofs.Ytneoeokfffnonaa
