/- Merged: MixH MixG. -/
import Derived.Test.YtneoeokfffnonabGreatDoorPlain
set_option linter.unusedVariables false
set_option linter.unusedSimpArgs false

/- Merged: MixH MixF MixB. -/

/- The walk of a region with operations that change what was there, at places ahead of which all that stands ahead must have come. No program in sight. -/
namespace Go.Proofs.YtneoeokfffnonabGreatDoor
open Go.RowKit
section
variable {P : Program} {ops : Array Oper} {md : Region.Mode} {H : List Nat}

def Oper.hardUpon (P : Program) (o : Oper) (a : Act) (_w : World) (K : Act → World → Prop) : Result Next → Prop
  | .ok (.value v) w' => K (a.put o.dst v) w'
  | .ok .skip w' => K (a.put o.dst undef) w'
  | .ok (.enter f args) w' => Calls P f args w' fun e w'' => ∃ v, e = .returned v ∧ K (a.put o.dst v) w''
  | _ => False
def mixOpH (P : Program) (ops : Array Oper) (H : List Nat) (i : Nat) (K : Act → World → Prop) (a : Act) (w : World) : Prop :=
  match ops[i]? with
  | none => K a w
  | some o => if Region.wanted o (yielded ops a.tmps) then ∀ w1, Later w w1 → (if H.contains i then Oper.hardUpon P o a w1 K ((execOp a.eval o).run P w1) else Oper.mixUpon P o a w1 K ((execOp a.eval o).run P w1)) else K (a.put o.dst undef) w

theorem Oper.hardUpon_mono {o : Oper} {a : Act} {w : World} {K K' : Act → World → Prop} (h : ∀ a w', K a w' → K' a w') {r : Result Next} (hh : Oper.hardUpon P o a w K r) : Oper.hardUpon P o a w K' r := by
  cases r with
  | ok n w' =>
    cases n <;> simp only [Oper.hardUpon] at hh ⊢
    case enter f args => exact hh.mono fun e w'' ⟨v, h1, h3⟩ => ⟨v, h1, h _ _ h3⟩
    all_goals exact h _ _ hh
  | halt x w' => simp only [Oper.hardUpon] at hh
theorem mixOpH_mono {i : Nat} {a : Act} {w : World} {K K' : Act → World → Prop} (h : ∀ a w', K a w' → K' a w') (hh : mixOpH P ops H i K a w) : mixOpH P ops H i K' a w := by
  unfold mixOpH at *
  split
  · rename_i ho; simp only [ho] at hh; exact h _ _ hh
  · rename_i o ho
    simp only [ho] at hh
    split
    · rename_i hw
      simp only [hw, if_true] at hh
      intro w1 h1
      have h2 := hh w1 h1
      split
      · rename_i hH; simp only [hH, if_true] at h2; exact Oper.hardUpon_mono h h2
      · rename_i hH; simp only [hH, Bool.false_eq_true, if_false] at h2; exact Oper.mixUpon_mono h h2
    · rename_i hw; simp only [hw] at hh; exact h _ _ hh
theorem mixOpH_soft {i : Nat} {a : Act} {w : World} {K : Act → World → Prop} (hi : H.contains i = false) : mixOpH P ops H i K a w = mixOp P ops i K a w := by
  unfold mixOpH mixOp
  cases ops[i]? with
  | none => rfl
  | some o => simp only [hi, Bool.false_eq_true, if_false]
theorem mixOpH_later {i : Nat} {a : Act} {w w' : World} {K : Act → World → Prop} (hK : ∀ a w w', Later w w' → K a w → K a w') (hl : Later w w') (hh : mixOpH P ops H i K a w) : mixOpH P ops H i K a w' := by
  unfold mixOpH at *
  split
  · rename_i ho; simp only [ho] at hh; exact hK _ _ _ hl hh
  · rename_i o ho
    simp only [ho] at hh
    split
    · rename_i hw; simp only [hw, if_true] at hh; exact fun w1 h1 => hh w1 (hl.trans h1)
    · rename_i hw; simp only [hw] at hh; exact hK _ _ _ hl hh

def wpAnyH (P : Program) (md : Region.Mode) (ops : Array Oper) (H : List Nat) (Q : Act → World → Prop) : Nat → Array Bool → Act → World → Prop
  | 0, listed, a, w => Region.ready md ops listed = [] ∧ ∀ w', Later w w' → Q a w'
  | fuel + 1, listed, a, w =>
    (Region.ready md ops listed = [] → ∀ w', Later w w' → Q a w') ∧
    ∀ i ∈ Region.ready md ops listed, mixOpH P ops H i (wpAnyH P md ops H Q fuel (listed.setIfInBounds i true)) a w
theorem wpAnyH_later {Q : Act → World → Prop} : ∀ (fuel : Nat) (listed : Array Bool) (a : Act) (w w' : World), Later w w' → wpAnyH P md ops H Q fuel listed a w → wpAnyH P md ops H Q fuel listed a w'
  | 0, _, _, _, _, hl, h => ⟨h.1, fun w2 h2 => h.2 w2 (hl.trans h2)⟩
  | fuel + 1, _, _, _, _, hl, h => ⟨fun h0 w2 h2 => h.1 h0 w2 (hl.trans h2), fun i hi => mixOpH_later (fun a w w' => wpAnyH_later fuel _ a w w') hl (h.2 i hi)⟩

theorem wpOp_of_mixH {i : Nat} {a : Act} {w : World} {K : Act → World → Prop} {K' : Act → World → Prop} {Q' : Exit → Act → World → Prop} (h : ∀ a w', K a w' → K' a w') (hh : mixOpH P ops H i K a w) : wpOp P ops Q' i K' a w := by
  by_cases hH : H.contains i = true
  case neg => rw [mixOpH_soft (by simpa using hH)] at hh; exact wpOp_of_mix h hh
  unfold mixOpH at hh
  unfold wpOp
  split
  · rename_i ho; simp only [ho] at hh; exact h _ _ hh
  · rename_i o ho
    simp only [ho] at hh
    split
    · rename_i hw
      simp only [hw, if_true, hH] at hh
      refine .inl ?_
      have h1 := hh w (Later.refl w)
      unfold Oper.wp
      generalize (execOp a.eval o).run P w = r at *
      cases r with
      | ok n w' =>
        cases n <;> simp only [Oper.hardUpon] at h1 <;> simp only [Oper.upon]
        case value u => exact h _ _ h1
        case skip => exact h _ _ h1
        case enter f args => exact h1.mono fun e w'' ⟨v, he, hk⟩ => by subst he; exact h _ _ hk
      | halt x w' => simp only [Oper.hardUpon] at h1
    · rename_i hw; simp only [hw] at hh; exact h _ _ hh
theorem wpAny_of_mixH {Q : Act → World → Prop} {Q' : Exit → Act → World → Prop} (hQ : ∀ a w, Q a w → Q' .normal a w) : ∀ (fuel : Nat) (listed : Array Bool) (a : Act) (w : World),
    wpAnyH P md ops H Q fuel listed a w → wpAny P md ops Q' fuel listed a w
  | 0, _, _, w, h => ⟨h.1, hQ _ _ (h.2 w (Later.refl w))⟩
  | fuel + 1, _, _, w, h => ⟨fun h0 => hQ _ _ (h.1 h0 w (Later.refl w)), fun i hi => wpOp_of_mixH (fun a' w' => wpAny_of_mixH hQ fuel _ a' w') (h.2 i hi)⟩

/-- What an operation that was listed must wait for was listed. -/
def Closed (md : Region.Mode) (ops : Array Oper) (listed : Array Bool) : Prop := ∀ j o, ops[j]? = some o → listed.getD j false = true → ∀ e ∈ o.after, Region.binds md e = true → listed.getD e.on false = true
theorem Closed.step {listed : Array Bool} {j : Nat} (h : Closed md ops listed) (hj : j ∈ Region.ready md ops listed) : Closed md ops (listed.setIfInBounds j true) := by
  intro i o ho hi e he hb
  by_cases hij : i = j
  · subst hij
    obtain ⟨_, o', ho', hall⟩ := mem_ready.1 hj
    rw [ho] at ho'; cases ho'
    exact getD_set_true (hall e he hb)
  · rw [getD_set_ne false (Ne.symm hij)] at hi
    exact getD_set_true (h i o ho hi e he hb)
def edge (md : Region.Mode) (ops : Array Oper) (j i : Nat) : Bool := match ops[j]? with
  | none => false
  | some o => o.after.any fun e => Region.binds md e && e.on == i
def chkH (md : Region.Mode) (ops : Array Oper) : List Nat → List Nat → Bool
  | _, [] => true
  | done, i :: rest => done.any (fun j => edge md ops j i) && chkH md ops (i :: done) rest
theorem edge_spec {j i : Nat} (h : edge md ops j i = true) : ∃ o, ops[j]? = some o ∧ ∃ e ∈ o.after, Region.binds md e = true ∧ e.on = i := by
  unfold edge at h
  split at h
  · cases h
  · rename_i o ho
    simp only [Array.any_eq_true', Bool.and_eq_true, beq_iff_eq] at h
    obtain ⟨e, he, h1, h2⟩ := h
    exact ⟨o, ho, e, he, h1, h2⟩
theorem chkH_spec {listed : Array Bool} (hc : Closed md ops listed) : ∀ (rev done : List Nat), (∀ j ∈ done, ∀ i, edge md ops j i = true → listed.getD i false = true) → chkH md ops done rev = true → ∀ i ∈ rev, listed.getD i false = true
  | [], _, _, _, i, hi => by cases hi
  | k :: rest, done, hd, h, i, hi => by
    simp only [chkH, Bool.and_eq_true, List.any_eq_true] at h
    obtain ⟨⟨j, hj, he⟩, h2⟩ := h
    have hk := hd j hj k he
    rcases List.mem_cons.1 hi with rfl | hi
    · exact hk
    · refine chkH_spec hc rest (k :: done) (fun j' hj' i' he' => ?_) h2 i hi
      rcases List.mem_cons.1 hj' with rfl | hj'
      · obtain ⟨o, ho, e, hem, hb, rfl⟩ := edge_spec he'
        exact hc _ o ho hk e hem hb
      · exact hd j' hj' i' he'
def hardB (md : Region.Mode) (ops : Array Oper) (H : List Nat) : List Nat → List Nat → Bool
  | [], _ => true
  | k :: l, bef => (if H.contains k then chkH md ops [k] bef else true) && hardB md ops H l (k :: bef)
theorem hardB_spec {k' : Nat} (hk : H.contains k' = true) : ∀ (l bef : List Nat), hardB md ops H l bef = true → k' ∈ l → ∃ bef', (∀ x ∈ bef, x ∈ bef') ∧ chkH md ops [k'] bef' = true
  | [], _, _, h => by cases h
  | k :: l, bef, hB, h => by
    simp only [hardB, Bool.and_eq_true] at hB
    rcases List.mem_cons.1 h with rfl | h
    · refine ⟨bef, fun x hx => hx, ?_⟩
      have h1 := hB.1
      simp only [hk, if_true] at h1
      exact h1
    · obtain ⟨b, h1, h2⟩ := hardB_spec hk l (k :: bef) hB.2 h
      exact ⟨b, fun x hx => h1 x (List.mem_cons_of_mem _ hx), h2⟩
/-- Where a hard operation can come up all ahead of it has come. -/
theorem hard_waits {listed : Array Bool} {k' i : Nat} {bef : List Nat} (hc : Closed md ops listed) (hr : k' ∈ Region.ready md ops listed) (h : chkH md ops [k'] bef = true) (hi : i ∈ bef) : listed.getD i false = true := by
  refine chkH_spec hc bef [k'] (fun j hj i' he => ?_) h i hi
  simp only [List.mem_singleton] at hj
  subst hj
  obtain ⟨o, ho, e, hem, hb, rfl⟩ := edge_spec he
  obtain ⟨_, o', ho', hall⟩ := mem_ready.1 hr
  rw [ho] at ho'; cases ho'
  exact hall e hem hb
theorem unlisted_false {listed : Array Bool} {i : Nat} (h : listed.getD i true = false) : listed.getD i false = false := by
  rcases Nat.lt_or_ge i listed.size with h' | h'
  · simp [h'] at h ⊢; exact h
  · simp [Array.getElem?_eq_none h']
theorem listed_keep {listed : Array Bool} {i j : Nat} (h : listed.getD i true = true) : (listed.setIfInBounds j true).getD i true = true := by
  by_cases hij : i = j
  · subst hij
    rcases Nat.lt_or_ge i listed.size with h' | h'
    · simp [h']
    · simp [h']
  · rw [getD_set_ne true (Ne.symm hij)]; exact h
theorem listed_same {listed : Array Bool} {i : Nat} : (listed.setIfInBounds i true).getD i true = true := by
  rcases Nat.lt_or_ge i listed.size with h' | h'
  · simp [h']
  · simp [h']

theorem wpAnyH_first {Q : Act → World → Prop} {i : Nat} {oi : Oper} {v : Value} (hi : ops[i]? = some oi) (hsel : ∀ (j : Nat) (o : Oper) cs b, ops[j]? = some o → o.op ≠ .select cs b) (hiH : H.contains i = false) :
    ∀ (fuel : Nat) (listed : Array Bool) (a : Act) (w : World), Closed md ops listed →
      (∀ k', H.contains k' = true → listed.getD k' true = true ∨ ∀ listed', Closed md ops listed' → k' ∈ Region.ready md ops listed' → listed'.getD i false = true) →
      (∀ j oj, ops[j]? = some oj → j ≠ i → listed.getD j true = false → (∀ e ∈ oj.after, Region.binds md e = true → e.on ≠ i) → oi.apart ops oj = true) →
      i ∈ Region.ready md ops listed → YieldsM P ops oi v a w →
      wpAnyH P md ops H Q fuel (listed.setIfInBounds i true) (a.put oi.dst v) w → wpAnyH P md ops H Q (fuel + 1) listed a w := by
  intro fuel
  induction fuel with
  | zero =>
    intro listed a w _ _ _ hr hy HH
    refine ⟨fun h => (by rw [h] at hr; cases hr), fun j hj => ?_⟩
    by_cases hji : j = i
    · subst hji; rw [mixOpH_soft hiH]; exact hy.mixOp hi (fun a w w' => wpAnyH_later _ _ a w w') HH
    · have := ready_mono hj hji
      rw [HH.1] at this
      cases this
  | succ fuel ih =>
    intro listed a w hcl hwait hfree hr hy HH
    refine ⟨fun h => (by rw [h] at hr; cases hr), fun j hj => ?_⟩
    by_cases hji : j = i
    · subst hji; rw [mixOpH_soft hiH]; exact hy.mixOp hi (fun a w w' => wpAnyH_later _ _ a w w') HH
    · have hjH : H.contains j = false := by
        cases e : H.contains j
        · rfl
        · exfalso
          rcases hwait j e with h1 | h1
          · rw [(mem_ready.1 hj).1] at h1; cases h1
          · have h2 := h1 listed hcl hj
            rw [unlisted_false (mem_ready.1 hr).1] at h2; cases h2
      have h1 := HH.2 j (ready_mono hj hji)
      rw [mixOpH_soft hjH] at h1 ⊢
      obtain ⟨hjun, oj, hoj, hall⟩ := mem_ready.1 hj
      have hnot : ∀ e ∈ oj.after, Region.binds md e = true → e.on ≠ i := fun e he hb heq => by
        have h1 := hall e he hb
        have h0 := (mem_ready.1 hr).1
        rw [heq] at h1
        rw [unlisted_false h0] at h1; cases h1
      have h2 := mixOp_put hoj (hfree j oj hoj hji hjun hnot) (fun cs b => hsel i oi cs b hi) (fun cs b => hsel j oj cs b hoj) hy h1
      have hfree' : ∀ k ok, ops[k]? = some ok → k ≠ i → (listed.setIfInBounds j true).getD k true = false →
          (∀ e ∈ ok.after, Region.binds md e = true → e.on ≠ i) → oi.apart ops ok = true := fun k ok hk hki hun hno => by
        refine hfree k ok hk hki ?_ hno
        by_cases hjk : j = k
        · subst hjk; exact hjun
        · rw [getD_set_ne true hjk] at hun; exact hun
      refine mixOp_mono (fun a' w' h3 => ih (listed.setIfInBounds j true) a' w' (hcl.step hj) (fun k' hk' => (hwait k' hk').imp listed_keep id) hfree' (ready_mono hr (Ne.symm hji)) h3.1 ?_) h2
      rw [Array.setIfInBounds_comm _ _ hji]
      exact h3.2

/-- The walk: as wpMix; a hard operation does what it does. -/
def wpMixH (P : Program) (ops : Array Oper) (cuts H : List Nat) (Q : Act → World → Prop) : List Nat → Act → World → Prop
  | [], a, w => ∀ w', Later w w' → Q a w'
  | k :: l, a, w =>
    match ops[k]? with
    | none => False
    | some o =>
      if Region.wanted o (yielded ops a.tmps) then
        (if H.contains k then ∀ w1, Later w w1 → Oper.hardUpon P o a w1 (wpMixH P ops cuts H Q l) ((execOp a.eval o).run P w1)
         else if cuts.contains k then ∀ w1, Later w w1 → Oper.mixUpon P o a w1 (wpMixH P ops cuts H Q l) ((execOp a.eval o).run P w1)
         else ∃ v, (∀ w1, Later w w1 → o.quietAt P a (Later w1) w1 v) ∧ wpMixH P ops cuts H Q l (a.put o.dst v) w)
      else wpMixH P ops cuts H Q l (a.put o.dst undef) w
def mixHB (md : Region.Mode) (ops : Array Oper) (cuts H ord : List Nat) : Bool := Region.noSelect ops && (ord.length == ops.size) && mixFrom md ops (cuts ++ H) ord (Array.replicate ops.size false) && hardB md ops H ord [] && H.all fun k => ord.contains k

theorem wpMixH_later {cuts : List Nat} {Q : Act → World → Prop} : ∀ (l : List Nat) (a : Act) (w w' : World), Later w w' → wpMixH P ops cuts H Q l a w → wpMixH P ops cuts H Q l a w'
  | [], _, _, _, hl, h => fun w2 h2 => h w2 (hl.trans h2)
  | k :: l, a, w, w', hl, h => by
    unfold wpMixH at *
    split
    · rename_i ho; simp only [ho] at h
    · rename_i o ho
      simp only [ho] at h
      split
      · rename_i hw
        simp only [hw, if_true] at h
        split
        · rename_i hH; simp only [hH, if_true] at h; exact fun w1 h1 => h w1 (hl.trans h1)
        · rename_i hH
          simp only [hH] at h
          split
          · rename_i hc; simp only [hc, if_true] at h; exact fun w1 h1 => h w1 (hl.trans h1)
          · rename_i hc
            simp only [hc] at h
            obtain ⟨v, h1, h2⟩ := h
            exact ⟨v, fun w1 hw1 => h1 w1 (hl.trans hw1), wpMixH_later l _ _ _ hl h2⟩
      · rename_i hw; simp only [hw] at h; exact wpMixH_later l _ _ _ hl h

theorem wpAnyH_lex {cuts : List Nat} {Q : Act → World → Prop} (hs : Region.noSelect ops = true) : ∀ (l bef : List Nat) (listed : Array Bool) (a : Act) (w : World), Closed md ops listed →
    (∀ k', H.contains k' = true → k' ∈ l ∨ listed.getD k' true = true) → hardB md ops H l bef = true →
    mixFrom md ops (cuts ++ H) l listed = true → wpMixH P ops cuts H Q l a w → wpAnyH P md ops H Q l.length listed a w
  | [], _, _, _, _, _, _, _, hB, h => ⟨by simpa [mixFrom] using hB, h⟩
  | k :: l, bef, listed, a, w, hcl, hin, hhb, hB, h => by
    simp only [mixFrom, Bool.and_eq_true] at hB
    obtain ⟨hB1, hB'⟩ := hB
    have hhb' : hardB md ops H l (k :: bef) = true := by simp only [hardB, Bool.and_eq_true] at hhb; exact hhb.2
    have hrk : k ∈ Region.ready md ops listed ∧ Region.free md ops listed k = true := by
      by_cases hc : (cuts ++ H).contains k = true
      · simp only [hc, if_true, Bool.and_eq_true, beq_iff_eq] at hB1; exact ⟨by rw [hB1.1]; simp, hB1.2⟩
      · simp only [hc, Bool.false_eq_true, if_false, Bool.and_eq_true] at hB1; exact ⟨by simpa using hB1.1, hB1.2⟩
    have hin' : ∀ k', H.contains k' = true → k' ∈ l ∨ (listed.setIfInBounds k true).getD k' true = true := fun k' hk' => by
      rcases hin k' hk' with h1 | h1
      · rcases List.mem_cons.1 h1 with rfl | h1
        · exact .inr listed_same
        · exact .inl h1
      · exact .inr (listed_keep h1)
    have ih := fun a w => wpAnyH_lex (cuts := cuts) (Q := Q) hs l (k :: bef) (listed.setIfInBounds k true) a w (hcl.step hrk.1) hin' hhb' hB'
    have hwait : k ∈ Region.ready md ops listed → ∀ k', H.contains k' = true → listed.getD k' true = true ∨ ∀ listed', Closed md ops listed' → k' ∈ Region.ready md ops listed' → k' ≠ k → listed'.getD k false = true := fun _ k' hk' => by
      rcases hin k' hk' with h1 | h1
      · right
        intro listed' hc' hr' hne
        rcases List.mem_cons.1 h1 with rfl | h1
        · exact absurd rfl hne
        · obtain ⟨b, hb1, hb2⟩ := hardB_spec hk' l (k :: bef) hhb' h1
          exact hard_waits hc' hr' hb2 (hb1 k (List.mem_cons_self ..))
      · exact .inl h1
    unfold wpMixH at h
    cases h0 : ops[k]? with
    | none => simp only [h0] at h
    | some o =>
    simp only [h0] at h
    have only : (cuts ++ H).contains k = true → Region.ready md ops listed = [k] := fun hc => by
      simp only [hc, if_true, Bool.and_eq_true, beq_iff_eq] at hB1; exact hB1.1
    have cont : H.contains k = true ∨ cuts.contains k = true → (cuts ++ H).contains k = true := fun h => by
      simp only [List.contains_iff_mem, List.mem_append] at *; exact h.symm
    by_cases hw : Region.wanted o (yielded ops a.tmps) = true
    · simp only [hw, if_true] at h
      by_cases hH : H.contains k = true
      · simp only [hH, if_true] at h
        have h1 := only (cont (.inl hH))
        refine ⟨fun h2 => (by rw [h1] at h2; cases h2), fun i hi => ?_⟩
        rw [h1] at hi
        obtain rfl : i = k := by simpa using hi
        unfold mixOpH
        simp only [h0, hw, if_true, hH]
        exact fun w1 h2 => Oper.hardUpon_mono (fun a' w' => ih a' w') (h w1 h2)
      · have hH' : H.contains k = false := by simpa using hH
        simp only [hH', Bool.false_eq_true, if_false] at h
        by_cases hc : cuts.contains k = true
        · simp only [hc, if_true] at h
          have h1 := only (cont (.inr hc))
          refine ⟨fun h2 => (by rw [h1] at h2; cases h2), fun i hi => ?_⟩
          rw [h1] at hi
          obtain rfl : i = k := by simpa using hi
          rw [mixOpH_soft hH']
          unfold mixOp
          simp only [h0, hw, if_true]
          exact fun w1 h2 => Oper.mixUpon_mono (fun a' w' => ih a' w') (h w1 h2)
        · simp only [hc, Bool.false_eq_true, if_false] at h
          obtain ⟨v, hy, hK⟩ := h
          exact wpAnyH_first h0 (Region.noSelect_spec hs) hH' l.length listed a w hcl (fun k' hk' => (hwait hrk.1 k' hk').imp id fun h2 l' c' r' => h2 l' c' r' (fun e => by rw [e, hH'] at hk'; cases hk')) (Region.free_spec h0 hrk.2) hrk.1 (.inl ⟨hw, hy⟩) (ih _ _ hK)
    · simp only [hw] at h
      by_cases hH : H.contains k = true
      · have h1 := only (cont (.inl hH))
        refine ⟨fun h2 => (by rw [h1] at h2; cases h2), fun i hi => ?_⟩
        rw [h1] at hi
        obtain rfl : i = k := by simpa using hi
        unfold mixOpH
        simp only [h0, hw, Bool.false_eq_true, if_false]
        exact ih _ _ h
      · have hH' : H.contains k = false := by simpa using hH
        exact wpAnyH_first h0 (Region.noSelect_spec hs) hH' l.length listed a w hcl (fun k' hk' => (hwait hrk.1 k' hk').imp id fun h2 l' c' r' => h2 l' c' r' (fun e => by rw [e, hH'] at hk'; cases hk')) (Region.free_spec h0 hrk.2) hrk.1 (.inr ⟨by simpa using hw, rfl⟩) (ih _ _ h)

theorem wp_region_mixh {id : Nat} {Q : Exit → Act → World → Prop} {a : Act} {w : World} {ops : Array Oper} (cuts H ord : List Nat) (hm : P.follows .mixedOrders = true) (hB : mixHB .any ops cuts H ord = true)
    (h : wpMixH P ops cuts H (fun a' w' => Q .normal a' w') ord a w) : (Code.region id ops true).wp P Q a w := by
  simp only [mixHB, Bool.and_eq_true, beq_iff_eq] at hB
  obtain ⟨⟨⟨⟨h1, h2⟩, h3⟩, h4⟩, h5⟩ := hB
  refine wp_region_any hm (wpAny_of_mixH (H := H) (Q := fun a' w' => Q .normal a' w') (fun _ _ h => h) _ _ _ _ ?_)
  have hall : ∀ k', H.contains k' = true → k' ∈ ord ∨ (Array.replicate ops.size false).getD k' true = true := fun k' hk' => by
    left
    have := List.all_eq_true.1 h5 k' (by simpa using hk')
    simpa using this
  have := wpAnyH_lex (P := P) (md := .any) (cuts := cuts) (H := H) (Q := fun a' w' => Q .normal a' w') h1 ord [] (Array.replicate ops.size false) a { w with drawn := w.drawn + 1 } (fun j o _ hj => by
    exfalso
    rw [Array.getD_eq_getD_getElem?, Array.getElem?_replicate] at hj
    split at hj <;> simp at hj) hall h4 h3 (wpMixH_later ord a w _ (later_drew w) h)
  rwa [h2] at this
end

section
variable {P : Program} {ops : Array Oper} {cuts H : List Nat} {Q : Act → World → Prop} {o : Oper} {l : List Nat} {k : Nat} {a : Act} {w : World}
@[go_sem] theorem hardUpon_value (K : Act → World → Prop) (w' : World) (v : Value) : Oper.hardUpon P o a w K (.ok (.value v) w') = K (a.put o.dst v) w' := rfl
@[go_sem] theorem hardUpon_skip (K : Act → World → Prop) (w' : World) : Oper.hardUpon P o a w K (.ok .skip w') = K (a.put o.dst undef) w' := rfl
@[go_sem] theorem hardUpon_enter (K : Act → World → Prop) (w' : World) (f : FuncId) (args : Array Value) : Oper.hardUpon P o a w K (.ok (.enter f args) w') = Calls P f args w' fun e w'' => ∃ v, e = .returned v ∧ K (a.put o.dst v) w'' := rfl
theorem wpMixH_nil (h : ∀ w', Later w w' → Q a w') : wpMixH P ops cuts H Q [] a w := h
theorem wpMixH_step (ho : ops[k]? = some o) (h : ∀ K : Act → World → Prop, (∀ a w, wpMixH P ops cuts H Q l a w → K a w) →
      if Region.wanted o (yielded ops a.tmps) then
        (if H.contains k then ∀ p : Lt w, Oper.hardUpon P o a p.v K ((execOp a.eval o).run P p.v)
         else if cuts.contains k then ∀ p : Lt w, Oper.mixUpon P o a p.v K ((execOp a.eval o).run P p.v)
         else ∃ v, (∀ p : Lt w, o.quietAt P a (fun w'' => ∃ q : Lt p.v, w'' = q.v) p.v v) ∧ K (a.put o.dst v) w)
      else K (a.put o.dst undef) w) : wpMixH P ops cuts H Q (k :: l) a w := by
  have h1 := h _ (fun _ _ h => h)
  unfold wpMixH
  simp only [ho]
  split
  · rename_i hw
    rw [if_pos hw] at h1
    split
    · rename_i hH
      rw [if_pos hH] at h1
      exact fun w1 hw1 => h1 ⟨w1, hw1⟩
    · rename_i hH
      rw [if_neg hH] at h1
      split
      · rename_i hc
        rw [if_pos hc] at h1
        exact fun w1 hw1 => h1 ⟨w1, hw1⟩
      · rename_i hc
        rw [if_neg hc] at h1
        obtain ⟨v, hv, hn⟩ := h1
        refine ⟨v, fun w1 hw1 => ?_, hn⟩
        have h2 := hv ⟨w1, hw1⟩
        unfold Oper.quietAt at *
        generalize (execOp a.eval o).run P w1 = r at *
        cases r with
        | ok n w' =>
          cases n <;> simp only [Oper.quietUpon] at h2 ⊢
          case enter f args => exact ⟨h2.1, h2.2.mono fun e w'' ⟨he, q, hq⟩ => ⟨he, hq ▸ q.h⟩⟩
          all_goals exact h2
        | halt x w' => simp only [Oper.quietUpon] at h2
  · rename_i hw; rw [if_neg hw] at h1; exact h1
end
end Go.Proofs.YtneoeokfffnonabGreatDoor

/- As MixH, with forks: two operations that do something can come up, in either order. No program in sight. -/
namespace Go.Proofs.YtneoeokfffnonabGreatDoor
open Go.RowKit

/-- An order of operations that forks. -/
inductive OTree
  | nil
  | op (k : Nat) (t : OTree)
  | fork (k1 : Nat) (t1 : OTree) (k2 : Nat) (t2 : OTree)
def OTree.len : OTree → Nat
  | .nil => 0
  | .op _ t => t.len + 1
  | .fork _ t1 _ _ => t1.len + 1
def OTree.left : OTree → List Nat
  | .nil => []
  | .op k t => k :: t.left
  | .fork k1 t1 _ _ => k1 :: t1.left
/-- The operations l, then t. -/
def OTree.ops (l : List Nat) (t : OTree) : OTree := l.foldr OTree.op t

section
variable {P : Program} {ops : Array Oper} {md : Region.Mode} {H : List Nat}
def wpCut (P : Program) (ops : Array Oper) (H : List Nat) (k : Nat) (K : Act → World → Prop) (a : Act) (w : World) : Prop :=
  match ops[k]? with
  | none => False
  | some o =>
    if Region.wanted o (yielded ops a.tmps) then
      (if H.contains k then ∀ w1, Later w w1 → Oper.hardUpon P o a w1 K ((execOp a.eval o).run P w1) else ∀ w1, Later w w1 → Oper.mixUpon P o a w1 K ((execOp a.eval o).run P w1))
    else K (a.put o.dst undef) w
def wpMixF (P : Program) (ops : Array Oper) (cuts H : List Nat) (Q : Act → World → Prop) : OTree → Act → World → Prop
  | .nil, a, w => ∀ w', Later w w' → Q a w'
  | .op k t, a, w =>
    match ops[k]? with
    | none => False
    | some o =>
      if Region.wanted o (yielded ops a.tmps) then
        (if H.contains k then ∀ w1, Later w w1 → Oper.hardUpon P o a w1 (wpMixF P ops cuts H Q t) ((execOp a.eval o).run P w1)
         else if cuts.contains k then ∀ w1, Later w w1 → Oper.mixUpon P o a w1 (wpMixF P ops cuts H Q t) ((execOp a.eval o).run P w1)
         else ∃ v, (∀ w1, Later w w1 → o.quietAt P a (Later w1) w1 v) ∧ wpMixF P ops cuts H Q t (a.put o.dst v) w)
      else wpMixF P ops cuts H Q t (a.put o.dst undef) w
  | .fork k1 t1 k2 t2, a, w => wpCut P ops H k1 (wpMixF P ops cuts H Q t1) a w ∧ wpCut P ops H k2 (wpMixF P ops cuts H Q t2) a w
def mixFromF (md : Region.Mode) (ops : Array Oper) (cuts H : List Nat) : OTree → Array Bool → Bool
  | .nil, listed => (Region.ready md ops listed).isEmpty
  | .op k t, listed => (if cuts.contains k then Region.ready md ops listed == [k] && Region.free md ops listed k else (Region.ready md ops listed).contains k && Region.free md ops listed k) && mixFromF md ops cuts H t (listed.setIfInBounds k true)
  | .fork k1 t1 k2 t2, listed => (Region.ready md ops listed == [k1, k2] && (t1.len == t2.len) && (H.all fun k => !(k1 :: t1.left).contains k || (k2 :: t2.left).contains k)) && mixFromF md ops cuts H t1 (listed.setIfInBounds k1 true) && mixFromF md ops cuts H t2 (listed.setIfInBounds k2 true)
def hardBF (md : Region.Mode) (ops : Array Oper) (H : List Nat) : OTree → List Nat → Bool
  | .nil, _ => true
  | .op k t, bef => (if H.contains k then chkH md ops [k] bef else true) && hardBF md ops H t (k :: bef)
  | .fork k1 t1 k2 t2, bef => (if H.contains k1 then chkH md ops [k1] bef else true) && (if H.contains k2 then chkH md ops [k2] bef else true) && hardBF md ops H t1 (k1 :: bef) && hardBF md ops H t2 (k2 :: bef)
theorem hardBF_spec {k' : Nat} (hk : H.contains k' = true) : ∀ (t : OTree) (bef : List Nat), hardBF md ops H t bef = true → k' ∈ t.left → ∃ bef', (∀ x ∈ bef, x ∈ bef') ∧ chkH md ops [k'] bef' = true
  | .nil, _, _, h => by cases h
  | .op k t, bef, hB, h => by
    simp only [hardBF, Bool.and_eq_true] at hB
    rcases List.mem_cons.1 h with rfl | h
    · refine ⟨bef, fun x hx => hx, ?_⟩
      have h1 := hB.1
      simp only [hk, if_true] at h1
      exact h1
    · obtain ⟨b, h1, h2⟩ := hardBF_spec hk t (k :: bef) hB.2 h
      exact ⟨b, fun x hx => h1 x (List.mem_cons_of_mem _ hx), h2⟩
  | .fork k1 t1 k2 t2, bef, hB, h => by
    simp only [hardBF, Bool.and_eq_true] at hB
    rcases List.mem_cons.1 h with rfl | h
    · refine ⟨bef, fun x hx => hx, ?_⟩
      have h1 := hB.1.1.1
      simp only [hk, if_true] at h1
      exact h1
    · obtain ⟨b, h1, h2⟩ := hardBF_spec hk t1 (k1 :: bef) hB.1.2 h
      exact ⟨b, fun x hx => h1 x (List.mem_cons_of_mem _ hx), h2⟩
theorem wpCut_later {k : Nat} {K : Act → World → Prop} {a : Act} {w w' : World} (hK : ∀ a w w', Later w w' → K a w → K a w') (hl : Later w w') (h : wpCut P ops H k K a w) : wpCut P ops H k K a w' := by
  unfold wpCut at *
  split
  · rename_i ho; simp only [ho] at h
  · rename_i o ho
    simp only [ho] at h
    split
    · rename_i hw
      simp only [hw, if_true] at h
      split
      · rename_i hH; simp only [hH, if_true] at h; exact fun w1 h1 => h w1 (hl.trans h1)
      · rename_i hH; simp only [hH, Bool.false_eq_true, if_false] at h; exact fun w1 h1 => h w1 (hl.trans h1)
    · rename_i hw; simp only [hw] at h; exact hK _ _ _ hl h
theorem wpMixF_later {cuts : List Nat} {Q : Act → World → Prop} : ∀ (t : OTree) (a : Act) (w w' : World), Later w w' → wpMixF P ops cuts H Q t a w → wpMixF P ops cuts H Q t a w'
  | .nil, _, _, _, hl, h => fun w2 h2 => h w2 (hl.trans h2)
  | .op k t, a, w, w', hl, h => by
    unfold wpMixF at *
    split
    · rename_i ho; simp only [ho] at h
    · rename_i o ho
      simp only [ho] at h
      split
      · rename_i hw
        simp only [hw, if_true] at h
        split
        · rename_i hH; simp only [hH, if_true] at h; exact fun w1 h1 => h w1 (hl.trans h1)
        · rename_i hH
          simp only [hH] at h
          split
          · rename_i hc; simp only [hc, if_true] at h; exact fun w1 h1 => h w1 (hl.trans h1)
          · rename_i hc
            simp only [hc] at h
            obtain ⟨v, h1, h2⟩ := h
            exact ⟨v, fun w1 hw1 => h1 w1 (hl.trans hw1), wpMixF_later t _ _ _ hl h2⟩
      · rename_i hw; simp only [hw] at h; exact wpMixF_later t _ _ _ hl h
  | .fork k1 t1 k2 t2, a, w, w', hl, h => ⟨wpCut_later (fun a w w' => wpMixF_later t1 a w w') hl h.1, wpCut_later (fun a w w' => wpMixF_later t2 a w w') hl h.2⟩
theorem wpCut_mixOpH {k : Nat} {K K' : Act → World → Prop} {a : Act} {w : World} (hm : ∀ a w, K a w → K' a w) (h : wpCut P ops H k K a w) : mixOpH P ops H k K' a w := by
  unfold wpCut at h
  unfold mixOpH
  split
  · rename_i ho; simp only [ho] at h
  · rename_i o ho
    simp only [ho] at h
    split
    · rename_i hw
      simp only [hw, if_true] at h
      intro w1 h1
      split
      · rename_i hH; simp only [hH, if_true] at h; exact Oper.hardUpon_mono hm (h w1 h1)
      · rename_i hH; simp only [hH, Bool.false_eq_true, if_false] at h; exact Oper.mixUpon_mono hm (h w1 h1)
    · rename_i hw; simp only [hw] at h; exact hm _ _ h

theorem wpAnyF_lex {cuts : List Nat} {Q : Act → World → Prop} (hs : Region.noSelect ops = true) : ∀ (t : OTree) (bef : List Nat) (listed : Array Bool) (a : Act) (w : World), Closed md ops listed →
    (∀ k', H.contains k' = true → k' ∈ t.left ∨ listed.getD k' true = true) → hardBF md ops H t bef = true →
    mixFromF md ops (cuts ++ H) H t listed = true → wpMixF P ops cuts H Q t a w → wpAnyH P md ops H Q t.len listed a w
  | .nil, _, _, _, _, _, _, _, hB, h => ⟨by simpa [mixFromF] using hB, h⟩
  | .fork k1 t1 k2 t2, bef, listed, a, w, hcl, hin, hhb, hB, h => by
    simp only [mixFromF, Bool.and_eq_true, beq_iff_eq] at hB
    obtain ⟨⟨⟨⟨hr, hlen⟩, hall⟩, hB1⟩, hB2⟩ := hB
    simp only [hardBF, Bool.and_eq_true] at hhb
    have step : ∀ (k : Nat) (t : OTree), k ∈ Region.ready md ops listed → (∀ k', H.contains k' = true → k' ∈ k :: t.left ∨ listed.getD k' true = true) → ∀ k', H.contains k' = true → k' ∈ t.left ∨ (listed.setIfInBounds k true).getD k' true = true := fun k t _ hin k' hk' => by
      rcases hin k' hk' with h1 | h1
      · rcases List.mem_cons.1 h1 with rfl | h1
        · exact .inr listed_same
        · exact .inl h1
      · exact .inr (listed_keep h1)
    have r1 : k1 ∈ Region.ready md ops listed := by rw [hr]; simp
    have r2 : k2 ∈ Region.ready md ops listed := by rw [hr]; simp
    have hin2 : ∀ k', H.contains k' = true → k' ∈ k2 :: t2.left ∨ listed.getD k' true = true := fun k' hk' => by
      rcases hin k' hk' with h1 | h1
      · left
        have h2 := List.all_eq_true.1 hall k' (by simpa using hk')
        have h3 : (k1 :: t1.left).contains k' = true := by
          have h4 : k' ∈ k1 :: t1.left := h1
          simpa using h4
        simp only [h3, Bool.not_true, Bool.false_or] at h2
        simpa using h2
      · exact .inr h1
    refine ⟨fun h2 => (by rw [hr] at h2; cases h2), fun i hi => ?_⟩
    rw [hr] at hi
    simp only [List.mem_cons, List.not_mem_nil, or_false] at hi
    rcases hi with rfl | rfl
    · exact wpCut_mixOpH (fun a w => wpAnyF_lex hs t1 (i :: bef) _ a w (hcl.step r1) (step i t1 r1 hin) hhb.1.2 hB1) h.1
    · show mixOpH P ops H i (wpAnyH P md ops H Q t1.len _) a w
      rw [hlen]
      exact wpCut_mixOpH (fun a w => wpAnyF_lex hs t2 (i :: bef) _ a w (hcl.step r2) (step i t2 r2 hin2) hhb.2 hB2) h.2
  | .op k t, bef, listed, a, w, hcl, hin, hhb, hB, h => by
    simp only [mixFromF, Bool.and_eq_true] at hB
    obtain ⟨hB1, hB'⟩ := hB
    have hhb' : hardBF md ops H t (k :: bef) = true := by simp only [hardBF, Bool.and_eq_true] at hhb; exact hhb.2
    have hrk : k ∈ Region.ready md ops listed ∧ Region.free md ops listed k = true := by
      by_cases hc : (cuts ++ H).contains k = true
      · simp only [hc, if_true, Bool.and_eq_true, beq_iff_eq] at hB1; exact ⟨by rw [hB1.1]; simp, hB1.2⟩
      · simp only [hc, Bool.false_eq_true, if_false, Bool.and_eq_true] at hB1; exact ⟨by simpa using hB1.1, hB1.2⟩
    have hin' : ∀ k', H.contains k' = true → k' ∈ t.left ∨ (listed.setIfInBounds k true).getD k' true = true := fun k' hk' => by
      rcases hin k' hk' with h1 | h1
      · rcases List.mem_cons.1 h1 with rfl | h1
        · exact .inr listed_same
        · exact .inl h1
      · exact .inr (listed_keep h1)
    have ih := fun a w => wpAnyF_lex (cuts := cuts) (Q := Q) hs t (k :: bef) (listed.setIfInBounds k true) a w (hcl.step hrk.1) hin' hhb' hB'
    have hwait : ∀ k', H.contains k' = true → listed.getD k' true = true ∨ ∀ listed', Closed md ops listed' → k' ∈ Region.ready md ops listed' → k' ≠ k → listed'.getD k false = true := fun k' hk' => by
      rcases hin k' hk' with h1 | h1
      · right
        intro listed' hc' hr' hne
        rcases List.mem_cons.1 h1 with rfl | h1
        · exact absurd rfl hne
        · obtain ⟨b, hb1, hb2⟩ := hardBF_spec hk' t (k :: bef) hhb' h1
          exact hard_waits hc' hr' hb2 (hb1 k (List.mem_cons_self ..))
      · exact .inl h1
    unfold wpMixF at h
    cases h0 : ops[k]? with
    | none => simp only [h0] at h
    | some o =>
    simp only [h0] at h
    have only : (cuts ++ H).contains k = true → Region.ready md ops listed = [k] := fun hc => by
      simp only [hc, if_true, Bool.and_eq_true, beq_iff_eq] at hB1; exact hB1.1
    have cont : H.contains k = true ∨ cuts.contains k = true → (cuts ++ H).contains k = true := fun h => by
      simp only [List.contains_iff_mem, List.mem_append] at *; exact h.symm
    by_cases hw : Region.wanted o (yielded ops a.tmps) = true
    · simp only [hw, if_true] at h
      by_cases hH : H.contains k = true
      · simp only [hH, if_true] at h
        have h1 := only (cont (.inl hH))
        refine ⟨fun h2 => (by rw [h1] at h2; cases h2), fun i hi => ?_⟩
        rw [h1] at hi
        obtain rfl : i = k := by simpa using hi
        unfold mixOpH
        simp only [h0, hw, if_true, hH]
        exact fun w1 h2 => Oper.hardUpon_mono (fun a' w' => ih a' w') (h w1 h2)
      · have hH' : H.contains k = false := by simpa using hH
        simp only [hH', Bool.false_eq_true, if_false] at h
        by_cases hc : cuts.contains k = true
        · simp only [hc, if_true] at h
          have h1 := only (cont (.inr hc))
          refine ⟨fun h2 => (by rw [h1] at h2; cases h2), fun i hi => ?_⟩
          rw [h1] at hi
          obtain rfl : i = k := by simpa using hi
          rw [mixOpH_soft hH']
          unfold mixOp
          simp only [h0, hw, if_true]
          exact fun w1 h2 => Oper.mixUpon_mono (fun a' w' => ih a' w') (h w1 h2)
        · simp only [hc, Bool.false_eq_true, if_false] at h
          obtain ⟨v, hy, hK⟩ := h
          exact wpAnyH_first h0 (Region.noSelect_spec hs) hH' t.len listed a w hcl (fun k' hk' => (hwait k' hk').imp id fun h2 l' c' r' => h2 l' c' r' (fun e => by rw [e, hH'] at hk'; cases hk')) (Region.free_spec h0 hrk.2) hrk.1 (.inl ⟨hw, hy⟩) (ih _ _ hK)
    · simp only [hw] at h
      by_cases hH : H.contains k = true
      · have h1 := only (cont (.inl hH))
        refine ⟨fun h2 => (by rw [h1] at h2; cases h2), fun i hi => ?_⟩
        rw [h1] at hi
        obtain rfl : i = k := by simpa using hi
        unfold mixOpH
        simp only [h0, hw, Bool.false_eq_true, if_false]
        exact ih _ _ h
      · have hH' : H.contains k = false := by simpa using hH
        exact wpAnyH_first h0 (Region.noSelect_spec hs) hH' t.len listed a w hcl (fun k' hk' => (hwait k' hk').imp id fun h2 l' c' r' => h2 l' c' r' (fun e => by rw [e, hH'] at hk'; cases hk')) (Region.free_spec h0 hrk.2) hrk.1 (.inr ⟨by simpa using hw, rfl⟩) (ih _ _ h)

def mixFB (md : Region.Mode) (ops : Array Oper) (cuts H : List Nat) (t : OTree) : Bool := Region.noSelect ops && (t.len == ops.size) && mixFromF md ops (cuts ++ H) H t (Array.replicate ops.size false) && hardBF md ops H t [] && H.all fun k => t.left.contains k
theorem wp_region_mixf {id : Nat} {Q : Exit → Act → World → Prop} {a : Act} {w : World} {ops : Array Oper} (cuts H : List Nat) (t : OTree) (hm : P.follows .mixedOrders = true) (hB : mixFB .any ops cuts H t = true)
    (h : wpMixF P ops cuts H (fun a' w' => Q .normal a' w') t a w) : (Code.region id ops true).wp P Q a w := by
  simp only [mixFB, Bool.and_eq_true, beq_iff_eq] at hB
  obtain ⟨⟨⟨⟨h1, h2⟩, h3⟩, h4⟩, h5⟩ := hB
  refine wp_region_any hm (wpAny_of_mixH (H := H) (Q := fun a' w' => Q .normal a' w') (fun _ _ h => h) _ _ _ _ ?_)
  have hall : ∀ k', H.contains k' = true → k' ∈ t.left ∨ (Array.replicate ops.size false).getD k' true = true := fun k' hk' => by
    left
    have := List.all_eq_true.1 h5 k' (by simpa using hk')
    simpa using this
  have := wpAnyF_lex (P := P) (md := .any) (cuts := cuts) (H := H) (Q := fun a' w' => Q .normal a' w') h1 t [] (Array.replicate ops.size false) a { w with drawn := w.drawn + 1 } (fun j o _ hj => by
    exfalso
    rw [Array.getD_eq_getD_getElem?, Array.getElem?_replicate] at hj
    split at hj <;> simp at hj) hall h4 h3 (wpMixF_later t a w _ (later_drew w) h)
  rwa [h2] at this
end
section
variable {P : Program} {ops : Array Oper} {cuts H : List Nat} {Q : Act → World → Prop} {o : Oper} {t t1 t2 : OTree} {k k1 k2 : Nat} {a : Act} {w : World}
theorem wpMixF_nil (h : ∀ w', Later w w' → Q a w') : wpMixF P ops cuts H Q .nil a w := h
theorem wpMixF_step (ho : ops[k]? = some o) (h : ∀ K : Act → World → Prop, (∀ a w, wpMixF P ops cuts H Q t a w → K a w) →
      if Region.wanted o (yielded ops a.tmps) then
        (if H.contains k then ∀ p : Lt w, Oper.hardUpon P o a p.v K ((execOp a.eval o).run P p.v)
         else if cuts.contains k then ∀ p : Lt w, Oper.mixUpon P o a p.v K ((execOp a.eval o).run P p.v)
         else ∃ v, (∀ p : Lt w, o.quietAt P a (fun w'' => ∃ q : Lt p.v, w'' = q.v) p.v v) ∧ K (a.put o.dst v) w)
      else K (a.put o.dst undef) w) : wpMixF P ops cuts H Q (.op k t) a w := by
  have h1 := h _ (fun _ _ h => h)
  unfold wpMixF
  simp only [ho]
  split
  · rename_i hw
    rw [if_pos hw] at h1
    split
    · rename_i hH
      rw [if_pos hH] at h1
      exact fun w1 hw1 => h1 ⟨w1, hw1⟩
    · rename_i hH
      rw [if_neg hH] at h1
      split
      · rename_i hc
        rw [if_pos hc] at h1
        exact fun w1 hw1 => h1 ⟨w1, hw1⟩
      · rename_i hc
        rw [if_neg hc] at h1
        obtain ⟨v, hv, hn⟩ := h1
        refine ⟨v, fun w1 hw1 => ?_, hn⟩
        have h2 := hv ⟨w1, hw1⟩
        unfold Oper.quietAt at *
        generalize (execOp a.eval o).run P w1 = r at *
        cases r with
        | ok n w' =>
          cases n <;> simp only [Oper.quietUpon] at h2 ⊢
          case enter f args => exact ⟨h2.1, h2.2.mono fun e w'' ⟨he, q, hq⟩ => ⟨he, hq ▸ q.h⟩⟩
          all_goals exact h2
        | halt x w' => simp only [Oper.quietUpon] at h2
  · rename_i hw; rw [if_neg hw] at h1; exact h1
theorem wpCut_step (ho : ops[k]? = some o) (h : ∀ K : Act → World → Prop, (∀ a w, wpMixF P ops cuts H Q t a w → K a w) →
      if Region.wanted o (yielded ops a.tmps) then
        (if H.contains k then ∀ p : Lt w, Oper.hardUpon P o a p.v K ((execOp a.eval o).run P p.v)
         else ∀ p : Lt w, Oper.mixUpon P o a p.v K ((execOp a.eval o).run P p.v))
      else K (a.put o.dst undef) w) : wpCut P ops H k (wpMixF P ops cuts H Q t) a w := by
  have h1 := h _ (fun _ _ h => h)
  unfold wpCut
  simp only [ho]
  split
  · rename_i hw
    rw [if_pos hw] at h1
    split
    · rename_i hH
      rw [if_pos hH] at h1
      exact fun w1 hw1 => h1 ⟨w1, hw1⟩
    · rename_i hH
      rw [if_neg hH] at h1
      exact fun w1 hw1 => h1 ⟨w1, hw1⟩
  · rename_i hw; rw [if_neg hw] at h1; exact h1
theorem wpMixF_fork (h1 : wpCut P ops H k1 (wpMixF P ops cuts H Q t1) a w) (h2 : wpCut P ops H k2 (wpMixF P ops cuts H Q t2) a w) : wpMixF P ops cuts H Q (.fork k1 t1 k2 t2) a w := ⟨h1, h2⟩
end
end Go.Proofs.YtneoeokfffnonabGreatDoor

/- Printed by genmixb.py: the walk of a region in which what lies from a fixed bound on may change. No program in sight. -/
namespace Go.Proofs.YtneoeokfffnonabGreatDoor
open Go.RowKit
namespace MB
/-- What an operation may do: all below B stays. -/
def Eff (B : Nat) (w w' : World) : Prop := B ≤ w.heap.size → Below B w w'
theorem Eff.refl (B : Nat) (w : World) : Eff B w w := fun _ => Below.refl _ _
theorem Eff.trans {B : Nat} {a b c : World} (h : Eff B a b) (k : Eff B b c) : Eff B a c := fun hB => (h hB).trans (k (Nat.le_trans hB (h hB).size))
theorem Eff.of {B : Nat} {w w' : World} (h : Later w w') : Eff B w w' := fun hB => Below.mono h hB
/-- A world in which all below B stands as in w. -/
structure LtB (B : Nat) (w : World) where
  v : World
  h : Below B w v
instance (B : Nat) (w : World) : Inhabited (LtB B w) := ⟨⟨w, Below.refl B w⟩⟩
@[simp] theorem eff_self {B : Nat} {w : World} : Eff B w w := Eff.refl _ _
theorem quiet {P : Program} {f : FuncId} {args : Array Value} {W : World} {v : Value} (h : Calls P f args W fun e w' => e = .returned v ∧ Below W.heap.size W w') : Calls P f args W fun e w'' => e = .returned v ∧ ∃ q : Lt W, w'' = q.v :=
  h.mono fun _ w' ⟨he, hb⟩ => ⟨he, ⟨w', hb⟩, rfl⟩
theorem quiet_same {P : Program} {f : FuncId} {args : Array Value} {W : World} {v : Value} (h : Calls P f args W fun e w' => e = .returned v ∧ w' = W) : Calls P f args W fun e w'' => e = .returned v ∧ ∃ q : Lt W, w'' = q.v :=
  h.mono fun _ w' ⟨he, hb⟩ => ⟨he, ⟨w', by rw [hb]; exact Later.refl _⟩, rfl⟩
theorem cellB {B : Nat} {w : World} {a : Addr} {v : Value} (h : w.cell? a = some v) (hb : a.block < B) : ∀ q : LtB B w, q.v.cell? a = some v := fun q => (q.h.cell (p := a) hb).trans h
section
variable {P : Program} {ops : Array Oper} {md : Region.Mode} {H : List Nat} {B : Nat}
/-- One operation, carried out in w: what follows is K, in a later world. -/
def mixUpon (B : Nat) (P : Program) (o : Oper) (a : Act) (w : World) (K : Act → World → Prop) : Result Next → Prop
  | .ok (.value v) w' => Eff B w w' ∧ K (a.put o.dst v) w'
  | .ok .skip w' => Eff B w w' ∧ K (a.put o.dst undef) w'
  | .ok (.enter f args) w' => Eff B w w' ∧ Calls P f args w' fun e w'' => ∃ v, e = .returned v ∧ Eff B w w'' ∧ K (a.put o.dst v) w''
  | _ => False


@[go_sem] theorem mixUpon_value {o : Oper} {a : Act} {w : World} (K : Act → World → Prop) (w' : World) (v : Value) : mixUpon B P o a w K (.ok (.value v) w') = (Eff B w w' ∧ K (a.put o.dst v) w') := rfl
@[go_sem] theorem mixUpon_skip {o : Oper} {a : Act} {w : World} (K : Act → World → Prop) (w' : World) : mixUpon B P o a w K (.ok .skip w') = (Eff B w w' ∧ K (a.put o.dst undef) w') := rfl
@[go_sem] theorem mixUpon_enter {o : Oper} {a : Act} {w : World} (K : Act → World → Prop) (w' : World) (f : FuncId) (args : Array Value) : mixUpon B P o a w K (.ok (.enter f args) w') = (Eff B w w' ∧ Calls P f args w' fun e w'' => ∃ v, e = .returned v ∧ Eff B w w'' ∧ K (a.put o.dst v) w'') := rfl
/-- Operation number i comes up in state a, in w or in a later world. -/
def mixOp (B : Nat) (P : Program) (ops : Array Oper) (i : Nat) (K : Act → World → Prop) (a : Act) (w : World) : Prop :=
  match ops[i]? with
  | none => K a w
  | some o => if Region.wanted o (yielded ops a.tmps) then ∀ w1, Later w w1 → mixUpon B P o a w1 K ((execOp a.eval o).run P w1) else K (a.put o.dst undef) w

theorem mixUpon_mono {o : Oper} {a : Act} {w : World} {K K' : Act → World → Prop} (h : ∀ a w', K a w' → K' a w') {r : Result Next} (hh : mixUpon B P o a w K r) : mixUpon B P o a w K' r := by
  cases r with
  | ok n w' =>
    cases n <;> simp only [mixUpon] at hh ⊢
    case enter f args => exact ⟨hh.1, hh.2.mono fun e w'' ⟨v, h1, h2, h3⟩ => ⟨v, h1, h2, h _ _ h3⟩⟩
    all_goals exact ⟨hh.1, h _ _ hh.2⟩
  | halt x w' => simp only [mixUpon] at hh

theorem mixOp_mono {i : Nat} {a : Act} {w : World} {K K' : Act → World → Prop} (h : ∀ a w', K a w' → K' a w') (hh : mixOp B P ops i K a w) : mixOp B P ops i K' a w := by
  unfold mixOp at *
  split
  · rename_i ho; simp only [ho] at hh; exact h _ _ hh
  · rename_i o ho
    simp only [ho] at hh
    split
    · rename_i hw; simp only [hw, if_true] at hh; exact fun w1 h1 => mixUpon_mono h (hh w1 h1)
    · rename_i hw; simp only [hw] at hh; exact h _ _ hh

/-- Whatever order is picked from here on, in w or in a later world. -/
def wpAnyM (B : Nat) (P : Program) (md : Region.Mode) (ops : Array Oper) (Q : Act → World → Prop) : Nat → Array Bool → Act → World → Prop
  | 0, listed, a, w => Region.ready md ops listed = [] ∧ ∀ w', Later w w' → Q a w'
  | fuel + 1, listed, a, w =>
    (Region.ready md ops listed = [] → ∀ w', Later w w' → Q a w') ∧
    ∀ i ∈ Region.ready md ops listed, mixOp B P ops i (wpAnyM B P md ops Q fuel (listed.setIfInBounds i true)) a w

theorem mixOp_later {i : Nat} {a : Act} {w w' : World} {K : Act → World → Prop} (hK : ∀ a w w', Later w w' → K a w → K a w') (hl : Later w w') (hh : mixOp B P ops i K a w) : mixOp B P ops i K a w' := by
  unfold mixOp at *
  split
  · rename_i ho; simp only [ho] at hh; exact hK _ _ _ hl hh
  · rename_i o ho
    simp only [ho] at hh
    split
    · rename_i hw; simp only [hw, if_true] at hh; exact fun w1 h1 => hh w1 (hl.trans h1)
    · rename_i hw; simp only [hw] at hh; exact hK _ _ _ hl hh

theorem wpAnyM_later {Q : Act → World → Prop} : ∀ (fuel : Nat) (listed : Array Bool) (a : Act) (w w' : World), Later w w' → wpAnyM B P md ops Q fuel listed a w → wpAnyM B P md ops Q fuel listed a w'
  | 0, _, _, _, _, hl, h => ⟨h.1, fun w2 h2 => h.2 w2 (hl.trans h2)⟩
  | fuel + 1, _, _, _, _, hl, h => ⟨fun h0 w2 h2 => h.1 h0 w2 (hl.trans h2), fun i hi => mixOp_later (fun a w w' => wpAnyM_later fuel _ a w w') hl (h.2 i hi)⟩

theorem wpOp_of_mix {i : Nat} {a : Act} {w : World} {K : Act → World → Prop} {K' : Act → World → Prop} {Q' : Exit → Act → World → Prop} (h : ∀ a w', K a w' → K' a w') (hh : mixOp B P ops i K a w) : wpOp P ops Q' i K' a w := by
  unfold mixOp at hh
  unfold wpOp
  split
  · rename_i ho; simp only [ho] at hh; exact h _ _ hh
  · rename_i o ho
    simp only [ho] at hh
    split
    · rename_i hw
      simp only [hw, if_true] at hh
      refine .inl ?_
      have h1 := hh w (Later.refl w)
      unfold Oper.wp
      generalize (execOp a.eval o).run P w = r at *
      cases r with
      | ok n w' =>
        cases n <;> simp only [mixUpon] at h1 <;> simp only [Oper.upon]
        case value u => exact h _ _ h1.2
        case skip => exact h _ _ h1.2
        case enter f args => exact h1.2.mono fun e w'' ⟨v, he, _, hk⟩ => by subst he; exact h _ _ hk
      | halt x w' => simp only [mixUpon] at h1
    · rename_i hw; simp only [hw] at hh; exact h _ _ hh

theorem wpAny_of_mix {Q : Act → World → Prop} {Q' : Exit → Act → World → Prop} (hQ : ∀ a w, Q a w → Q' .normal a w) : ∀ (fuel : Nat) (listed : Array Bool) (a : Act) (w : World),
    wpAnyM B P md ops Q fuel listed a w → wpAny P md ops Q' fuel listed a w
  | 0, _, _, w, h => ⟨h.1, hQ _ _ (h.2 w (Later.refl w))⟩
  | fuel + 1, _, _, w, h => ⟨fun h0 => hQ _ _ (h.1 h0 w (Later.refl w)), fun i hi => wpOp_of_mix (fun a' w' => wpAny_of_mix hQ fuel _ a' w') (h.2 i hi)⟩

/-- In state a, in w and in every later world, operation o leaves v in its temporary, and no more than a later world. -/
def YieldsM (B : Nat) (P : Program) (ops : Array Oper) (o : Oper) (v : Value) (a : Act) (w : World) : Prop :=
  (Region.wanted o (yielded ops a.tmps) = true ∧ ∀ w1, Eff B w w1 → o.quietAt P a (Later w1) w1 v) ∨
  (Region.wanted o (yielded ops a.tmps) = false ∧ v = undef)

theorem YieldsM.later {o : Oper} {v : Value} {a : Act} {w w' : World} (hl : Eff B w w') (h : YieldsM B P ops o v a w) : YieldsM B P ops o v a w' :=
  h.imp (fun h => ⟨h.1, fun w1 h1 => h.2 w1 (hl.trans h1)⟩) id

theorem YieldsM.mixOp {i : Nat} {o : Oper} {v : Value} {a : Act} {w : World} (hi : ops[i]? = some o) (hy : YieldsM B P ops o v a w) {K : Act → World → Prop} (hK : ∀ a w w', Later w w' → K a w → K a w') (h : K (a.put o.dst v) w) : mixOp B P ops i K a w := by
  unfold MB.mixOp
  simp only [hi]
  rcases hy with ⟨hw, hv⟩ | ⟨hw, rfl⟩
  · simp only [hw, if_true]
    intro w1 h1
    have h2 := hv w1 (Eff.of h1)
    unfold Oper.quietAt at h2
    generalize (execOp a.eval o).run P w1 = r at *
    cases r with
    | ok n w' =>
      cases n <;> simp only [Oper.quietUpon] at h2 <;> simp only [mixUpon]
      case value u => obtain ⟨rfl, rfl⟩ := h2; exact ⟨Eff.refl _ _, hK _ _ _ h1 h⟩
      case skip => obtain ⟨rfl, rfl⟩ := h2; exact ⟨Eff.refl _ _, hK _ _ _ h1 h⟩
      case enter f args =>
        obtain ⟨rfl, hc⟩ := h2
        exact ⟨Eff.refl _ _, hc.mono fun e w'' ⟨he, hl⟩ => ⟨v, he, Eff.of hl, hK _ _ _ (h1.trans hl) h⟩⟩
    | halt x w' => simp only [Oper.quietUpon] at h2
  · simp only [hw, Bool.false_eq_true, if_false]; exact h

theorem YieldsM.of_same {o : Oper} {v : Value} {a a' : Act} {w : World} (hy : YieldsM B P ops o v a w) (he : execOp a'.eval o = execOp a.eval o)
    (hw : Region.wanted o (yielded ops a'.tmps) = Region.wanted o (yielded ops a.tmps)) : YieldsM B P ops o v a' w := by
  unfold YieldsM Oper.quietAt at *
  rw [he, hw]
  exact hy

theorem mixOp_put {j : Nat} {oi oj : Oper} {v : Value} (hj : ops[j]? = some oj) (hap : oi.apart ops oj = true)
    (hsi : ∀ cs b, oi.op ≠ .select cs b) (hsj : ∀ cs b, oj.op ≠ .select cs b) {K : Act → World → Prop} {a : Act} {w : World}
    (hy : YieldsM B P ops oi v a w) (h : mixOp B P ops j K (a.put oi.dst v) w) :
    mixOp B P ops j (fun a' w' => YieldsM B P ops oi v a' w' ∧ K (a'.put oi.dst v) w') a w := by
  obtain ⟨h1, h2, h3⟩ := Oper.apart_spec hap
  have keep : ∀ (a : Act) (w : World), YieldsM B P ops oi v a w → ∀ u, YieldsM B P ops oi v (a.put oj.dst u) w := fun a w hy u =>
    hy.of_same (execOp_put oi hsi a oj.dst u h3) (wanted_put oi a oj.dst u h3)
  unfold mixOp at *
  simp only [hj] at *
  rw [wanted_put oj a oi.dst v h1] at h
  split
  · rename_i hw
    simp only [hw, if_true] at h
    intro w1 hl
    have h4 := h w1 hl
    rw [execOp_put oj hsj a oi.dst v h1] at h4
    generalize (execOp a.eval oj).run P w1 = r at *
    cases r with
    | ok n w' =>
      cases n <;> simp only [mixUpon] at h4 ⊢
      case value u => exact ⟨h4.1, (keep a w hy u).later ((Eff.of hl).trans h4.1), by rw [← Act.put_comm a v u h2]; exact h4.2⟩
      case skip => exact ⟨h4.1, (keep a w hy undef).later ((Eff.of hl).trans h4.1), by rw [← Act.put_comm a v undef h2]; exact h4.2⟩
      case enter f args =>
        exact ⟨h4.1, h4.2.mono fun e w'' ⟨u, he, hl2, hk⟩ => ⟨u, he, hl2, (keep a w hy u).later ((Eff.of hl).trans hl2), by rw [← Act.put_comm a v u h2]; exact hk⟩⟩
    | halt x w' => simp only [mixUpon] at h4
  · rename_i hw
    simp only [hw] at h
    exact ⟨keep a w hy _, by rw [← Act.put_comm a v undef h2]; exact h⟩

theorem wpAnyM_first {Q : Act → World → Prop} {i : Nat} {oi : Oper} {v : Value} (hi : ops[i]? = some oi) (hsel : ∀ (j : Nat) (o : Oper) cs b, ops[j]? = some o → o.op ≠ .select cs b) :
    ∀ (fuel : Nat) (listed : Array Bool) (a : Act) (w : World),
      (∀ j oj, ops[j]? = some oj → j ≠ i → listed.getD j true = false → (∀ e ∈ oj.after, Region.binds md e = true → e.on ≠ i) → oi.apart ops oj = true) →
      i ∈ Region.ready md ops listed → YieldsM B P ops oi v a w →
      wpAnyM B P md ops Q fuel (listed.setIfInBounds i true) (a.put oi.dst v) w → wpAnyM B P md ops Q (fuel + 1) listed a w := by
  intro fuel
  induction fuel with
  | zero =>
    intro listed a w _ hr hy H
    refine ⟨fun h => (by rw [h] at hr; cases hr), fun j hj => ?_⟩
    by_cases hji : j = i
    · subst hji; exact hy.mixOp hi (fun a w w' => wpAnyM_later _ _ a w w') H
    · have := ready_mono hj hji
      rw [H.1] at this
      cases this
  | succ fuel ih =>
    intro listed a w hfree hr hy H
    refine ⟨fun h => (by rw [h] at hr; cases hr), fun j hj => ?_⟩
    by_cases hji : j = i
    · subst hji; exact hy.mixOp hi (fun a w w' => wpAnyM_later _ _ a w w') H
    · have h1 := H.2 j (ready_mono hj hji)
      obtain ⟨hjun, oj, hoj, hall⟩ := mem_ready.1 hj
      have hnot : ∀ e ∈ oj.after, Region.binds md e = true → e.on ≠ i := fun e he hb heq => by
        have h1 := hall e he hb
        have h0 := (mem_ready.1 hr).1
        rw [heq] at h1
        rcases Nat.lt_or_ge i listed.size with h' | h'
        · simp [h'] at h0 h1; rw [h0] at h1; cases h1
        · simp [Array.getElem?_eq_none h'] at h1
      have h2 := mixOp_put hoj (hfree j oj hoj hji hjun hnot) (fun cs b => hsel i oi cs b hi) (fun cs b => hsel j oj cs b hoj) hy h1
      have hfree' : ∀ k ok, ops[k]? = some ok → k ≠ i → (listed.setIfInBounds j true).getD k true = false →
          (∀ e ∈ ok.after, Region.binds md e = true → e.on ≠ i) → oi.apart ops ok = true := fun k ok hk hki hun hno => by
        refine hfree k ok hk hki ?_ hno
        by_cases hjk : j = k
        · subst hjk; exact hjun
        · rw [getD_set_ne true hjk] at hun; exact hun
      refine mixOp_mono (fun a' w' h3 => ih (listed.setIfInBounds j true) a' w' hfree' (ready_mono hr (Ne.symm hji)) h3.1 ?_) h2
      rw [Array.setIfInBounds_comm _ _ hji]
      exact h3.2

def mixOpH (B : Nat) (P : Program) (ops : Array Oper) (H : List Nat) (i : Nat) (K : Act → World → Prop) (a : Act) (w : World) : Prop :=
  match ops[i]? with
  | none => K a w
  | some o => if Region.wanted o (yielded ops a.tmps) then ∀ w1, Later w w1 → (if H.contains i then Oper.hardUpon P o a w1 K ((execOp a.eval o).run P w1) else mixUpon B P o a w1 K ((execOp a.eval o).run P w1)) else K (a.put o.dst undef) w

theorem mixOpH_mono {i : Nat} {a : Act} {w : World} {K K' : Act → World → Prop} (h : ∀ a w', K a w' → K' a w') (hh : mixOpH B P ops H i K a w) : mixOpH B P ops H i K' a w := by
  unfold mixOpH at *
  split
  · rename_i ho; simp only [ho] at hh; exact h _ _ hh
  · rename_i o ho
    simp only [ho] at hh
    split
    · rename_i hw
      simp only [hw, if_true] at hh
      intro w1 h1
      have h2 := hh w1 h1
      split
      · rename_i hH; simp only [hH, if_true] at h2; exact Oper.hardUpon_mono h h2
      · rename_i hH; simp only [hH, Bool.false_eq_true, if_false] at h2; exact mixUpon_mono h h2
    · rename_i hw; simp only [hw] at hh; exact h _ _ hh
theorem mixOpH_soft {i : Nat} {a : Act} {w : World} {K : Act → World → Prop} (hi : H.contains i = false) : mixOpH B P ops H i K a w = mixOp B P ops i K a w := by
  unfold mixOpH mixOp
  cases ops[i]? with
  | none => rfl
  | some o => simp only [hi, Bool.false_eq_true, if_false]
theorem mixOpH_later {i : Nat} {a : Act} {w w' : World} {K : Act → World → Prop} (hK : ∀ a w w', Later w w' → K a w → K a w') (hl : Later w w') (hh : mixOpH B P ops H i K a w) : mixOpH B P ops H i K a w' := by
  unfold mixOpH at *
  split
  · rename_i ho; simp only [ho] at hh; exact hK _ _ _ hl hh
  · rename_i o ho
    simp only [ho] at hh
    split
    · rename_i hw; simp only [hw, if_true] at hh; exact fun w1 h1 => hh w1 (hl.trans h1)
    · rename_i hw; simp only [hw] at hh; exact hK _ _ _ hl hh

def wpAnyH (B : Nat) (P : Program) (md : Region.Mode) (ops : Array Oper) (H : List Nat) (Q : Act → World → Prop) : Nat → Array Bool → Act → World → Prop
  | 0, listed, a, w => Region.ready md ops listed = [] ∧ ∀ w', Later w w' → Q a w'
  | fuel + 1, listed, a, w =>
    (Region.ready md ops listed = [] → ∀ w', Later w w' → Q a w') ∧
    ∀ i ∈ Region.ready md ops listed, mixOpH B P ops H i (wpAnyH B P md ops H Q fuel (listed.setIfInBounds i true)) a w
theorem wpAnyH_later {Q : Act → World → Prop} : ∀ (fuel : Nat) (listed : Array Bool) (a : Act) (w w' : World), Later w w' → wpAnyH B P md ops H Q fuel listed a w → wpAnyH B P md ops H Q fuel listed a w'
  | 0, _, _, _, _, hl, h => ⟨h.1, fun w2 h2 => h.2 w2 (hl.trans h2)⟩
  | fuel + 1, _, _, _, _, hl, h => ⟨fun h0 w2 h2 => h.1 h0 w2 (hl.trans h2), fun i hi => mixOpH_later (fun a w w' => wpAnyH_later fuel _ a w w') hl (h.2 i hi)⟩

theorem wpOp_of_mixH {i : Nat} {a : Act} {w : World} {K : Act → World → Prop} {K' : Act → World → Prop} {Q' : Exit → Act → World → Prop} (h : ∀ a w', K a w' → K' a w') (hh : mixOpH B P ops H i K a w) : wpOp P ops Q' i K' a w := by
  by_cases hH : H.contains i = true
  case neg => rw [mixOpH_soft (by simpa using hH)] at hh; exact wpOp_of_mix h hh
  unfold mixOpH at hh
  unfold wpOp
  split
  · rename_i ho; simp only [ho] at hh; exact h _ _ hh
  · rename_i o ho
    simp only [ho] at hh
    split
    · rename_i hw
      simp only [hw, if_true, hH] at hh
      refine .inl ?_
      have h1 := hh w (Later.refl w)
      unfold Oper.wp
      generalize (execOp a.eval o).run P w = r at *
      cases r with
      | ok n w' =>
        cases n <;> simp only [Oper.hardUpon] at h1 <;> simp only [Oper.upon]
        case value u => exact h _ _ h1
        case skip => exact h _ _ h1
        case enter f args => exact h1.mono fun e w'' ⟨v, he, hk⟩ => by subst he; exact h _ _ hk
      | halt x w' => simp only [Oper.hardUpon] at h1
    · rename_i hw; simp only [hw] at hh; exact h _ _ hh
theorem wpAny_of_mixH {Q : Act → World → Prop} {Q' : Exit → Act → World → Prop} (hQ : ∀ a w, Q a w → Q' .normal a w) : ∀ (fuel : Nat) (listed : Array Bool) (a : Act) (w : World),
    wpAnyH B P md ops H Q fuel listed a w → wpAny P md ops Q' fuel listed a w
  | 0, _, _, w, h => ⟨h.1, hQ _ _ (h.2 w (Later.refl w))⟩
  | fuel + 1, _, _, w, h => ⟨fun h0 => hQ _ _ (h.1 h0 w (Later.refl w)), fun i hi => wpOp_of_mixH (fun a' w' => wpAny_of_mixH hQ fuel _ a' w') (h.2 i hi)⟩

theorem wpAnyH_first {Q : Act → World → Prop} {i : Nat} {oi : Oper} {v : Value} (hi : ops[i]? = some oi) (hsel : ∀ (j : Nat) (o : Oper) cs b, ops[j]? = some o → o.op ≠ .select cs b) (hiH : H.contains i = false) :
    ∀ (fuel : Nat) (listed : Array Bool) (a : Act) (w : World), Closed md ops listed →
      (∀ k', H.contains k' = true → listed.getD k' true = true ∨ ∀ listed', Closed md ops listed' → k' ∈ Region.ready md ops listed' → listed'.getD i false = true) →
      (∀ j oj, ops[j]? = some oj → j ≠ i → listed.getD j true = false → (∀ e ∈ oj.after, Region.binds md e = true → e.on ≠ i) → oi.apart ops oj = true) →
      i ∈ Region.ready md ops listed → YieldsM B P ops oi v a w →
      wpAnyH B P md ops H Q fuel (listed.setIfInBounds i true) (a.put oi.dst v) w → wpAnyH B P md ops H Q (fuel + 1) listed a w := by
  intro fuel
  induction fuel with
  | zero =>
    intro listed a w _ _ _ hr hy HH
    refine ⟨fun h => (by rw [h] at hr; cases hr), fun j hj => ?_⟩
    by_cases hji : j = i
    · subst hji; rw [mixOpH_soft hiH]; exact hy.mixOp hi (fun a w w' => wpAnyH_later _ _ a w w') HH
    · have := ready_mono hj hji
      rw [HH.1] at this
      cases this
  | succ fuel ih =>
    intro listed a w hcl hwait hfree hr hy HH
    refine ⟨fun h => (by rw [h] at hr; cases hr), fun j hj => ?_⟩
    by_cases hji : j = i
    · subst hji; rw [mixOpH_soft hiH]; exact hy.mixOp hi (fun a w w' => wpAnyH_later _ _ a w w') HH
    · have hjH : H.contains j = false := by
        cases e : H.contains j
        · rfl
        · exfalso
          rcases hwait j e with h1 | h1
          · rw [(mem_ready.1 hj).1] at h1; cases h1
          · have h2 := h1 listed hcl hj
            rw [unlisted_false (mem_ready.1 hr).1] at h2; cases h2
      have h1 := HH.2 j (ready_mono hj hji)
      rw [mixOpH_soft hjH] at h1 ⊢
      obtain ⟨hjun, oj, hoj, hall⟩ := mem_ready.1 hj
      have hnot : ∀ e ∈ oj.after, Region.binds md e = true → e.on ≠ i := fun e he hb heq => by
        have h1 := hall e he hb
        have h0 := (mem_ready.1 hr).1
        rw [heq] at h1
        rw [unlisted_false h0] at h1; cases h1
      have h2 := mixOp_put hoj (hfree j oj hoj hji hjun hnot) (fun cs b => hsel i oi cs b hi) (fun cs b => hsel j oj cs b hoj) hy h1
      have hfree' : ∀ k ok, ops[k]? = some ok → k ≠ i → (listed.setIfInBounds j true).getD k true = false →
          (∀ e ∈ ok.after, Region.binds md e = true → e.on ≠ i) → oi.apart ops ok = true := fun k ok hk hki hun hno => by
        refine hfree k ok hk hki ?_ hno
        by_cases hjk : j = k
        · subst hjk; exact hjun
        · rw [getD_set_ne true hjk] at hun; exact hun
      refine mixOp_mono (fun a' w' h3 => ih (listed.setIfInBounds j true) a' w' (hcl.step hj) (fun k' hk' => (hwait k' hk').imp listed_keep id) hfree' (ready_mono hr (Ne.symm hji)) h3.1 ?_) h2
      rw [Array.setIfInBounds_comm _ _ hji]
      exact h3.2

def wpCut (B : Nat) (P : Program) (ops : Array Oper) (H : List Nat) (k : Nat) (K : Act → World → Prop) (a : Act) (w : World) : Prop :=
  match ops[k]? with
  | none => False
  | some o =>
    if Region.wanted o (yielded ops a.tmps) then
      (if H.contains k then ∀ w1, Later w w1 → Oper.hardUpon P o a w1 K ((execOp a.eval o).run P w1) else ∀ w1, Later w w1 → mixUpon B P o a w1 K ((execOp a.eval o).run P w1))
    else K (a.put o.dst undef) w
def wpMixF (B : Nat) (P : Program) (ops : Array Oper) (cuts H : List Nat) (Q : Act → World → Prop) : OTree → Act → World → Prop
  | .nil, a, w => ∀ w', Later w w' → Q a w'
  | .op k t, a, w =>
    match ops[k]? with
    | none => False
    | some o =>
      if Region.wanted o (yielded ops a.tmps) then
        (if H.contains k then ∀ w1, Later w w1 → Oper.hardUpon P o a w1 (wpMixF B P ops cuts H Q t) ((execOp a.eval o).run P w1)
         else if cuts.contains k then ∀ w1, Later w w1 → mixUpon B P o a w1 (wpMixF B P ops cuts H Q t) ((execOp a.eval o).run P w1)
         else ∃ v, (∀ w1, Eff B w w1 → o.quietAt P a (Later w1) w1 v) ∧ wpMixF B P ops cuts H Q t (a.put o.dst v) w)
      else wpMixF B P ops cuts H Q t (a.put o.dst undef) w
  | .fork k1 t1 k2 t2, a, w => wpCut B P ops H k1 (wpMixF B P ops cuts H Q t1) a w ∧ wpCut B P ops H k2 (wpMixF B P ops cuts H Q t2) a w
theorem wpCut_later {k : Nat} {K : Act → World → Prop} {a : Act} {w w' : World} (hK : ∀ a w w', Later w w' → K a w → K a w') (hl : Later w w') (h : wpCut B P ops H k K a w) : wpCut B P ops H k K a w' := by
  unfold wpCut at *
  split
  · rename_i ho; simp only [ho] at h
  · rename_i o ho
    simp only [ho] at h
    split
    · rename_i hw
      simp only [hw, if_true] at h
      split
      · rename_i hH; simp only [hH, if_true] at h; exact fun w1 h1 => h w1 (hl.trans h1)
      · rename_i hH; simp only [hH, Bool.false_eq_true, if_false] at h; exact fun w1 h1 => h w1 (hl.trans h1)
    · rename_i hw; simp only [hw] at h; exact hK _ _ _ hl h
theorem wpMixF_later {cuts : List Nat} {Q : Act → World → Prop} : ∀ (t : OTree) (a : Act) (w w' : World), Later w w' → wpMixF B P ops cuts H Q t a w → wpMixF B P ops cuts H Q t a w'
  | .nil, _, _, _, hl, h => fun w2 h2 => h w2 (hl.trans h2)
  | .op k t, a, w, w', hl, h => by
    unfold wpMixF at *
    split
    · rename_i ho; simp only [ho] at h
    · rename_i o ho
      simp only [ho] at h
      split
      · rename_i hw
        simp only [hw, if_true] at h
        split
        · rename_i hH; simp only [hH, if_true] at h; exact fun w1 h1 => h w1 (hl.trans h1)
        · rename_i hH
          simp only [hH] at h
          split
          · rename_i hc; simp only [hc, if_true] at h; exact fun w1 h1 => h w1 (hl.trans h1)
          · rename_i hc
            simp only [hc] at h
            obtain ⟨v, h1, h2⟩ := h
            exact ⟨v, fun w1 hw1 => h1 w1 ((Eff.of hl).trans hw1), wpMixF_later t _ _ _ hl h2⟩
      · rename_i hw; simp only [hw] at h; exact wpMixF_later t _ _ _ hl h
  | .fork k1 t1 k2 t2, a, w, w', hl, h => ⟨wpCut_later (fun a w w' => wpMixF_later t1 a w w') hl h.1, wpCut_later (fun a w w' => wpMixF_later t2 a w w') hl h.2⟩
theorem wpCut_mixOpH {k : Nat} {K K' : Act → World → Prop} {a : Act} {w : World} (hm : ∀ a w, K a w → K' a w) (h : wpCut B P ops H k K a w) : mixOpH B P ops H k K' a w := by
  unfold wpCut at h
  unfold mixOpH
  split
  · rename_i ho; simp only [ho] at h
  · rename_i o ho
    simp only [ho] at h
    split
    · rename_i hw
      simp only [hw, if_true] at h
      intro w1 h1
      split
      · rename_i hH; simp only [hH, if_true] at h; exact Oper.hardUpon_mono hm (h w1 h1)
      · rename_i hH; simp only [hH, Bool.false_eq_true, if_false] at h; exact mixUpon_mono hm (h w1 h1)
    · rename_i hw; simp only [hw] at h; exact hm _ _ h

theorem wpAnyF_lex {cuts : List Nat} {Q : Act → World → Prop} (hs : Region.noSelect ops = true) : ∀ (t : OTree) (bef : List Nat) (listed : Array Bool) (a : Act) (w : World), Closed md ops listed →
    (∀ k', H.contains k' = true → k' ∈ t.left ∨ listed.getD k' true = true) → hardBF md ops H t bef = true →
    mixFromF md ops (cuts ++ H) H t listed = true → wpMixF B P ops cuts H Q t a w → wpAnyH B P md ops H Q t.len listed a w
  | .nil, _, _, _, _, _, _, _, hB, h => ⟨by simpa [mixFromF] using hB, h⟩
  | .fork k1 t1 k2 t2, bef, listed, a, w, hcl, hin, hhb, hB, h => by
    simp only [mixFromF, Bool.and_eq_true, beq_iff_eq] at hB
    obtain ⟨⟨⟨⟨hr, hlen⟩, hall⟩, hB1⟩, hB2⟩ := hB
    simp only [hardBF, Bool.and_eq_true] at hhb
    have step : ∀ (k : Nat) (t : OTree), k ∈ Region.ready md ops listed → (∀ k', H.contains k' = true → k' ∈ k :: t.left ∨ listed.getD k' true = true) → ∀ k', H.contains k' = true → k' ∈ t.left ∨ (listed.setIfInBounds k true).getD k' true = true := fun k t _ hin k' hk' => by
      rcases hin k' hk' with h1 | h1
      · rcases List.mem_cons.1 h1 with rfl | h1
        · exact .inr listed_same
        · exact .inl h1
      · exact .inr (listed_keep h1)
    have r1 : k1 ∈ Region.ready md ops listed := by rw [hr]; simp
    have r2 : k2 ∈ Region.ready md ops listed := by rw [hr]; simp
    have hin2 : ∀ k', H.contains k' = true → k' ∈ k2 :: t2.left ∨ listed.getD k' true = true := fun k' hk' => by
      rcases hin k' hk' with h1 | h1
      · left
        have h2 := List.all_eq_true.1 hall k' (by simpa using hk')
        have h3 : (k1 :: t1.left).contains k' = true := by
          have h4 : k' ∈ k1 :: t1.left := h1
          simpa using h4
        simp only [h3, Bool.not_true, Bool.false_or] at h2
        simpa using h2
      · exact .inr h1
    refine ⟨fun h2 => (by rw [hr] at h2; cases h2), fun i hi => ?_⟩
    rw [hr] at hi
    simp only [List.mem_cons, List.not_mem_nil, or_false] at hi
    rcases hi with rfl | rfl
    · exact wpCut_mixOpH (fun a w => wpAnyF_lex hs t1 (i :: bef) _ a w (hcl.step r1) (step i t1 r1 hin) hhb.1.2 hB1) h.1
    · show mixOpH B P ops H i (wpAnyH B P md ops H Q t1.len _) a w
      rw [hlen]
      exact wpCut_mixOpH (fun a w => wpAnyF_lex hs t2 (i :: bef) _ a w (hcl.step r2) (step i t2 r2 hin2) hhb.2 hB2) h.2
  | .op k t, bef, listed, a, w, hcl, hin, hhb, hB, h => by
    simp only [mixFromF, Bool.and_eq_true] at hB
    obtain ⟨hB1, hB'⟩ := hB
    have hhb' : hardBF md ops H t (k :: bef) = true := by simp only [hardBF, Bool.and_eq_true] at hhb; exact hhb.2
    have hrk : k ∈ Region.ready md ops listed ∧ Region.free md ops listed k = true := by
      by_cases hc : (cuts ++ H).contains k = true
      · simp only [hc, if_true, Bool.and_eq_true, beq_iff_eq] at hB1; exact ⟨by rw [hB1.1]; simp, hB1.2⟩
      · simp only [hc, Bool.false_eq_true, if_false, Bool.and_eq_true] at hB1; exact ⟨by simpa using hB1.1, hB1.2⟩
    have hin' : ∀ k', H.contains k' = true → k' ∈ t.left ∨ (listed.setIfInBounds k true).getD k' true = true := fun k' hk' => by
      rcases hin k' hk' with h1 | h1
      · rcases List.mem_cons.1 h1 with rfl | h1
        · exact .inr listed_same
        · exact .inl h1
      · exact .inr (listed_keep h1)
    have ih := fun a w => wpAnyF_lex (cuts := cuts) (Q := Q) hs t (k :: bef) (listed.setIfInBounds k true) a w (hcl.step hrk.1) hin' hhb' hB'
    have hwait : ∀ k', H.contains k' = true → listed.getD k' true = true ∨ ∀ listed', Closed md ops listed' → k' ∈ Region.ready md ops listed' → k' ≠ k → listed'.getD k false = true := fun k' hk' => by
      rcases hin k' hk' with h1 | h1
      · right
        intro listed' hc' hr' hne
        rcases List.mem_cons.1 h1 with rfl | h1
        · exact absurd rfl hne
        · obtain ⟨b, hb1, hb2⟩ := hardBF_spec hk' t (k :: bef) hhb' h1
          exact hard_waits hc' hr' hb2 (hb1 k (List.mem_cons_self ..))
      · exact .inl h1
    unfold wpMixF at h
    cases h0 : ops[k]? with
    | none => simp only [h0] at h
    | some o =>
    simp only [h0] at h
    have only : (cuts ++ H).contains k = true → Region.ready md ops listed = [k] := fun hc => by
      simp only [hc, if_true, Bool.and_eq_true, beq_iff_eq] at hB1; exact hB1.1
    have cont : H.contains k = true ∨ cuts.contains k = true → (cuts ++ H).contains k = true := fun h => by
      simp only [List.contains_iff_mem, List.mem_append] at *; exact h.symm
    by_cases hw : Region.wanted o (yielded ops a.tmps) = true
    · simp only [hw, if_true] at h
      by_cases hH : H.contains k = true
      · simp only [hH, if_true] at h
        have h1 := only (cont (.inl hH))
        refine ⟨fun h2 => (by rw [h1] at h2; cases h2), fun i hi => ?_⟩
        rw [h1] at hi
        obtain rfl : i = k := by simpa using hi
        unfold mixOpH
        simp only [h0, hw, if_true, hH]
        exact fun w1 h2 => Oper.hardUpon_mono (fun a' w' => ih a' w') (h w1 h2)
      · have hH' : H.contains k = false := by simpa using hH
        simp only [hH', Bool.false_eq_true, if_false] at h
        by_cases hc : cuts.contains k = true
        · simp only [hc, if_true] at h
          have h1 := only (cont (.inr hc))
          refine ⟨fun h2 => (by rw [h1] at h2; cases h2), fun i hi => ?_⟩
          rw [h1] at hi
          obtain rfl : i = k := by simpa using hi
          rw [mixOpH_soft hH']
          unfold mixOp
          simp only [h0, hw, if_true]
          exact fun w1 h2 => mixUpon_mono (fun a' w' => ih a' w') (h w1 h2)
        · simp only [hc, Bool.false_eq_true, if_false] at h
          obtain ⟨v, hy, hK⟩ := h
          exact wpAnyH_first h0 (Region.noSelect_spec hs) hH' t.len listed a w hcl (fun k' hk' => (hwait k' hk').imp id fun h2 l' c' r' => h2 l' c' r' (fun e => by rw [e, hH'] at hk'; cases hk')) (Region.free_spec h0 hrk.2) hrk.1 (.inl ⟨hw, hy⟩) (ih _ _ hK)
    · simp only [hw] at h
      by_cases hH : H.contains k = true
      · have h1 := only (cont (.inl hH))
        refine ⟨fun h2 => (by rw [h1] at h2; cases h2), fun i hi => ?_⟩
        rw [h1] at hi
        obtain rfl : i = k := by simpa using hi
        unfold mixOpH
        simp only [h0, hw, Bool.false_eq_true, if_false]
        exact ih _ _ h
      · have hH' : H.contains k = false := by simpa using hH
        exact wpAnyH_first h0 (Region.noSelect_spec hs) hH' t.len listed a w hcl (fun k' hk' => (hwait k' hk').imp id fun h2 l' c' r' => h2 l' c' r' (fun e => by rw [e, hH'] at hk'; cases hk')) (Region.free_spec h0 hrk.2) hrk.1 (.inr ⟨by simpa using hw, rfl⟩) (ih _ _ h)

theorem wp_region_mixb {id : Nat} {Q : Exit → Act → World → Prop} {a : Act} {w : World} {ops : Array Oper} (B : Nat) (cuts H : List Nat) (t : OTree) (hm : P.follows .mixedOrders = true) (hB : mixFB .any ops cuts H t = true)
    (h : wpMixF B P ops cuts H (fun a' w' => Q .normal a' w') t a w) : (Code.region id ops true).wp P Q a w := by
  simp only [mixFB, Bool.and_eq_true, beq_iff_eq] at hB
  obtain ⟨⟨⟨⟨h1, h2⟩, h3⟩, h4⟩, h5⟩ := hB
  refine wp_region_any hm (wpAny_of_mixH (B := B) (H := H) (Q := fun a' w' => Q .normal a' w') (fun _ _ h => h) _ _ _ _ ?_)
  have hall : ∀ k', H.contains k' = true → k' ∈ t.left ∨ (Array.replicate ops.size false).getD k' true = true := fun k' hk' => by
    left
    have := List.all_eq_true.1 h5 k' (by simpa using hk')
    simpa using this
  have := wpAnyF_lex (P := P) (md := .any) (cuts := cuts) (H := H) (Q := fun a' w' => Q .normal a' w') h1 t [] (Array.replicate ops.size false) a { w with drawn := w.drawn + 1 } (fun j o _ hj => by
    exfalso
    rw [Array.getD_eq_getD_getElem?, Array.getElem?_replicate] at hj
    split at hj <;> simp at hj) hall h4 h3 (wpMixF_later t a w _ (later_drew w) h)
  rwa [h2] at this
end
section
variable {B : Nat} {P : Program} {ops : Array Oper} {cuts H : List Nat} {Q : Act → World → Prop} {o : Oper} {t t1 t2 : OTree} {k k1 k2 : Nat} {a : Act} {w : World}
theorem wpMixF_nil (h : ∀ w', Later w w' → Q a w') : wpMixF B P ops cuts H Q .nil a w := h
theorem wpMixF_step (hB : B ≤ w.heap.size) (ho : ops[k]? = some o) (h : ∀ K : Act → World → Prop, (∀ a w, wpMixF B P ops cuts H Q t a w → K a w) →
      if Region.wanted o (yielded ops a.tmps) then
        (if H.contains k then ∀ p : Lt w, Oper.hardUpon P o a p.v K ((execOp a.eval o).run P p.v)
         else if cuts.contains k then ∀ p : Lt w, mixUpon B P o a p.v K ((execOp a.eval o).run P p.v)
         else ∃ v, (∀ p : LtB B w, o.quietAt P a (fun w'' => ∃ q : Lt p.v, w'' = q.v) p.v v) ∧ K (a.put o.dst v) w)
      else K (a.put o.dst undef) w) : wpMixF B P ops cuts H Q (.op k t) a w := by
  have h1 := h _ (fun _ _ h => h)
  unfold wpMixF
  simp only [ho]
  split
  · rename_i hw
    rw [if_pos hw] at h1
    split
    · rename_i hH
      rw [if_pos hH] at h1
      exact fun w1 hw1 => h1 ⟨w1, hw1⟩
    · rename_i hH
      rw [if_neg hH] at h1
      split
      · rename_i hc
        rw [if_pos hc] at h1
        exact fun w1 hw1 => h1 ⟨w1, hw1⟩
      · rename_i hc
        rw [if_neg hc] at h1
        obtain ⟨v, hv, hn⟩ := h1
        refine ⟨v, fun w1 hw1 => ?_, hn⟩
        have h2 := hv ⟨w1, hw1 hB⟩
        unfold Oper.quietAt at *
        generalize (execOp a.eval o).run P w1 = r at *
        cases r with
        | ok n w' =>
          cases n <;> simp only [Oper.quietUpon] at h2 ⊢
          case enter f args => exact ⟨h2.1, h2.2.mono fun e w'' ⟨he, q, hq⟩ => ⟨he, hq ▸ q.h⟩⟩
          all_goals exact h2
        | halt x w' => simp only [Oper.quietUpon] at h2
  · rename_i hw; rw [if_neg hw] at h1; exact h1
theorem wpCut_step (ho : ops[k]? = some o) (h : ∀ K : Act → World → Prop, (∀ a w, wpMixF B P ops cuts H Q t a w → K a w) →
      if Region.wanted o (yielded ops a.tmps) then
        (if H.contains k then ∀ p : Lt w, Oper.hardUpon P o a p.v K ((execOp a.eval o).run P p.v)
         else ∀ p : Lt w, mixUpon B P o a p.v K ((execOp a.eval o).run P p.v))
      else K (a.put o.dst undef) w) : wpCut B P ops H k (wpMixF B P ops cuts H Q t) a w := by
  have h1 := h _ (fun _ _ h => h)
  unfold wpCut
  simp only [ho]
  split
  · rename_i hw
    rw [if_pos hw] at h1
    split
    · rename_i hH
      rw [if_pos hH] at h1
      exact fun w1 hw1 => h1 ⟨w1, hw1⟩
    · rename_i hH
      rw [if_neg hH] at h1
      exact fun w1 hw1 => h1 ⟨w1, hw1⟩
  · rename_i hw; rw [if_neg hw] at h1; exact h1
theorem wpMixF_fork (h1 : wpCut B P ops H k1 (wpMixF B P ops cuts H Q t1) a w) (h2 : wpCut B P ops H k2 (wpMixF B P ops cuts H Q t2) a w) : wpMixF B P ops cuts H Q (.fork k1 t1 k2 t2) a w := ⟨h1, h2⟩
end
end MB
end Go.Proofs.YtneoeokfffnonabGreatDoor

/- Regions in which an operation that changes what was there and a quiet one can come up in either order. No program in sight. -/
namespace Go.Proofs.YtneoeokfffnonabGreatDoor
open Go.RowKit

namespace MG
section
variable {P : Program} {ops : Array Oper} {md : Region.Mode} {H : List Nat}
def wpCut (P : Program) (ops : Array Oper) (H : List Nat) (k : Nat) (K : Act → World → Prop) (a : Act) (w : World) : Prop :=
  match ops[k]? with
  | none => False
  | some o =>
    if Region.wanted o (yielded ops a.tmps) then
      (if H.contains k then ∀ w1, Later w w1 → Oper.hardUpon P o a w1 K ((execOp a.eval o).run P w1) else ∀ w1, Later w w1 → Oper.mixUpon P o a w1 K ((execOp a.eval o).run P w1))
    else K (a.put o.dst undef) w
def wpMixF (P : Program) (ops : Array Oper) (cuts H : List Nat) (Q : Act → World → Prop) : OTree → Act → World → Prop
  | .nil, a, w => ∀ w', Later w w' → Q a w'
  | .op k t, a, w =>
    match ops[k]? with
    | none => False
    | some o =>
      if Region.wanted o (yielded ops a.tmps) then
        (if H.contains k then ∀ w1, Later w w1 → Oper.hardUpon P o a w1 (wpMixF P ops cuts H Q t) ((execOp a.eval o).run P w1)
         else if cuts.contains k then ∀ w1, Later w w1 → Oper.mixUpon P o a w1 (wpMixF P ops cuts H Q t) ((execOp a.eval o).run P w1)
         else ∃ v, (∀ w1, Later w w1 → o.quietAt P a (Later w1) w1 v) ∧ wpMixF P ops cuts H Q t (a.put o.dst v) w)
      else wpMixF P ops cuts H Q t (a.put o.dst undef) w
  | .fork k1 t1 k2 t2, a, w => wpCut P ops H k1 (wpMixF P ops cuts H Q t1) a w ∧ wpCut P ops H k2 (wpMixF P ops cuts H Q t2) a w
def mixFromF (md : Region.Mode) (ops : Array Oper) (cuts H : List Nat) : OTree → Array Bool → Bool
  | .nil, listed => (Region.ready md ops listed).isEmpty
  | .op k t, listed => (if cuts.contains k then Region.ready md ops listed == [k] && Region.free md ops listed k else (Region.ready md ops listed).contains k && Region.free md ops listed k) && mixFromF md ops cuts H t (listed.setIfInBounds k true)
  | .fork k1 t1 k2 t2, listed => (Region.ready md ops listed == [k1, k2] && (t1.len == t2.len) && (H.all fun k => !(k1 :: t1.left).contains k || (k2 :: t2.left).contains k)) && mixFromF md ops cuts H t1 (listed.setIfInBounds k1 true) && mixFromF md ops cuts H t2 (listed.setIfInBounds k2 true)
def hardBF (md : Region.Mode) (ops : Array Oper) (H : List Nat) : OTree → List Nat → Bool
  | .nil, _ => true
  | .op k t, bef => (if H.contains k then chkH md ops [k] bef else true) && hardBF md ops H t (k :: bef)
  | .fork k1 t1 k2 t2, bef => (if H.contains k1 then chkH md ops [k1] bef else true) && (if H.contains k2 then chkH md ops [k2] bef else true) && hardBF md ops H t1 bef && hardBF md ops H t2 bef
theorem hardBF_spec {k' : Nat} (hk : H.contains k' = true) : ∀ (t : OTree) (bef : List Nat), hardBF md ops H t bef = true → k' ∈ t.left → ∃ bef', (∀ x ∈ bef, x ∈ bef') ∧ chkH md ops [k'] bef' = true
  | .nil, _, _, h => by cases h
  | .op k t, bef, hB, h => by
    simp only [hardBF, Bool.and_eq_true] at hB
    rcases List.mem_cons.1 h with rfl | h
    · refine ⟨bef, fun x hx => hx, ?_⟩
      have h1 := hB.1
      simp only [hk, if_true] at h1
      exact h1
    · obtain ⟨b, h1, h2⟩ := hardBF_spec hk t (k :: bef) hB.2 h
      exact ⟨b, fun x hx => h1 x (List.mem_cons_of_mem _ hx), h2⟩
  | .fork k1 t1 k2 t2, bef, hB, h => by
    simp only [hardBF, Bool.and_eq_true] at hB
    rcases List.mem_cons.1 h with rfl | h
    · refine ⟨bef, fun x hx => hx, ?_⟩
      have h1 := hB.1.1.1
      simp only [hk, if_true] at h1
      exact h1
    · obtain ⟨b, h1, h2⟩ := hardBF_spec hk t1 bef hB.1.2 h
      exact ⟨b, h1, h2⟩
theorem wpCut_later {k : Nat} {K : Act → World → Prop} {a : Act} {w w' : World} (hK : ∀ a w w', Later w w' → K a w → K a w') (hl : Later w w') (h : wpCut P ops H k K a w) : wpCut P ops H k K a w' := by
  unfold wpCut at *
  split
  · rename_i ho; simp only [ho] at h
  · rename_i o ho
    simp only [ho] at h
    split
    · rename_i hw
      simp only [hw, if_true] at h
      split
      · rename_i hH; simp only [hH, if_true] at h; exact fun w1 h1 => h w1 (hl.trans h1)
      · rename_i hH; simp only [hH, Bool.false_eq_true, if_false] at h; exact fun w1 h1 => h w1 (hl.trans h1)
    · rename_i hw; simp only [hw] at h; exact hK _ _ _ hl h
theorem wpMixF_later {cuts : List Nat} {Q : Act → World → Prop} : ∀ (t : OTree) (a : Act) (w w' : World), Later w w' → wpMixF P ops cuts H Q t a w → wpMixF P ops cuts H Q t a w'
  | .nil, _, _, _, hl, h => fun w2 h2 => h w2 (hl.trans h2)
  | .op k t, a, w, w', hl, h => by
    unfold wpMixF at *
    split
    · rename_i ho; simp only [ho] at h
    · rename_i o ho
      simp only [ho] at h
      split
      · rename_i hw
        simp only [hw, if_true] at h
        split
        · rename_i hH; simp only [hH, if_true] at h; exact fun w1 h1 => h w1 (hl.trans h1)
        · rename_i hH
          simp only [hH] at h
          split
          · rename_i hc; simp only [hc, if_true] at h; exact fun w1 h1 => h w1 (hl.trans h1)
          · rename_i hc
            simp only [hc] at h
            obtain ⟨v, h1, h2⟩ := h
            exact ⟨v, fun w1 hw1 => h1 w1 (hl.trans hw1), wpMixF_later t _ _ _ hl h2⟩
      · rename_i hw; simp only [hw] at h; exact wpMixF_later t _ _ _ hl h
  | .fork k1 t1 k2 t2, a, w, w', hl, h => ⟨wpCut_later (fun a w w' => wpMixF_later t1 a w w') hl h.1, wpCut_later (fun a w w' => wpMixF_later t2 a w w') hl h.2⟩
theorem wpCut_mixOpH {k : Nat} {K K' : Act → World → Prop} {a : Act} {w : World} (hm : ∀ a w, K a w → K' a w) (h : wpCut P ops H k K a w) : mixOpH P ops H k K' a w := by
  unfold wpCut at h
  unfold mixOpH
  split
  · rename_i ho; simp only [ho] at h
  · rename_i o ho
    simp only [ho] at h
    split
    · rename_i hw
      simp only [hw, if_true] at h
      intro w1 h1
      split
      · rename_i hH; simp only [hH, if_true] at h; exact Oper.hardUpon_mono hm (h w1 h1)
      · rename_i hH; simp only [hH, Bool.false_eq_true, if_false] at h; exact Oper.mixUpon_mono hm (h w1 h1)
    · rename_i hw; simp only [hw] at h; exact hm _ _ h

theorem wpAnyF_lex {cuts : List Nat} {Q : Act → World → Prop} (hs : Region.noSelect ops = true) : ∀ (t : OTree) (bef : List Nat) (listed : Array Bool) (a : Act) (w : World), Closed md ops listed →
    (∀ k', H.contains k' = true → k' ∈ t.left ∨ listed.getD k' true = true) → hardBF md ops H t bef = true →
    mixFromF md ops (cuts ++ H) H t listed = true → wpMixF P ops cuts H Q t a w → wpAnyH P md ops H Q t.len listed a w
  | .nil, _, _, _, _, _, _, _, hB, h => ⟨by simpa [mixFromF] using hB, h⟩
  | .fork k1 t1 k2 t2, bef, listed, a, w, hcl, hin, hhb, hB, h => by
    simp only [mixFromF, Bool.and_eq_true, beq_iff_eq] at hB
    obtain ⟨⟨⟨⟨hr, hlen⟩, hall⟩, hB1⟩, hB2⟩ := hB
    simp only [hardBF, Bool.and_eq_true] at hhb
    have step : ∀ (k : Nat) (t : OTree), k ∈ Region.ready md ops listed → (∀ k', H.contains k' = true → k' ∈ k :: t.left ∨ listed.getD k' true = true) → ∀ k', H.contains k' = true → k' ∈ t.left ∨ (listed.setIfInBounds k true).getD k' true = true := fun k t _ hin k' hk' => by
      rcases hin k' hk' with h1 | h1
      · rcases List.mem_cons.1 h1 with rfl | h1
        · exact .inr listed_same
        · exact .inl h1
      · exact .inr (listed_keep h1)
    have r1 : k1 ∈ Region.ready md ops listed := by rw [hr]; simp
    have r2 : k2 ∈ Region.ready md ops listed := by rw [hr]; simp
    have hin2 : ∀ k', H.contains k' = true → k' ∈ k2 :: t2.left ∨ listed.getD k' true = true := fun k' hk' => by
      rcases hin k' hk' with h1 | h1
      · left
        have h2 := List.all_eq_true.1 hall k' (by simpa using hk')
        have h3 : (k1 :: t1.left).contains k' = true := by
          have h4 : k' ∈ k1 :: t1.left := h1
          simpa using h4
        simp only [h3, Bool.not_true, Bool.false_or] at h2
        simpa using h2
      · exact .inr h1
    refine ⟨fun h2 => (by rw [hr] at h2; cases h2), fun i hi => ?_⟩
    rw [hr] at hi
    simp only [List.mem_cons, List.not_mem_nil, or_false] at hi
    rcases hi with rfl | rfl
    · exact wpCut_mixOpH (fun a w => wpAnyF_lex hs t1 bef _ a w (hcl.step r1) (step i t1 r1 hin) hhb.1.2 hB1) h.1
    · show mixOpH P ops H i (wpAnyH P md ops H Q t1.len _) a w
      rw [hlen]
      exact wpCut_mixOpH (fun a w => wpAnyF_lex hs t2 bef _ a w (hcl.step r2) (step i t2 r2 hin2) hhb.2 hB2) h.2
  | .op k t, bef, listed, a, w, hcl, hin, hhb, hB, h => by
    simp only [mixFromF, Bool.and_eq_true] at hB
    obtain ⟨hB1, hB'⟩ := hB
    have hhb' : hardBF md ops H t (k :: bef) = true := by simp only [hardBF, Bool.and_eq_true] at hhb; exact hhb.2
    have hrk : k ∈ Region.ready md ops listed ∧ Region.free md ops listed k = true := by
      by_cases hc : (cuts ++ H).contains k = true
      · simp only [hc, if_true, Bool.and_eq_true, beq_iff_eq] at hB1; exact ⟨by rw [hB1.1]; simp, hB1.2⟩
      · simp only [hc, Bool.false_eq_true, if_false, Bool.and_eq_true] at hB1; exact ⟨by simpa using hB1.1, hB1.2⟩
    have hin' : ∀ k', H.contains k' = true → k' ∈ t.left ∨ (listed.setIfInBounds k true).getD k' true = true := fun k' hk' => by
      rcases hin k' hk' with h1 | h1
      · rcases List.mem_cons.1 h1 with rfl | h1
        · exact .inr listed_same
        · exact .inl h1
      · exact .inr (listed_keep h1)
    have ih := fun a w => wpAnyF_lex (cuts := cuts) (Q := Q) hs t (k :: bef) (listed.setIfInBounds k true) a w (hcl.step hrk.1) hin' hhb' hB'
    have hwait : ∀ k', H.contains k' = true → listed.getD k' true = true ∨ ∀ listed', Closed md ops listed' → k' ∈ Region.ready md ops listed' → k' ≠ k → listed'.getD k false = true := fun k' hk' => by
      rcases hin k' hk' with h1 | h1
      · right
        intro listed' hc' hr' hne
        rcases List.mem_cons.1 h1 with rfl | h1
        · exact absurd rfl hne
        · obtain ⟨b, hb1, hb2⟩ := hardBF_spec hk' t (k :: bef) hhb' h1
          exact hard_waits hc' hr' hb2 (hb1 k (List.mem_cons_self ..))
      · exact .inl h1
    unfold wpMixF at h
    cases h0 : ops[k]? with
    | none => simp only [h0] at h
    | some o =>
    simp only [h0] at h
    have only : (cuts ++ H).contains k = true → Region.ready md ops listed = [k] := fun hc => by
      simp only [hc, if_true, Bool.and_eq_true, beq_iff_eq] at hB1; exact hB1.1
    have cont : H.contains k = true ∨ cuts.contains k = true → (cuts ++ H).contains k = true := fun h => by
      simp only [List.contains_iff_mem, List.mem_append] at *; exact h.symm
    by_cases hw : Region.wanted o (yielded ops a.tmps) = true
    · simp only [hw, if_true] at h
      by_cases hH : H.contains k = true
      · simp only [hH, if_true] at h
        have h1 := only (cont (.inl hH))
        refine ⟨fun h2 => (by rw [h1] at h2; cases h2), fun i hi => ?_⟩
        rw [h1] at hi
        obtain rfl : i = k := by simpa using hi
        unfold mixOpH
        simp only [h0, hw, if_true, hH]
        exact fun w1 h2 => Oper.hardUpon_mono (fun a' w' => ih a' w') (h w1 h2)
      · have hH' : H.contains k = false := by simpa using hH
        simp only [hH', Bool.false_eq_true, if_false] at h
        by_cases hc : cuts.contains k = true
        · simp only [hc, if_true] at h
          have h1 := only (cont (.inr hc))
          refine ⟨fun h2 => (by rw [h1] at h2; cases h2), fun i hi => ?_⟩
          rw [h1] at hi
          obtain rfl : i = k := by simpa using hi
          rw [mixOpH_soft hH']
          unfold mixOp
          simp only [h0, hw, if_true]
          exact fun w1 h2 => Oper.mixUpon_mono (fun a' w' => ih a' w') (h w1 h2)
        · simp only [hc, Bool.false_eq_true, if_false] at h
          obtain ⟨v, hy, hK⟩ := h
          exact wpAnyH_first h0 (Region.noSelect_spec hs) hH' t.len listed a w hcl (fun k' hk' => (hwait k' hk').imp id fun h2 l' c' r' => h2 l' c' r' (fun e => by rw [e, hH'] at hk'; cases hk')) (Region.free_spec h0 hrk.2) hrk.1 (.inl ⟨hw, hy⟩) (ih _ _ hK)
    · simp only [hw] at h
      by_cases hH : H.contains k = true
      · have h1 := only (cont (.inl hH))
        refine ⟨fun h2 => (by rw [h1] at h2; cases h2), fun i hi => ?_⟩
        rw [h1] at hi
        obtain rfl : i = k := by simpa using hi
        unfold mixOpH
        simp only [h0, hw, Bool.false_eq_true, if_false]
        exact ih _ _ h
      · have hH' : H.contains k = false := by simpa using hH
        exact wpAnyH_first h0 (Region.noSelect_spec hs) hH' t.len listed a w hcl (fun k' hk' => (hwait k' hk').imp id fun h2 l' c' r' => h2 l' c' r' (fun e => by rw [e, hH'] at hk'; cases hk')) (Region.free_spec h0 hrk.2) hrk.1 (.inr ⟨by simpa using hw, rfl⟩) (ih _ _ h)

def mixFB (md : Region.Mode) (ops : Array Oper) (cuts H : List Nat) (t : OTree) : Bool := Region.noSelect ops && (t.len == ops.size) && mixFromF md ops (cuts ++ H) H t (Array.replicate ops.size false) && hardBF md ops H t [] && H.all fun k => t.left.contains k
theorem wp_region_mixf {id : Nat} {Q : Exit → Act → World → Prop} {a : Act} {w : World} {ops : Array Oper} (cuts H : List Nat) (t : OTree) (hm : P.follows .mixedOrders = true) (hB : mixFB .any ops cuts H t = true)
    (h : wpMixF P ops cuts H (fun a' w' => Q .normal a' w') t a w) : (Code.region id ops true).wp P Q a w := by
  simp only [mixFB, Bool.and_eq_true, beq_iff_eq] at hB
  obtain ⟨⟨⟨⟨h1, h2⟩, h3⟩, h4⟩, h5⟩ := hB
  refine wp_region_any hm (wpAny_of_mixH (H := H) (Q := fun a' w' => Q .normal a' w') (fun _ _ h => h) _ _ _ _ ?_)
  have hall : ∀ k', H.contains k' = true → k' ∈ t.left ∨ (Array.replicate ops.size false).getD k' true = true := fun k' hk' => by
    left
    have := List.all_eq_true.1 h5 k' (by simpa using hk')
    simpa using this
  have := wpAnyF_lex (P := P) (md := .any) (cuts := cuts) (H := H) (Q := fun a' w' => Q .normal a' w') h1 t [] (Array.replicate ops.size false) a { w with drawn := w.drawn + 1 } (fun j o _ hj => by
    exfalso
    rw [Array.getD_eq_getD_getElem?, Array.getElem?_replicate] at hj
    split at hj <;> simp at hj) hall h4 h3 (wpMixF_later t a w _ (later_drew w) h)
  rwa [h2] at this
end
section
variable {P : Program} {ops : Array Oper} {cuts H : List Nat} {Q : Act → World → Prop} {o : Oper} {t t1 t2 : OTree} {k k1 k2 : Nat} {a : Act} {w : World}
theorem wpMixF_nil (h : ∀ w', Later w w' → Q a w') : wpMixF P ops cuts H Q .nil a w := h
theorem wpMixF_step (ho : ops[k]? = some o) (h : ∀ K : Act → World → Prop, (∀ a w, wpMixF P ops cuts H Q t a w → K a w) →
      if Region.wanted o (yielded ops a.tmps) then
        (if H.contains k then ∀ p : Lt w, Oper.hardUpon P o a p.v K ((execOp a.eval o).run P p.v)
         else if cuts.contains k then ∀ p : Lt w, Oper.mixUpon P o a p.v K ((execOp a.eval o).run P p.v)
         else ∃ v, (∀ p : Lt w, o.quietAt P a (fun w'' => ∃ q : Lt p.v, w'' = q.v) p.v v) ∧ K (a.put o.dst v) w)
      else K (a.put o.dst undef) w) : wpMixF P ops cuts H Q (.op k t) a w := by
  have h1 := h _ (fun _ _ h => h)
  unfold wpMixF
  simp only [ho]
  split
  · rename_i hw
    rw [if_pos hw] at h1
    split
    · rename_i hH
      rw [if_pos hH] at h1
      exact fun w1 hw1 => h1 ⟨w1, hw1⟩
    · rename_i hH
      rw [if_neg hH] at h1
      split
      · rename_i hc
        rw [if_pos hc] at h1
        exact fun w1 hw1 => h1 ⟨w1, hw1⟩
      · rename_i hc
        rw [if_neg hc] at h1
        obtain ⟨v, hv, hn⟩ := h1
        refine ⟨v, fun w1 hw1 => ?_, hn⟩
        have h2 := hv ⟨w1, hw1⟩
        unfold Oper.quietAt at *
        generalize (execOp a.eval o).run P w1 = r at *
        cases r with
        | ok n w' =>
          cases n <;> simp only [Oper.quietUpon] at h2 ⊢
          case enter f args => exact ⟨h2.1, h2.2.mono fun e w'' ⟨he, q, hq⟩ => ⟨he, hq ▸ q.h⟩⟩
          all_goals exact h2
        | halt x w' => simp only [Oper.quietUpon] at h2
  · rename_i hw; rw [if_neg hw] at h1; exact h1
theorem wpCut_step (ho : ops[k]? = some o) (h : ∀ K : Act → World → Prop, (∀ a w, wpMixF P ops cuts H Q t a w → K a w) →
      if Region.wanted o (yielded ops a.tmps) then
        (if H.contains k then ∀ p : Lt w, Oper.hardUpon P o a p.v K ((execOp a.eval o).run P p.v)
         else ∀ p : Lt w, Oper.mixUpon P o a p.v K ((execOp a.eval o).run P p.v))
      else K (a.put o.dst undef) w) : wpCut P ops H k (wpMixF P ops cuts H Q t) a w := by
  have h1 := h _ (fun _ _ h => h)
  unfold wpCut
  simp only [ho]
  split
  · rename_i hw
    rw [if_pos hw] at h1
    split
    · rename_i hH
      rw [if_pos hH] at h1
      exact fun w1 hw1 => h1 ⟨w1, hw1⟩
    · rename_i hH
      rw [if_neg hH] at h1
      exact fun w1 hw1 => h1 ⟨w1, hw1⟩
  · rename_i hw; rw [if_neg hw] at h1; exact h1
theorem wpMixF_fork (h1 : wpCut P ops H k1 (wpMixF P ops cuts H Q t1) a w) (h2 : wpCut P ops H k2 (wpMixF P ops cuts H Q t2) a w) : wpMixF P ops cuts H Q (.fork k1 t1 k2 t2) a w := ⟨h1, h2⟩
end
end MG
end Go.Proofs.YtneoeokfffnonabGreatDoor
