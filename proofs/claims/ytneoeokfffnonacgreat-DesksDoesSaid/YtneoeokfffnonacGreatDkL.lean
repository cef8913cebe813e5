/- Merged: DkL DkM DkT. -/
import Derived.Test.YtneoeokfffnonacGreatDkDo
import Derived.Deep.LoopGhost
import Derived.Test.YtneoeokfffnonacGreatOpen
import Derived.Test.YtneoeokfffnonacGreatPlainW
set_option linter.unusedVariables false
set_option linter.unusedSimpArgs false

/- Merged: DkS StW DkL DkB. -/

/- Printed by gendks.py: the walk of desks' Settle. -/
namespace Go.Proofs.YtneoeokfffnonacGreat
open Go.RowKit
def sTo (d : DkM) : Nat → DkM
  | 0 => d
  | k + 1 => sendAll (sTo d k) k
def hTo (d : DkM) : Nat → DkM
  | 0 => d
  | k + 1 => hearAll (hTo d k) k
theorem settle_to (d : DkM) : settle d = hTo (sTo d 4) 4 := rfl
theorem sTo_ok {d : DkM} {N : Nat} (h : d.Ok) (hs : d.Sm N) : ∀ k, (sTo d k).Ok ∧ (sTo d k).Sm N
  | 0 => ⟨h, hs⟩
  | k + 1 => ⟨((sTo_ok h hs k).1.sendAll_done _ k rfl).1, (sTo_ok h hs k).2.sendLoop _ _⟩
theorem hTo_ok {d : DkM} {N : Nat} (h : d.Ok) (hs : d.Sm N) : ∀ k, (hTo d k).Ok ∧ (hTo d k).Sm N
  | 0 => ⟨h, hs⟩
  | k + 1 => ⟨((hTo_ok h hs k).1.hearAll_done _ k rfl).1, (hTo_ok h hs k).2.hearLoop _ _⟩
section
variable {w : World} {base : Nat} {F : Nat → Prop} {g : Nat} {gw : Nat → Nat} {d : DkM}
/-- What a settling leaves behind. -/
def DSt (w : World) (base : Nat) (F : Nat → Prop) (g : Nat) (d' : DkM) (w' : World) : Prop := ∃ F' gw', DkAt w' base F' g gw' d' ∧ Moves F w w' ∧ Grows F w F'
theorem DSt.same (h : DkAt w base F g gw d) : DSt w base F g d w := ⟨F, gw, h, Moves.refl _ _, fun _ hk => .inl hk⟩

theorem sAll_none {e : DkM} {k : Nat} (h : e.writer (k : Int) = none) : sendAll e k = e := sendAll_none h
theorem sAll_step {e : DkM} {k : Nat} {m : WM} (h : e.writer (k : Int) = some m) : e.step ⟨4, k, 0, 0, ⟨#[]⟩⟩ = e.send m := by
  unfold DkM.step
  rw [if_neg (by show ¬ ((4 : Int) < 1 ∨ 7 < (4 : Int)); omega), if_neg (by show ¬ ((4 : Int) = 1); omega)]
  show (match e.writer (k : Int) with | none => _ | some m => _) = _
  rw [h]
  rfl

theorem hAll_none {e : DkM} {k : Nat} (h : e.writer (k : Int) = none) : hearAll e k = e := hearAll_none h
theorem hAll_step {e : DkM} {k : Nat} {m : WM} (h : e.writer (k : Int) = some m) : e.step ⟨5, k, 0, 0, ⟨#[]⟩⟩ = e.hear m := by
  unfold DkM.step
  rw [if_neg (by show ¬ ((5 : Int) < 1 ∨ 7 < (5 : Int)); omega), if_neg (by show ¬ ((5 : Int) = 1); omega)]
  show (match e.writer (k : Int) with | none => _ | some m => _) = _
  rw [h]
  rfl

set_option maxRecDepth 100000 in
set_option maxHeartbeats 800000 in
theorem Settle_c (h : DkAt w base F g gw d) (ho : d.Ok) (hs : d.Sm 1000) : Calls Tryz.prog 11 #[.pointer (some ⟨g, 0, none⟩)] w fun e w' => (∃ v, e = .returned v) ∧ DSt w base F g (settle d) w' := by
  have HST := Lib.hid (DSt.same h)
  have HOK := Lib.hid (sTo_ok ho hs)
  have HOK2 := Lib.hid (hTo_ok (sTo_ok ho hs 4).1 (sTo_ok ho hs 4).2)
  clear h ho hs
  go_enter Tryz.func11, Tryz.ntmps11
  go_wp2
  go_loopw [4] (fun s wr => ∃ k : Nat, k ≤ 4 ∧ s = (.int .i64 k) ∧ Hid (DSt w base F g (sTo d k) wr)) (fun s _ => 4 - (intOf s).toNat)
  case atStart => exact ⟨0, by omega, rfl, HST⟩
  case round =>
    obtain ⟨k, hk, rfl, HS⟩ := hrel
    have HOKS := Lib.hid (HOK.out k)
    by_cases hlt : k < 4
    · have hltB : decide ((k : Int) < 4) = true := decide_eq_true (by omega)
      have hk0 : (0 : Int) ≤ (k : Int) := by omega
      have hk4 : (k : Int) < 4 := by omega
      have hiw : isWriter (k : Int) = true := isWriter_nat hlt
      obtain ⟨T, hT⟩ : ∃ T, T = sendAll (sTo d k) k := ⟨_, rfl⟩
      have HT := Lib.hid (show sTo d (k + 1) = T from hT.symm)
      have HTE := Lib.hid hT
      clear hT
      go_wp2
      go_loopg [] (mu1 (sTo d k) k) (fun n wx => ∃ e : DkM, Hid (e.Ok) ∧ Hid (e.Sm 1000) ∧ Hid (sendAll e k = T) ∧ Hid (mu1 e k = n) ∧ Hid (DSt w base F g e wx))
      case atStart => exact ⟨sTo d k, Lib.hid HOKS.out.1, Lib.hid HOKS.out.2, Lib.hid HTE.out.symm, Lib.hid rfl, HS⟩
      case round =>
        obtain ⟨e, HO, HSm, HA, HM, HD⟩ := hrel
        clear HS
        obtain ⟨Fe, gwe, hde, hme, hge⟩ := HD.out
        have HDE := Lib.hid hde; have HME := Lib.hid hme; have HGE := Lib.hid hge
        obtain ⟨_, _, _, rr⟩ := hde.rows
        have hc := rr.cellW k hlt
        have HPN := Lib.hid (show e.ptr gwe (k : Int) = e.ptrN gwe k from by have := DkM.ptr_N (d := e) hiw gwe; simpa using this)
        clear rr hde hme hge
        cases hw : e.writer (k : Int) with
        | none =>
          rw [← HPN.out, DkM.ptr_none hw] at hc
          have HFIN := Lib.hid (show DSt w base F g (sTo d (k + 1)) _ from by rw [HT.out, ← HA.out, sAll_none hw]; exact HD.out)
          clear HPN HDE hw
          go_wp2
          exact ⟨⟨k + 1, by omega, by go_num, HFIN⟩, by simp [intOf]; omega⟩
        | some m =>
          rw [← HPN.out, DkM.ptr_some hw] at hc
          have HSTP := Lib.hid (sAll_step hw)
          have HDO := Lib.hid (show Calls Tryz.prog 8 #[.pointer (some ⟨g, 0, none⟩), .agg #[.int .i64 4, .int .i64 (k : Int), .int .i64 0, .int .i64 0, .string ⟨#[]⟩]] _ (DoPost _ base Fe g gwe e ⟨4, k, 0, 0, ⟨#[]⟩⟩) from
            DDo_c HDE.out HO.out HSm.out ⟨4, k, 0, 0, ⟨#[]⟩⟩ ⟨by show i64ok 0; unfold i64ok; omega, by show (0 : Nat) ≤ maxLen; exact Nat.zero_le _⟩)
          clear HPN
          have HW := Lib.hid hw
          clear hw
          go_wp2_with fail
          refine HDO.out.mono ?_
          rintro e3 w3 ⟨rfl, hp⟩
          rw [HSTP.out] at hp ⊢
          have HD3 := Lib.hid (show DSt w base F g (e.send m).1 w3 from by
            obtain ⟨F2, gw2, k1, k2, k3, _⟩ := hp
            exact ⟨F2, gw2, k1, HME.out.transG HGE.out k2, HGE.out.trans HME.out.size k3⟩)
          have HO3 := Lib.hid (show (e.send m).1.Ok from (HO.out.send HW.out).1)
          have HS3 := Lib.hid (show (e.send m).1.Sm 1000 from HSm.out.send (HSm.out.writer HW.out))
          clear hp HDO HSTP
          by_cases h0 : (e.send m).2 = 0
          · have HMU := Lib.hid (HO.out.send_mu HW.out h0)
            have HAS := Lib.hid (HO.out.sendAll_step HW.out h0)
            rw [h0]
            clear h0 HD HDE HME HGE
            go_wp2
            go_roundg (mu1 (e.send m).1 (k : Int))
            case measure => have := HMU.out; have := HM.out; omega
            case rel => exact ⟨_, HO3, HS3, Lib.hid (by rw [← HAS.out]; exact HA.out), Lib.hid rfl, HD3⟩
          · have HFIN := Lib.hid (show DSt w base F g (sTo d (k + 1)) w3 from by rw [HT.out, ← HA.out, sendAll_stop HW.out h0]; exact HD3.out)
            have h0B : ((e.send m).2 == 0) = false := by simpa using h0
            have h0D : decide ((e.send m).2 = 0) = false := decide_eq_false h0
            clear h0 HD HDE HME HGE HD3 HO3 HS3
            generalize (e.send m).2 = code at *
            go_wp2
            exact ⟨⟨k + 1, by omega, by go_num, HFIN⟩, by simp [intOf]; omega⟩
    · have hk4 : k = 4 := by omega
      have HSF := Lib.hid (show DSt w base F g (sTo d 4) _ from by have := HS.out; rw [hk4] at this; exact this)
      have hltB : decide ((k : Int) < 4) = false := decide_eq_false (by omega)
      clear hk4 HS HOKS
      have HST := HSF
      go_wp2
      go_loopw [22] (fun s wr => ∃ k : Nat, k ≤ 4 ∧ s = (.int .i64 k) ∧ Hid (DSt w base F g (hTo (sTo d 4) k) wr)) (fun s _ => 4 - (intOf s).toNat)
      case atStart => exact ⟨0, by omega, rfl, HST⟩
      case round =>
        obtain ⟨k, hk, rfl, HS⟩ := hrel
        have HOKS := Lib.hid (HOK2.out k)
        by_cases hlt : k < 4
        · have hltB : decide ((k : Int) < 4) = true := decide_eq_true (by omega)
          have hk0 : (0 : Int) ≤ (k : Int) := by omega
          have hk4 : (k : Int) < 4 := by omega
          have hiw : isWriter (k : Int) = true := isWriter_nat hlt
          obtain ⟨T, hT⟩ : ∃ T, T = hearAll (hTo (sTo d 4) k) k := ⟨_, rfl⟩
          have HT := Lib.hid (show hTo (sTo d 4) (k + 1) = T from hT.symm)
          have HTE := Lib.hid hT
          clear hT
          go_wp2
          go_loopg [] (mu2 (hTo (sTo d 4) k) k) (fun n wx => ∃ e : DkM, Hid (e.Ok) ∧ Hid (e.Sm 1000) ∧ Hid (hearAll e k = T) ∧ Hid (mu2 e k = n) ∧ Hid (DSt w base F g e wx))
          case atStart => exact ⟨hTo (sTo d 4) k, Lib.hid HOKS.out.1, Lib.hid HOKS.out.2, Lib.hid HTE.out.symm, Lib.hid rfl, HS⟩
          case round =>
            obtain ⟨e, HO, HSm, HA, HM, HD⟩ := hrel
            clear HS
            obtain ⟨Fe, gwe, hde, hme, hge⟩ := HD.out
            have HDE := Lib.hid hde; have HME := Lib.hid hme; have HGE := Lib.hid hge
            obtain ⟨_, _, _, rr⟩ := hde.rows
            have hc := rr.cellW k hlt
            have HPN := Lib.hid (show e.ptr gwe (k : Int) = e.ptrN gwe k from by have := DkM.ptr_N (d := e) hiw gwe; simpa using this)
            clear rr hde hme hge
            cases hw : e.writer (k : Int) with
            | none =>
              rw [← HPN.out, DkM.ptr_none hw] at hc
              have HFIN := Lib.hid (show DSt w base F g (hTo (sTo d 4) (k + 1)) _ from by rw [HT.out, ← HA.out, hAll_none hw]; exact HD.out)
              clear HPN HDE hw
              go_wp2
              exact ⟨⟨k + 1, by omega, by go_num, HFIN⟩, by simp [intOf]; omega⟩
            | some m =>
              rw [← HPN.out, DkM.ptr_some hw] at hc
              have HSTP := Lib.hid (hAll_step hw)
              have HDO := Lib.hid (show Calls Tryz.prog 8 #[.pointer (some ⟨g, 0, none⟩), .agg #[.int .i64 5, .int .i64 (k : Int), .int .i64 0, .int .i64 0, .string ⟨#[]⟩]] _ (DoPost _ base Fe g gwe e ⟨5, k, 0, 0, ⟨#[]⟩⟩) from
                DDo_c HDE.out HO.out HSm.out ⟨5, k, 0, 0, ⟨#[]⟩⟩ ⟨by show i64ok 0; unfold i64ok; omega, by show (0 : Nat) ≤ maxLen; exact Nat.zero_le _⟩)
              clear HPN
              have HW := Lib.hid hw
              clear hw
              go_wp2_with fail
              refine HDO.out.mono ?_
              rintro e3 w3 ⟨rfl, hp⟩
              rw [HSTP.out] at hp ⊢
              have HD3 := Lib.hid (show DSt w base F g (e.hear m).1 w3 from by
                obtain ⟨F2, gw2, k1, k2, k3, _⟩ := hp
                exact ⟨F2, gw2, k1, HME.out.transG HGE.out k2, HGE.out.trans HME.out.size k3⟩)
              have HO3 := Lib.hid (show (e.hear m).1.Ok from (HO.out.hear HW.out).1)
              have HS3 := Lib.hid (show (e.hear m).1.Sm 1000 from HSm.out.hear (HSm.out.writer HW.out))
              clear hp HDO HSTP
              by_cases h0 : (e.hear m).2 = 0
              · have HMU := Lib.hid (HO.out.hear_mu HW.out h0)
                have HAS := Lib.hid (HO.out.hearAll_step HW.out h0)
                rw [h0]
                clear h0 HD HDE HME HGE
                go_wp2
                go_roundg (mu2 (e.hear m).1 (k : Int))
                case measure => have := HMU.out; have := HM.out; omega
                case rel => exact ⟨_, HO3, HS3, Lib.hid (by rw [← HAS.out]; exact HA.out), Lib.hid rfl, HD3⟩
              · have HFIN := Lib.hid (show DSt w base F g (hTo (sTo d 4) (k + 1)) w3 from by rw [HT.out, ← HA.out, hearAll_stop HW.out h0]; exact HD3.out)
                have h0B : ((e.hear m).2 == 0) = false := by simpa using h0
                have h0D : decide ((e.hear m).2 = 0) = false := decide_eq_false h0
                clear h0 HD HDE HME HGE HD3 HO3 HS3
                generalize (e.hear m).2 = code at *
                go_wp2
                exact ⟨⟨k + 1, by omega, by go_num, HFIN⟩, by simp [intOf]; omega⟩
        · have hk4 : k = 4 := by omega
          have HSF := Lib.hid (show DSt w base F g (hTo (sTo d 4) 4) _ from by have := HS.out; rw [hk4] at this; exact this)
          have hltB : decide ((k : Int) < 4) = false := decide_eq_false (by omega)
          clear hk4 HS HOKS
          go_wp2
          refine bodyPost_end (results_none rfl _ _ _) rfl ?_
          exact ⟨⟨_, rfl⟩, by rw [settle_to]; exact HSF.out⟩
end
end Go.Proofs.YtneoeokfffnonacGreat

/- Steps of desks: their cells, slices of them, how they are opened; greatSteps. -/
namespace Go.Proofs.YtneoeokfffnonacGreat
open Go.ChangeShapes Go.WideShapes Go.ChangeAt Go.RowKit
set_option linter.unusedVariables false
set_option maxRecDepth 100000

def DStep.cells (x : DStep) : List Value := [.int .i64 x.Kind, .int .i64 x.W, .int .i64 x.At, .int .i64 x.Many, .string x.Text]
def DStep.ok (x : DStep) : Prop := i64ok x.Kind ∧ i64ok x.W ∧ i64ok x.At ∧ i64ok x.Many ∧ x.Text.size ≤ maxLen
/-- The five cells of a step lie at block b from o on. -/
def StC (w : World) (b o : Nat) (x : DStep) : Prop :=
  w.cell? ⟨b, o, none⟩ = some (.int .i64 x.Kind) ∧
  w.cell? ⟨b, o + 1, none⟩ = some (.int .i64 x.W) ∧
  w.cell? ⟨b, o + 2, none⟩ = some (.int .i64 x.At) ∧
  w.cell? ⟨b, o + 3, none⟩ = some (.int .i64 x.Many) ∧
  w.cell? ⟨b, o + 4, none⟩ = some (.string x.Text)
def SlSt (w : World) (a : Option Addr) (cap : Nat) (l : List DStep) : Prop :=
  l.length ≤ cap ∧ cap ≤ maxLen ∧ ∀ i (h : i < l.length), ∃ b off, a = some ⟨b, off, none⟩ ∧ StC w b (off + i * 5) l[i]
theorem StC.lt {w : World} {b o : Nat} {c : DStep} (h : StC w b o c) : b < w.heap.size := World.block_lt_of_cell? _ _ h.1
theorem StC.of_block {w w' : World} {b o : Nat} {c : DStep} (h : StC w b o c) (hb : w'.heap[b]? = w.heap[b]?) : StC w' b o c := by
  have k : ∀ o, w'.cell? ⟨b, o, none⟩ = w.cell? ⟨b, o, none⟩ := fun o => World.cell?_of_block (w := w) hb
  unfold StC at *
  simp only [k]; exact h
theorem StC.below {w w' : World} {b o : Nat} {c : DStep} (h : StC w b o c) {B : Nat} (hb : Below B w w') (hB : b < B) : StC w' b o c := h.of_block (hb.block b hB)
theorem SlSt.nth {w : World} {a : Option Addr} {cap : Nat} {l : List DStep} (h : SlSt w a cap l) {k : Nat} (hk : k < l.length) : ∃ b off, a = some ⟨b, off, none⟩ ∧ StC w b (off + k * 5) l[k] := h.2.2 k hk
theorem SlSt.below {w w' : World} {a : Option Addr} {cap : Nat} {l : List DStep} (h : SlSt w a cap l) (hb : Below w.heap.size w w') : SlSt w' a cap l := by
  refine ⟨h.1, h.2.1, fun i hi => ?_⟩
  obtain ⟨b, off, ha, hc⟩ := h.2.2 i hi
  exact ⟨b, off, ha, hc.below hb hc.lt⟩
theorem SlSt.nil (w : World) : SlSt w none 0 [] := ⟨by simp, by simp, fun i h => by simp at h⟩

theorem cells_Step : Tryz.prog.cellsOf 31 = 5 := by kernel_rfl
section
variable {H : Type} {enc : TypeId × Value → H} {w : World} {base : Nat} {spare : Nat → Bool} {held : Bool}
theorem list5 {α : Type} {l : List α} (h : l.length = 5) : ∃ a b c d e, l = [a, b, c, d, e] := by
  match l, h with
  | [a, b, c, d, e], _ => exact ⟨a, b, c, d, e, rfl⟩
theorem open_Step {fuel : Nat} {cs : List Value} {x : DataW H × List MemPlace} (h : DataW.trod enc Tryz.prog w base spare held fuel 31 cs = some x) : ∃ d : DStep, cs = d.cells ∧ d.ok := by
  obtain ⟨_, _, _, _, hl, _, _⟩ := DataW.trod_struct Tryz.underlying31 h
  rw [cells_Step] at hl
  obtain ⟨c0, c1, c2, c3, c4, rfl⟩ := list5 hl
  obtain ⟨n0, rfl, w0⟩ := field_int Tryz.underlying31 h 0 0 rfl c0 rfl
  obtain ⟨n1, rfl, w1⟩ := field_int Tryz.underlying31 h 1 1 rfl c1 rfl
  obtain ⟨n2, rfl, w2⟩ := field_int Tryz.underlying31 h 2 2 rfl c2 rfl
  obtain ⟨n3, rfl, w3⟩ := field_int Tryz.underlying31 h 3 3 rfl c3 rfl
  obtain ⟨_, _, h4⟩ := field_one Tryz.underlying31 h 4 4 _ rfl cells_string c4 rfl
  obtain ⟨s, e4, _, hs⟩ := DataW.trod_string Tryz.underlying9 h4
  cases e4
  exact ⟨⟨n0, n1, n2, n3, s⟩, rfl, w0, w1, w2, w3, hs⟩
theorem StC.mk' {w : World} {a : Addr} {c : DStep} (h : ∀ j, j < 5 → w.cell? (a.add j) = c.cells[j]?) : ∃ b o, a = ⟨b, o, none⟩ ∧ StC w b o c := by
  obtain ⟨b, o, s⟩ := a
  have h0 := h 0 (by omega)
  obtain rfl : s = none := World.cell?_spot (w := w) (a := ⟨b, o, s⟩) (v := .int .i64 c.Kind) (by rw [Addr.add_zero'] at h0; exact h0)
  refine ⟨b, o, rfl, ?_⟩
  have k : ∀ j v, c.cells[j]? = some v → j < 5 → w.cell? ⟨b, o + j, none⟩ = some v := fun j v hv hj => by
    have := h j hj; rw [Addr.add_lit] at this; exact this.trans hv
  exact ⟨k 0 _ rfl (by omega), k 1 _ rfl (by omega), k 2 _ rfl (by omega), k 3 _ rfl (by omega), k 4 _ rfl (by omega)⟩
theorem open_Steps {v : Value} {d : DataW H} {p : List MemPlace} (hv : Value.okWide Tryz.prog w .any 0 22 v) (h : DataW.Trod enc Tryz.prog w base spare held 22 v d p) :
    ∃ a cap l, v = .slice a l.length cap ∧ SlSt w a cap l ∧ ∀ c ∈ l, c.ok := by
  obtain ⟨a0, len, cap, rfl⟩ := okWide_slice Tryz.underlying22 hv
  obtain ⟨fuel, hf⟩ := h
  rcases Deep.open_slice Tryz.underlying22 hf with ⟨hcs, _⟩ | ⟨ad, len', cap', m, n, D, Pl, hcs, _, hle, hm, hmm, _, hi⟩
  · simp [Value.cells] at hcs
    obtain ⟨rfl, rfl, rfl⟩ := hcs
    exact ⟨none, 0, [], rfl, SlSt.nil w, fun c hc => by simp at hc⟩
  · simp [Value.cells] at hcs
    obtain ⟨rfl, rfl, rfl⟩ := hcs
    rw [cells_Step] at hi
    have hlm : len ≤ m := by rw [hmm]; split <;> omega
    obtain ⟨l, hl, hp⟩ := exists_list (p := fun i (c : DStep) => c.ok ∧ ∃ b o, ad.add (i * 5) = ⟨b, o, none⟩ ∧ StC w b o c) len fun i hin => by
      obtain ⟨cs', hc, ht⟩ := hi i (by omega)
      obtain ⟨c, rfl, hok⟩ := open_Step ht
      obtain ⟨_, _, hcell⟩ := World.cells?_some hc
      exact ⟨c, hok, StC.mk' hcell⟩
    subst hl
    refine ⟨some ad, cap, l, rfl, ⟨hle, hm, fun i hin => ?_⟩, fun c hc => ?_⟩
    · obtain ⟨_, b, o, hb, hc⟩ := hp i hin
      obtain ⟨_, b0, o0, hb0, _⟩ := hp 0 (by omega)
      rw [Nat.zero_mul, Addr.add_zero'] at hb0
      subst hb0
      rw [Addr.add_lit] at hb
      cases hb
      exact ⟨_, _, rfl, hc⟩
    · obtain ⟨i, hin, rfl⟩ := List.getElem_of_mem hc
      exact (hp i hin).1
end

/-- What greatSteps tells. -/
def GreatS (ds : List DStep) (w : World) (e : Ending) (w' : World) : Prop := ∃ r, e = .returned (.bool r) ∧ w' = w ∧ (r = false → ds.length ≤ 200 ∧ ∀ d ∈ ds, d.Text.size ≤ 100)
theorem greatSteps_c (a : Option Addr) (cap : Nat) (ds : List DStep) (w : World) (hs : SlSt w a cap ds) :
    Calls Tryz.prog 5 #[.slice a ds.length cap] w (GreatS ds w) := by
  have hm : ds.length ≤ maxLen := Nat.le_trans hs.1 hs.2.1
  unfold maxLen at hm
  go_enter Tryz.func5, Tryz.ntmps5
  go_wp2
  go_loop [3] (fun s3 => ∃ k : Nat, k ≤ ds.length ∧ k ≤ 300 ∧ s3 = .int .i64 k ∧ Hid (∀ i (h : i < ds.length), i < k → ds[i].Text.size ≤ 100)) (fun s3 => ds.length - (intOf s3).toNat)
  case atStart => exact ⟨0, Nat.zero_le _, by omega, rfl, Lib.hid (fun i h h2 => by omega)⟩
  case round =>
    obtain ⟨k, hk, hk2, rfl, HP⟩ := hrel
    by_cases hlt : k < ds.length
    · have hltB : decide ((k : Int) < ds.length) = true := by simp; omega
      by_cases h200 : k < 300
      · have h2B : decide ((k : Int) < 300) = true := by simp; omega
        obtain ⟨b, off, rfl, hc⟩ := hs.nth hlt
        obtain ⟨q0, q1, q2, q3, q4⟩ := hc
        clear q0 q1 q2 q3
        have HX := Lib.hid (fun (h : ds[k].Text.size ≤ 100) => show ∀ i (hi : i < ds.length), i < k + 1 → ds[i].Text.size ≤ 100 from fun i hi hik => by
          by_cases e : i < k
          · exact HP.out i hi e
          · obtain rfl : i = k := by omega
            exact h)
        generalize ds[k] = d at *
        have hlt' : (k : Int) < ds.length := by omega
        by_cases hz : 100 < d.Text.size
        · have hzB : decide (100 < (d.Text.size : Int)) = true := by simp; omega
          clear HX HP
          go_wp2
          go_ret
          exact ⟨true, rfl, rfl, fun h => by cases h⟩
        · have hzB : decide (100 < (d.Text.size : Int)) = false := by simp; omega
          have HX2 := Lib.hid (HX.out (by omega))
          clear HX HP
          go_wp2
          go_round
          case rel => exact ⟨k + 1, by omega, by omega, by go_num, HX2⟩
          case measure => simp [intOf]; omega
      · have h2B : decide ((k : Int) < 300) = false := by simp; omega
        have hbig : decide (200 < (ds.length : Int)) = true := by simp; omega
        clear HP
        go_wp2
        go_ret
        exact ⟨true, by simp, rfl, fun h => by cases h⟩
    · obtain rfl : k = ds.length := by omega
      have hltB : decide ((ds.length : Int) < ds.length) = false := by simp
      go_wp2
      go_ret
      refine ⟨_, rfl, rfl, fun h => ⟨by simp at h; omega, fun d hd => ?_⟩⟩
      obtain ⟨i, hi, rfl⟩ := List.getElem_of_mem hd
      exact HP.out i hi hi
end Go.Proofs.YtneoeokfffnonacGreat

/- What the laws of desks share: new desks, desks that were played, their beginning. -/
namespace Go.Proofs.YtneoeokfffnonacGreat
open Go.RowKit
section
variable {w : World} {base : Nat} {F : Nat → Prop} {g : Nat} {gw : Nat → Nat} {d : DkM}
theorem DNew_c (w : World) : Calls Tryz.prog 6 #[] w fun e w' => ∃ F g gw, e = .returned (.pointer (some ⟨g, 0, none⟩)) ∧ DkAt w' w.heap.size F g gw DkM.new ∧ Below w.heap.size w w' := by
  go_enter Tryz.func6, Tryz.ntmps6
  go_wp2_with fail
  refine (New_log w).mono ?_
  rintro e w1 ⟨FL, gl, rfl, hL, hb⟩
  have HD := Lib.hid (DkAt.newG (w := w1) (fun _ => 0) hL #[.pointer (some ⟨gl, 0, none⟩), .pointer none, .pointer none, .pointer none, .pointer none] 39 rfl (fun j hj => by
    obtain rfl | rfl | rfl | rfl : j = 0 ∨ j = 1 ∨ j = 2 ∨ j = 3 := by omega
    all_goals rfl))
  have HB := Lib.hid (hb.trans ((Below.refl w1.heap.size w1).alloc (Nat.le_refl _) (.cells #[.pointer (some ⟨gl, 0, none⟩), .pointer none, .pointer none, .pointer none, .pointer none] 39) |>.mono hb.size))
  clear hL hb
  go_wp2
  go_ret
  exact ⟨_, _, _, rfl, HD.out, HB.out⟩

/-- The desks d, somewhere from base on, and nothing below has changed since w. -/
def DW (w : World) (base g : Nat) (d : DkM) (w' : World) : Prop := (∃ F gw, DkAt w' base F g gw d) ∧ Below base w w'
theorem DW.later {d1 : DkM} {w1 w2 : World} (h : DW w base g d1 w1) (hl : Below w1.heap.size w1 w2) : DW w base g d1 w2 := by
  obtain ⟨⟨F, gw, h1⟩, h2⟩ := h
  exact ⟨⟨F, gw, h1.later hl⟩, h2.trans (hl.mono h1.base_le)⟩
theorem Do_DW {d1 : DkM} {w1 : World} (h : DW w base g d1 w1) (ho : d1.Ok) (hs : d1.Sm 1000) (x : DStep) (hx : x.ok') :
    Calls Tryz.prog 8 #[.pointer (some ⟨g, 0, none⟩), .agg #[.int .i64 x.Kind, .int .i64 x.W, .int .i64 x.At, .int .i64 x.Many, .string x.Text]] w1 fun e w' => e = .returned (.int .i64 (d1.step x).2) ∧ DW w base g (d1.step x).1 w' := by
  obtain ⟨⟨F, gw, h1⟩, h2⟩ := h
  refine (DDo_c h1 ho hs x hx).mono ?_
  rintro e w2 ⟨e1, F2, gw2, k1, k2, _, _⟩
  exact ⟨e1, ⟨F2, gw2, k1⟩, h2.trans (h1.below k2)⟩
theorem Settle_DW {d1 : DkM} {w1 : World} (h : DW w base g d1 w1) (ho : d1.Ok) (hs : d1.Sm 1000) :
    Calls Tryz.prog 11 #[.pointer (some ⟨g, 0, none⟩)] w1 fun e w' => (∃ v, e = .returned v) ∧ DW w base g (settle d1) w' := by
  obtain ⟨⟨F, gw, h1⟩, h2⟩ := h
  refine (Settle_c h1 ho hs).mono ?_
  rintro e w2 ⟨e1, F2, gw2, k1, k2, _⟩
  exact ⟨e1, ⟨F2, gw2, k1⟩, h2.trans (h1.below k2)⟩

end
end Go.Proofs.YtneoeokfffnonacGreat

/- The walk of desksBegun. -/
namespace Go.Proofs.YtneoeokfffnonacGreat
open Go.RowKit
theorem begun_states : ∃ d1 d2 d3 d4 : DkM, DkM.new.step (sJ 0) = (d1, 0) ∧ d1.step (sJ 1) = (d2, 0) ∧ d2.step sA = (d3, 0) ∧ d3.step sB = (d4, 0) ∧ (settle d4).lm.L.length = 2 ∧ (∃ m, (settle d4).writer 1 = some m) ∧ (settle d4).lm.view.length = 3 :=
  ⟨e1, e2, e3, e4, Prod.ext rfl e1_c, Prod.ext rfl e2_c, Prod.ext rfl e3_c, Prod.ext rfl e4_c, e4_len, e4_w, e4_view⟩
theorem strOfNums_size (xs : List Int) : (strOfNums xs).size = xs.length := by
  have := congrArg List.length (strOfNums_list xs)
  rw [List.length_map] at this
  rw [← this]; rfl
theorem DW.wr {w w1 : World} {base g : Nat} {d : DkM} (h : DW w base g d w1) (ho : d.Ok) {x : Int} {m : WM} (hw : d.writer x = some m) :
    ∃ gx, (∃ F gw, DkAt w1 base F g gw d ∧ d.ptr gw x = (.pointer (some ⟨gx, 0, none⟩))) ∧ ∃ FW, WrAt w1 base FW gx m.v := by
  obtain ⟨⟨F, gw, h1⟩, _⟩ := h
  obtain ⟨hx, hme, hW, t, hin⟩ := ho.of_writer hw
  obtain ⟨FW, _, _, hwr, _⟩ := h1.wrZ (toNat_lt hx).1 hW
  exact ⟨gw x.toNat, ⟨F, gw, h1, DkM.ptr_some hw gw⟩, FW, hwr⟩
theorem DW.log {w w1 : World} {base g : Nat} {d : DkM} (h : DW w base g d w1) : ∃ gl FL, w1.cell? ⟨g, 0, none⟩ = some (.pointer (some ⟨gl, 0, none⟩)) ∧ LogAt w1 base FL gl d.lm ∧ g < w1.heap.size := by
  obtain ⟨⟨F, gw, h1⟩, _⟩ := h
  obtain ⟨gl, FL, _, c0, hl, _⟩ := h1.logZ
  exact ⟨gl, FL, c0, hl, h1.lt⟩

set_option maxRecDepth 100000 in
set_option maxHeartbeats 1000000 in
theorem desksBegun_c (w : World) : Calls Tryz.prog 4 #[] w fun e w' => e = .returned (.bool true) ∧ Below w.heap.size w w' := by
  obtain ⟨d1, d2, d3, d4, s1, s2, s3, s4, hlen, ⟨m, hm⟩, hview⟩ := begun_states
  have S1 := Lib.hid s1; have S2 := Lib.hid s2; have S3 := Lib.hid s3; have S4 := Lib.hid s4
  have o1 : d1.Ok := by have := DkM.new_ok.step (sJ 0); rw [s1] at this; exact this
  have o2 : d2.Ok := by have := o1.step (sJ 1); rw [s2] at this; exact this
  have o3 : d3.Ok := by have := o2.step sA; rw [s3] at this; exact this
  have o4 : d4.Ok := by have := o3.step sB; rw [s4] at this; exact this
  have n1 : d1.Sm 1 := by have := DkM.new_sm.step (sJ 0); rw [s1] at this; exact this
  have n2 : d2.Sm 2 := by have := n1.step (sJ 1); rw [s2] at this; exact this
  have n3 : d3.Sm 3 := by have := n2.step sA; rw [s3] at this; exact this
  have n4 : d4.Sm 4 := by have := n3.step sB; rw [s4] at this; exact this
  have N0 := Lib.hid (DkM.new_sm.mono (show 0 ≤ 1000 by omega)); have N1 := Lib.hid (n1.mono (show 1 ≤ 1000 by omega)); have N2 := Lib.hid (n2.mono (show 2 ≤ 1000 by omega)); have N3 := Lib.hid (n3.mono (show 3 ≤ 1000 by omega)); have N4 := Lib.hid (n4.mono (show 4 ≤ 1000 by omega))
  have N5 := Lib.hid (N4.out.settle)
  have O0 := Lib.hid DkM.new_ok; have O1 := Lib.hid o1; have O2 := Lib.hid o2; have O3 := Lib.hid o3; have O4 := Lib.hid o4
  have HSE := Lib.hid (settle_settled o4)
  obtain ⟨d5, hd5⟩ : ∃ d5, d5 = settle d4 := ⟨_, rfl⟩
  rw [← hd5] at hlen hm hview HSE N5
  have HD5 := Lib.hid hd5
  have HLEN := Lib.hid hlen
  have HW := Lib.hid hm
  have HVI := Lib.hid hview
  have HX0 := Lib.hid (show (sJ 0).ok' from ⟨by show i64ok 0; unfold i64ok; omega, by show (0 : Nat) ≤ maxLen; exact Nat.zero_le _⟩)
  have HX1 := Lib.hid (show (sJ 1).ok' from ⟨by show i64ok 0; unfold i64ok; omega, by show (0 : Nat) ≤ maxLen; exact Nat.zero_le _⟩)
  have HXA := Lib.hid (show sA.ok' from ⟨by show i64ok 0; unfold i64ok; omega, by show (2 : Nat) ≤ maxLen; unfold maxLen; omega⟩)
  have HXB := Lib.hid (show sB.ok' from ⟨by show i64ok 0; unfold i64ok; omega, by show (1 : Nat) ≤ maxLen; unfold maxLen; omega⟩)
  have HXS := Lib.hid (show (⟨4, 1, 0, 0, ⟨#[]⟩⟩ : DStep).ok' from ⟨by show i64ok 0; unfold i64ok; omega, by show (0 : Nat) ≤ maxLen; exact Nat.zero_le _⟩)
  clear s1 s2 s3 s4 o1 o2 o3 o4 n1 n2 n3 n4 hlen hm hview hd5
  go_enter Tryz.func4, Tryz.ntmps4
  go_wp2_with fail
  refine (DNew_c w).mono ?_
  rintro e w1 ⟨F, g, gw, rfl, hd, hb⟩
  have HD0 := Lib.hid (show DW w w.heap.size g DkM.new w1 from ⟨⟨F, gw, hd⟩, hb⟩)
  clear hd hb
  go_wp2
  go_loopw [2] (fun s2 wr => ∃ k : Nat, k ≤ 2 ∧ s2 = (.int .i64 k) ∧ Hid (DW w w.heap.size g (if k = 0 then DkM.new else if k = 1 then d1 else d2) wr)) (fun s2 _ => 2 - (intOf s2).toNat)
  case atStart => exact ⟨0, by omega, rfl, HD0⟩
  case round =>
    obtain ⟨k, hk, rfl, HR⟩ := hrel
    clear HD0
    rcases (show k = 0 ∨ k = 1 ∨ k = 2 by omega) with rfl | rfl | rfl
    · have HR0 := Lib.hid (show DW w w.heap.size g DkM.new wr from HR.out)
      clear HR
      go_wp2_with fail
      refine (Do_DW HR0.out O0.out N0.out (sJ 0) HX0.out).mono ?_
      rintro e w3 ⟨rfl, h3⟩
      rw [S1.out] at h3 ⊢
      have H3 := Lib.hid h3
      clear h3 HR0
      go_wp2
      exact ⟨⟨1, by omega, by go_num, Lib.hid H3.out⟩, by simp [intOf]⟩
    · have HR0 := Lib.hid (show DW w w.heap.size g d1 wr from HR.out)
      clear HR
      go_wp2_with fail
      refine (Do_DW HR0.out O1.out N1.out (sJ 1) HX1.out).mono ?_
      rintro e w3 ⟨rfl, h3⟩
      rw [S2.out] at h3 ⊢
      have H3 := Lib.hid h3
      clear h3 HR0
      go_wp2
      exact ⟨⟨2, by omega, by go_num, Lib.hid H3.out⟩, by simp [intOf]⟩
    · have HR0 := Lib.hid (show DW w w.heap.size g d2 wr from HR.out)
      clear HR
      go_wp2_with fail
      refine (Do_DW HR0.out O2.out N2.out sA HXA.out).mono ?_
      rintro e w3 ⟨rfl, h3⟩
      rw [S3.out] at h3 ⊢
      have H3 := Lib.hid h3
      clear h3 HR0
      go_wp2_with fail
      refine (Do_DW H3.out O3.out N3.out sB HXB.out).mono ?_
      rintro e w4 ⟨rfl, h4⟩
      rw [S4.out] at h4 ⊢
      have H4 := Lib.hid h4
      clear h4 H3
      go_wp2_with fail
      refine (Settle_DW H4.out O4.out N4.out).mono ?_
      rintro e w5 ⟨⟨v, rfl⟩, h5⟩
      rw [← HD5.out] at h5
      have H5 := Lib.hid h5
      clear h5 H4
      obtain ⟨gx, ⟨F5, gw5, hd5, hptr⟩, FW, hwr⟩ := H5.out.wr HSE.out.ok HW.out
      obtain ⟨gl, FL, c0, hlog, hglt⟩ := H5.out.log
      have HD5' := Lib.hid hd5; have HPT := Lib.hid hptr; have HWR := Lib.hid hwr; have HLG := Lib.hid hlog
      clear hd5 hptr hwr hlog
      go_wp2_with fail
      refine (DWriter_c HD5'.out 1).mono ?_
      rintro e w6 ⟨rfl, rfl⟩
      rw [HPT.out]
      obtain ⟨_, hme, _, t, hin⟩ := HSE.out.ok.of_writer HW.out
      have HVW := Lib.hid (HSE.out.view 1 m HW.out)
      have HSS := Lib.hid (HSE.out.s 1 m HW.out)
      have HCL := Lib.hid (hin.chars_len HSE.out.ok.lm)
      obtain ⟨S, hS⟩ : ∃ S, S = strOfNums d5.lm.view := ⟨_, rfl⟩
      have HSZ := Lib.hid (show S.size = 3 from by rw [hS, strOfNums_size]; exact HVI.out)
      have HTX := Lib.hid (fun W (hl : Below w6.heap.size w6 W) => show Calls Tryz.prog 15 #[.pointer (some ⟨gx, 0, none⟩)] W fun e w' => e = .returned (.string S) ∧ Below W.heap.size W w' from by
        rw [hS, ← HVW.out]; exact WText_c (HWR.out.later hl) (by have := HCL.out; show m.chars.length ≤ 1000; omega))
      have HLT := Lib.hid (show Calls Tryz.prog 14 #[.pointer (some ⟨gl, 0, none⟩)] w6 fun e w' => e = .returned (.string S) ∧ Below w6.heap.size w6 w' from by
        rw [hS]; exact LText_c HLG.out HSE.out.ok.lm)
      clear hS hin hme
      go_wp2_with fail
      refine HLT.out.mono ?_
      rintro e w7 ⟨rfl, hb7⟩
      have HB7 := Lib.hid hb7
      clear hb7
      go_wp2_with fail
      refine (HTX.out _ HB7.out).mono ?_
      rintro e w8 ⟨rfl, hb8⟩
      have HB8 := Lib.hid (show Below w6.heap.size w6 w8 from HB7.out.trans (hb8.mono HB7.out.size))
      clear hb8
      have c8 := (HB8.out.cell (p := ⟨g, 0, none⟩) hglt).trans c0
      have HL8 := Lib.hid (HLG.out.later HB8.out)
      go_wp2_with fail
      refine (Len_c HL8.out).mono ?_
      rintro e w9 ⟨rfl, rfl⟩
      rw [HLEN.out]
      go_wp2_with fail
      refine (HTX.out _ HB8.out).mono ?_
      rintro e w10 ⟨rfl, hb10⟩
      have HB10 := Lib.hid (HB8.out.trans (hb10.mono HB8.out.size))
      clear hb10
      have hsz := HSZ.out
      have HR10 := Lib.hid (H5.out.later HB10.out)
      have HCD := Lib.hid (show (d5.step ⟨4, 1, 0, 0, ⟨#[]⟩⟩).2 = 5 from by
        have := sAll_step (k := 1) HW.out
        rw [show (⟨4, ((1 : Nat) : Int), 0, 0, ⟨#[]⟩⟩ : DStep) = ⟨4, 1, 0, 0, ⟨#[]⟩⟩ from rfl] at this
        rw [this]; unfold DkM.send; rw [HSS.out.1])
      go_wp2_with fail
      refine (Do_DW HR10.out HSE.out.ok N5.out ⟨4, 1, 0, 0, ⟨#[]⟩⟩ HXS.out).mono ?_
      rintro e w11 ⟨rfl, h11⟩
      rw [HCD.out]
      have HB11 := Lib.hid h11.2
      clear h11
      go_wp2
      go_ret
      exact ⟨rfl, HB11.out⟩
end Go.Proofs.YtneoeokfffnonacGreat

/- More that the laws of desks share: one writer's pointer through steps; what a deed more does to the text; a number taken modulo. -/
namespace Go.Proofs.YtneoeokfffnonacGreat
open Go.RowKit
section
variable {w : World} {base g : Nat}
end
end Go.Proofs.YtneoeokfffnonacGreat

/- The texts of desks, asked of the log and of a writer. -/
namespace Go.Proofs.YtneoeokfffnonacGreat
open Go.RowKit

end Go.Proofs.YtneoeokfffnonacGreat
