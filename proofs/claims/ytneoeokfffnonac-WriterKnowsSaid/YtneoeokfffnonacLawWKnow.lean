/- Printed by genknows.py: the walk of the law WriterKnows. -/
import Derived.Test.YtneoeokfffnonacRoomA
import Derived.Test.YtneoeokfffnonacCmpW
import Derived.Test.YtneoeokfffnonacWrKn
set_option linter.unusedVariables false
set_option linter.unusedSimpArgs false
namespace Go.Proofs.Ytneoeokfffnonac
open Go.RowKit
theorem SameChars_k (a b : Option Addr) (capa capb : Nat) (l m : List Ch) (n n' : Nat) (hn : l.length = n) (hn' : m.length = n') (he : l = m) (w : World) (hs : SlCh w a capa l) (hs' : SlCh w b capb m) :
    Calls Try.prog 25 #[.slice a n capa, .slice b n' capb] w fun e w' => e = .returned (.bool true) ∧ Below w.heap.size w w' := by
  subst hn; subst hn'; subst he
  refine (SameChars_c a b capa capb l l w hs hs').mono ?_
  rintro e w' ⟨rfl, hb⟩
  exact ⟨by simp, hb⟩
/-- A room in which somebody may clear, or nobody. -/
def RWb (w : World) (base g : Nat) (bare : Bool) (d : DkM) (w' : World) : Prop := (∃ F gw gs, RmAt w' base F g gw gs d d.scs bare) ∧ Below base w w'
section
variable {w : World} {base g : Nat} {d : DkM} {bare : Bool}
theorem RWb.later {w1 w2 : World} (h : RWb w base g bare d w1) (hl : Below w1.heap.size w1 w2) : RWb w base g bare d w2 := by
  obtain ⟨⟨F, gw, gs, h1⟩, h2⟩ := h
  exact ⟨⟨F, gw, gs, h1.later hl⟩, h2.trans (hl.mono h1.base_le)⟩
theorem RStep_RWb {w1 : World} (h : RWb w base g bare d w1) (ho : d.Ok) (hs : d.Sm 1000) (x : RStep) (hx : x.ok) :
    Calls Try.prog 17 #[.pointer (some ⟨g, 0, none⟩), .agg #[.int .i64 x.Do, .int .i64 x.W, .int .i64 x.At, .int .i64 x.Many, .string x.Text]] w1 fun e w' => e = .returned (.tuple #[.bool true, .bool (d.over x)]) ∧ Below base w w' ∧ (d.over x = false → RWb w base g bare (d.room bare x) w') := by
  obtain ⟨⟨F, gw, gs, h1⟩, h2⟩ := h
  refine (RStep_c h1 ho hs x hx).mono ?_
  rintro e w2 ⟨e1, e2, e3⟩
  refine ⟨e1, h2.trans e3, fun h => ?_⟩
  obtain ⟨F', gw', gs', k1, k2, _⟩ := e2 h
  exact ⟨⟨F', gw', gs', k1⟩, h2.trans e3⟩
theorem RmAt.setBare {F : Nat → Prop} {gw gs : Nat → Nat} {e : Nat → Option ScV} {b0 : Bool} (h : RmAt w base F g gw gs d e b0) (b : Bool) : RmAt (w.setCell ⟨g, 9, none⟩ (.bool b)) base F g gw gs d e b := by
  obtain ⟨FD, FSk, r⟩ := h.rows
  exact ⟨by simpa using h.lt, h.fg, fun k hk => ⟨(h.foot k hk).1, by simpa using (h.foot k hk).2⟩, fun o ho => by rw [World.frozen?_setCell]; exact h.fz o ho, World.cell?_setCell_same _ _ _ h.c9,
    FD, FSk, ⟨r.dk.setOther 9 (by omega) _, r.sc.setCell 9 _ (.inr (by omega)), r.fd, r.fs⟩⟩
end
theorem open_ok {lm : LogM} {m : WM} {t : Int} (hin : WIn lm m t) : ∀ d ∈ m.ds, d.Text.size ≤ maxLen ∧ i64ok d.Many := by
  intro d hd
  obtain ⟨i, hi, rfl⟩ := List.getElem_of_mem hd
  exact fault_okR (mayDo_zero (chain_at hin.chain i hi).1).1
/-- What a writer and the log tell, wherever they are asked. -/
structure TellK (w : World) (gx gl : Nat) (n : Nat) (le : Int) (S : ByteArray) (L ds : List Dd) (P bs : List Ch) (q : Int) (bare : Bool) : Prop where
  seen : ∀ W, Later w W → Calls Try.prog 20 #[.pointer (some ⟨gx, 0, none⟩)] W fun e w' => e = .returned (.int .i64 (n : Int)) ∧ w' = W
  deed : ∀ i (hi : i < L.length), ∀ W, Later w W → Calls Try.prog 32 #[.pointer (some ⟨gl, 0, none⟩), .int .i64 ((i : Int) + 1)] W fun e w' => e = .returned (.tuple #[.agg #[.int .i64 L[i].Kind, .int .i64 L[i].By, .int .i64 L[i].No, .int .i64 L[i].Seen, .int .i64 L[i].At, .int .i64 L[i].Many, .string L[i].Text], .bool true]) ∧ Below W.heap.size W w'
  least : ∀ W, Later w W → Calls Try.prog 36 #[.pointer (some ⟨gl, 0, none⟩)] W fun e w' => e = .returned (.int .i64 le) ∧ Below W.heap.size W w'
  opn : ∀ W, Later w W → Calls Try.prog 21 #[.pointer (some ⟨gx, 0, none⟩)] W fun e w' => ∃ a' cap', e = .returned (.slice a' ds.length cap') ∧ SlDd w' a' cap' ds ∧ Below W.heap.size W w'
  text : ∀ W, Later w W → Calls Try.prog 19 #[.pointer (some ⟨gx, 0, none⟩)] W fun e w' => e = .returned (.string S) ∧ Below W.heap.size W w'
  known : ∀ W, Later w W → Calls Try.prog 31 #[.pointer (some ⟨gx, 0, none⟩)] W fun e w' => ∃ a' cap', e = .returned (.slice a' bs.length cap') ∧ SlCh w' a' cap' bs ∧ (a' = none → cap' = 0) ∧ Below W.heap.size W w'
  ln : L.length = n
  nb : n ≤ 120
  all : allF L = (P, 0, (allF L).2.2)
  lok : ∀ d ∈ L, d.Text.size ≤ maxLen ∧ i64ok d.Many
  dok : ∀ d ∈ ds, d.Text.size ≤ maxLen ∧ i64ok d.Many
  dn : ds.length ≤ 1000
  pl : P.length ≤ 200
  bl : bs.length ≤ 200
  pg : ∀ c ∈ P, i64ok c.Gone
  tx : textF P = textF bs
  eqb : bare = true → P = bs
  clr : clearOf le P = clearOf le bs
  may : ∀ i (hi : i < ds.length), mayDo (apOs P (ds.take i)) ds[i] = 0 ∨ mayDo (apOs P (ds.take i)) ds[i] = 9
  vw : strOfNums (viewN (n : Int) q (apOs P ds)) = S
theorem tellk {w : World} {base : Nat} {F : Nat → Prop} {g : Nat} {gw gs : Nat → Nat} {d : DkM} {bare : Bool} (h : RmAt w base F g gw gs d d.scs bare) (ho : d.Ok) (hs : d.Sm 1000) (hb : bare = true → RBare d) {j : Nat} (hj : j < 4) {m : WM} (hw : d.W j = some m) :
    ∃ gl n le S L ds P bs, w.cell? ⟨g, 0, none⟩ = some (.pointer (some ⟨gl, 0, none⟩)) ∧ TellK w (gw j) gl n le S L ds P bs (j : Int) bare := by
  have hwn : d.writer (j : Int) = some m := by unfold DkM.writer; rw [if_pos (isWriter_nat hj)]; simpa using hw
  obtain ⟨hx, hme, hW, tt, hin⟩ := ho.of_writer hwn
  obtain ⟨FW, hFW, _, hwr, _⟩ := h.wrZ hj hw
  obtain ⟨gl, FL, _, c0, hlog, _⟩ := h.logZ
  have hos : m.opn.length ≤ 1000 := hs.writer hwn
  have hcl := hin.chars_len ho.lm
  have hbl := hin.base_len ho.lm
  have hsl := hin.seen
  have hlen := ho.lm.len
  have hdl : m.ds.length = m.opn.length := by unfold WM.ds; rw [List.length_map]
  have hkn : knownOf (clrOf m.me) m.opn m.chars = m.base := hin.known ho.lm _ (clr_undo (by rw [hme]; exact hx))
  obtain ⟨k1, k2, k3, k4⟩ := room_knows ho hwn
  have hmd := ho.lm.lok.made m.seen hsl
  refine ⟨gl, m.seen, d.lm.least, strOfNums (viewN m.seen m.me m.chars), d.lm.L.take m.seen, m.ds, pre d.lm.L m.seen, m.base, c0,
    fun W hl => WSeen_c (hwr.later hl), fun i hi W hl => ?_, fun W hl => Least_c (hlog.later hl), fun W hl => ?_, fun W hl => WText_c (hwr.later hl) (by show m.chars.length ≤ 1000; omega), fun W hl => ?_,
    by rw [List.length_take]; omega, by omega, ?_, fun x hx => ?_, open_ok hin, by omega, hmd.max, hbl, fun c hc => ?_, k1, fun e => (hb e (j : Int) m hwn).symm, k2, k3, by rw [k4]; rfl⟩
  · have hi' : i < d.lm.L.length := by rw [List.length_take] at hi; omega
    refine (Deed_gR (hlog.later hl) ((i : Int) + 1)).mono ?_
    rintro e w' ⟨dd, b, rfl, hbb, h2⟩
    rcases h2 with ⟨_, _, h2⟩ | ⟨rfl, k, hk, e2, rfl⟩
    · exfalso; omega
    · obtain rfl : k = i := by omega
      have e3 : (d.lm.L.take m.seen)[k]'hi = d.lm.L[k] := by simp
      rw [e3]; exact ⟨rfl, hbb⟩
  · refine (WOpen_c (hwr.later hl) (by show m.opn.length ≤ 1000000; omega)).mono ?_
    rintro e w' ⟨a', cap', rfl, ho', hb'⟩
    exact ⟨a', cap', by rw [hdl]; rfl, OwnRow.slDd (by rw [hdl]; exact ho'), hb'⟩
  · refine (WKnown_c (hwr.later hl) (by show m.chars.length ≤ 1000; omega) (by show m.opn.length ≤ 1000000; omega) (by show isWriter m.me = true; rw [hme]; exact hx)).mono ?_
    rintro e w' ⟨a', cap', rfl, ho', hb'⟩
    have e2 : knownOf (clrOf m.v.me) m.v.os m.v.L = m.base := hkn
    rw [e2] at ho' ⊢
    exact ⟨a', cap', rfl, ho'.slCh, ho'.nilcap, hb'⟩
  · have := take_all d.lm.L ho.lm.all m.seen
    unfold pre
    rw [← this]
  · obtain ⟨i, hi, rfl⟩ := List.getElem_of_mem (List.mem_of_mem_take hx)
    exact fault_okR (ho.lm.deeds i hi).f
  · have := bad1_false (hmd.good c hc).b1
    unfold i64ok; omega
set_option maxRecDepth 100000 in
set_option maxHeartbeats 8000000 in
theorem WriterKnows_c (a : Option Addr) (cap : Nat) (l : List RStep) (bare : Bool) (w : World) (hs : SlRs w a cap l) (hok : ∀ x ∈ l, x.ok) :
    Calls Try.prog 5 #[.slice a l.length cap, .bool bare] w fun e w' => e = .returned (.bool true) ∧ Below w.heap.size w w' := by
  have HOK := Lib.hid hok
  clear hok
  go_enter Try.func5, Try.ntmps5
  go_wp2_with fail
  refine (writerBegun_c w).mono ?_
  rintro e w1 ⟨rfl, hb1⟩
  have HS1 := Lib.hid (hs.below hb1)
  have HB1 := Lib.hid hb1
  clear hs hb1
  go_wp2_with fail
  refine (greatRoom_c a cap l w1 HS1.out).mono ?_
  rintro e w2 ⟨r, rfl, rfl, hr⟩
  cases r
  case true =>
    go_wp2
    go_ret
    exact ⟨rfl, HB1.out⟩
  obtain ⟨hl160, _⟩ := hr rfl
  clear hr
  go_wp2_with fail
  refine (newRoom_c w2).mono ?_
  rintro e w3 ⟨F0, g, gw0, gs0, rfl, hR, hb3⟩
  have HI0 := Lib.hid (show DkM.new.Ok ∧ DkM.new.Sm 0 ∧ RWb w2 w2.heap.size g bare DkM.new (w3.setCell ⟨g, 9, none⟩ (.bool bare)) ∧ (bare = true → RBare DkM.new) from
    ⟨DkM.new_ok, DkM.new_sm, ⟨⟨_, _, _, hR.setBare bare⟩, hb3.setCell (p := ⟨g, 9, none⟩) (hR.foot g hR.fg).1 _⟩, fun _ => RBare.new⟩)
  have c9 := hR.c9
  have f9 := hR.fz 9 (by omega)
  clear hR hb3
  go_upto_region 7 with fail
  generalize w3.setCell ⟨g, 9, none⟩ (.bool bare) = w4 at *
  clear c9 f9
  go_wp2
  go_loopw [6] (fun s6 wr => ∃ (k : Nat) (d : DkM), k ≤ l.length ∧ s6 = (.int .i64 k) ∧ Hid (d.Ok ∧ d.Sm k ∧ RWb w2 w2.heap.size g bare d wr ∧ (bare = true → RBare d))) (fun s6 _ => l.length - (intOf s6).toNat)
  case atStart => exact ⟨0, DkM.new, Nat.zero_le _, rfl, HI0⟩
  case round =>
    obtain ⟨k, d, hk, rfl, HI⟩ := hrel
    clear HI0
    by_cases hlt : k < l.length
    · have HSr := Lib.hid (HS1.out.below HI.out.2.2.1.2)
      obtain ⟨bb, off, rfl, hq⟩ := HSr.out.nth hlt
      have HX := Lib.hid (HOK.out l[k] (List.getElem_mem hlt))
      have hlt' : (k : Int) < l.length := by omega
      have hk0 : (0 : Int) ≤ (k : Int) := by omega
      generalize l[k] = x at *
      obtain ⟨q0, q1, q2, q3, q4⟩ := hq
      have HO := Lib.hid HI.out.1
      have HSM := Lib.hid (show d.Sm 1000 from HI.out.2.1.mono (by omega))
      have HSK := Lib.hid HI.out.2.1
      have HRW := Lib.hid HI.out.2.2.1
      have HBA := Lib.hid HI.out.2.2.2
      clear HI HSr
      go_wp2_with fail
      refine (RStep_RWb HRW.out HO.out HSM.out x HX.out).mono ?_
      rintro e w6 ⟨rfl, hb6, hrw⟩
      clear q0 q1 q2 q3 q4
      cases hov : d.over x with
      | true =>
        have HB6 := Lib.hid (HB1.out.trans (hb6.mono HB1.out.size))
        clear hb6 hrw
        go_wp2
        go_ret
        exact ⟨rfl, HB6.out⟩
      | false =>
        have HI6 := Lib.hid (show (d.room bare x).Ok ∧ (d.room bare x).Sm (k + 1) ∧ (bare = true → RBare (d.room bare x)) from ⟨HO.out.room bare x, HSK.out.room bare x, fun e => by
          have := room_bare HO.out (HBA.out e) x hov
          rw [e]; exact this⟩)
        have HR6 := Lib.hid (hrw hov)
        clear hb6 hrw hov HRW HO HSM HSK HBA
        generalize d.room bare x = d' at *
        have HSM := Lib.hid (show d'.Sm 1000 from HI6.out.2.1.mono (by omega))
        go_wp2
        go_loopw [9] (fun s9 wx => ∃ q : Nat, q ≤ 4 ∧ s9 = (.int .i64 q) ∧ Hid (RWb w2 w2.heap.size g bare d' wx)) (fun s9 _ => 4 - (intOf s9).toNat)
        case atStart => exact ⟨0, Nat.zero_le _, rfl, HR6⟩
        case round =>
          obtain ⟨q, hq, rfl, HR⟩ := hrel
          clear HR6
          by_cases hq4 : q < 4
          · have hq0 : (0 : Int) ≤ (q : Int) := by omega
            have hq4' : (q : Int) < 4 := by omega
            have hq4B : decide ((q : Int) < 4) = true := decide_eq_true hq4'
            obtain ⟨⟨F, gw, gs, hrm⟩, _⟩ := HR.out
            obtain ⟨c1, _⟩ := hrm.cells q hq4
            have HRM := Lib.hid hrm
            clear hrm
            cases hW : d'.W q with
            | none =>
              unfold DkM.ptrN at c1
              rw [hW] at c1
              clear hW HRM
              go_wp2
              exact ⟨⟨q + 1, by omega, by go_num, HR⟩, by simp [intOf]; omega⟩
            | some m =>
              unfold DkM.ptrN at c1
              rw [hW] at c1
              obtain ⟨gl, n, le, S, L, ds, P, bs, hc0, ht⟩ := tellk HRM.out HI6.out.1 HSM.out HI6.out.2.2 hq4 hW
              have HT := Lib.hid ht
              have hglt := HRM.out.lt
              clear ht hW HRM
              generalize gw q = gx at *
              obtain ⟨B, hB⟩ : ∃ B, B = wr.heap.size := ⟨_, rfl⟩
              have HBE := Lib.hid hB
              have HLz := Lib.hid (show Below B wr wr from Below.refl _ _)
              clear hB
              have hn120 := HT.out.nb
              go_wp2
              go_loopw [11, 12] (fun s11 s12 wx => ∃ (i : Nat) (a' : Option Addr) (cap' : Nat), i ≤ n ∧ s12 = (.int .i64 ((i : Int) + 1)) ∧ s11 = .slice a' i cap' ∧ Hid (OwnRow wx B 24 7 a' i cap' (flatD (L.take i))) ∧ Hid (Below B wr wx)) (fun _ s12 _ => n + 1 - (intOf s12).toNat)
              case atStart => exact ⟨0, none, 0, Nat.zero_le _, rfl, rfl, Lib.hid (OwnRow.nil _ _ _ _ _), HLz⟩
              case round =>
                obtain ⟨i, a', cap', hi, rfl, rfl, HO, HL⟩ := hrel
                rename World => wx
                clear HLz
                have hlat : Later wr wx := by have := HL.out; rw [HBE.out] at this; exact this
                have HLA := Lib.hid hlat
                clear hlat
                by_cases hin : i < n
                · have hiL : i < L.length := by rw [HT.out.ln]; exact hin
                  have hinB : decide ((i : Int) + 1 ≤ (n : Int)) = true := decide_eq_true (by omega)
                  have hwi : IntKind.i64.wrap ((i : Int) + 1 + 1) = (i : Int) + 1 + 1 := by rw [IntKind.wrap_i64]; omega
                  have HFL := Lib.hid (show flatD (L.take (i + 1)) = flatD (L.take i) ++ Dd.cells L[i] from by
                    rw [List.take_succ_eq_append_getElem hiL, flatD_append]; simp [flatD])
                  have HDE := Lib.hid (HT.out.deed i hiL)
                  have c0 := (HLA.out.cell (p := ⟨g, 0, none⟩) hglt).trans hc0
                  generalize L[i] = dd at *
                  go_wp2_with fail
                  refine (HT.out.seen wx HLA.out).mono ?_
                  rintro e w8 ⟨rfl, rfl⟩
                  go_wp2_with fail
                  refine (HDE.out w8 HLA.out).mono ?_
                  rintro e w9 ⟨rfl, hb9⟩
                  have HO9 := Lib.hid (HO.out.below hb9)
                  have HL9 := Lib.hid (HL.out.trans (hb9.mono (by rw [HBE.out]; exact HLA.out.size)))
                  have hs9 : B ≤ w9.heap.size := by rw [HBE.out]; exact Nat.le_trans HLA.out.size hb9.size
                  clear hb9 HO HL HLA HDE c0
                  go_upto_region 23 with fail
                  generalize hw10 : w9.alloc _ = w10
                  have hw10' : w9.alloc (.cells #[.int .i64 dd.Kind, .int .i64 dd.By, .int .i64 dd.No, .int .i64 dd.Seen, .int .i64 dd.At, .int .i64 dd.Many, .string dd.Text] 24) = w10 := hw10
                  have hb10 : Below w9.heap.size w9 w10 := by rw [← hw10']; exact (Below.refl w9.heap.size w9).alloc (Nat.le_refl _) _
                  have hY : DdAt w10 w9.heap.size dd := by rw [← hw10']; exact DdAt.new w9 dd
                  clear hw10 hw10'
                  generalize w9.heap.size = Y at hY ⊢
                  have HO10 := Lib.hid (HO9.out.below hb10)
                  have HL10 := Lib.hid (HL9.out.trans (hb10.mono hs9))
                  have hs10 : B ≤ w10.heap.size := Nat.le_trans hs9 hb10.size
                  obtain ⟨_, d0, d1, d2, d3, d4, d5, d6⟩ := hY
                  clear hb10 HO9 HL9 hs9
                  go_wp2_with (at_builtin; refine wpList_append_new rfl (.tmp 78) (.tmp 80) 45 rfl B 24 7 64 Try.underlying45 ti_Deed a' i cap' _ rfl HO10.out 1 1 (Dd.cells dd) rfl rfl (Dd.cells_one dd) (by omega) hs10 ?_)
                  intro a3 cap3 w11 hown hb11 hz11 hg11
                  have HO11 := Lib.hid (show OwnRow w11 B 24 7 a3 (i + 1) cap3 (flatD (L.take (i + 1))) by rw [HFL.out]; exact hown)
                  have HL11 := Lib.hid (HL10.out.trans hb11)
                  clear hown hb11 hg11 d0 d1 d2 d3 d4 d5 d6 HO10 HL10
                  go_wp2
                  exact ⟨⟨i + 1, a3, cap3, by omega, by go_num, rfl, HO11, HL11⟩, by simp [intOf]; omega⟩
                · obtain rfl : i = n := by omega
                  have hinB : decide ((i : Int) + 1 ≤ (i : Int)) = false := decide_eq_false (by omega)
                  have HSD := Lib.hid (show SlDd wx a' cap' L from OwnRow.slDd (by
                    have := HO.out
                    rw [List.take_of_length_le (by rw [HT.out.ln]; exact Nat.le_refl _)] at this
                    rw [HT.out.ln]; exact this))
                  have HAL := Lib.hid HT.out.all
                  have hR := HR.out.later HLA.out
                  have HR8 := Lib.hid hR
                  have c0 := (HLA.out.cell (p := ⟨g, 0, none⟩) hglt).trans hc0
                  clear HO HL hR
                  go_wp2_with fail
                  refine (HT.out.seen wx HLA.out).mono ?_
                  rintro e w8 ⟨rfl, rfl⟩
                  go_wp2_with fail
                  refine (All_n a' cap' L i HT.out.ln (allF L) rfl P.length (by rw [HAL.out]) w8 HSD.out HT.out.lok (by rw [HT.out.ln]; omega)).mono ?_
                  rintro e w9 ⟨aP, cP, rfl, hoP, hb9⟩
                  rw [HAL.out] at hoP ⊢
                  have HP9 := Lib.hid (show SlCh w9 aP cP P from hoP.slCh)
                  have HPN := Lib.hid (show aP = none → cP = 0 from hoP.nilcap)
                  have HLA9 := Lib.hid (HLA.out.trans hb9)
                  have HR9 := Lib.hid (HR8.out.later hb9)
                  have c0 := (hb9.cell (p := ⟨g, 0, none⟩) HR8.out.1.choose_spec.choose_spec.choose_spec.lt).trans c0
                  have hg9 := HR9.out.1.choose_spec.choose_spec.choose_spec.lt
                  clear hoP hb9 HSD HLA HR8 HR
                  generalize (allF L).2.2 = fat at *
                  go_upto_region 25 with fail
                  generalize hw10 : w9.alloc _ = w10
                  have hb10 : Below w9.heap.size w9 w10 := by rw [← hw10]; exact (Below.refl w9.heap.size w9).alloc (Nat.le_refl _) _
                  have y0 : w10.cell? ⟨w9.heap.size, 0, none⟩ = some (.int .i64 0) := by rw [← hw10]; simp
                  clear hw10
                  generalize w9.heap.size = Y at y0 ⊢
                  have HP10 := Lib.hid (HP9.out.below hb10)
                  have HLA10 := Lib.hid (HLA9.out.trans hb10)
                  have HR10 := Lib.hid (HR9.out.later hb10)
                  have c0 := (hb10.cell (p := ⟨g, 0, none⟩) hg9).trans c0
                  clear hb10 HP9 HLA9 HR9 hg9
                  have C0 := later_cell c0
                  have Y0 := later_cell y0
                  have hL : ∀ q : Lt w10, Later wr q.v := fun q => HLA10.out.trans q.h
                  have hM : ∀ q : Lt w10, Later w10 q.v := fun q => q.h
                  clear c0 y0
                  obtain ⟨T, hT⟩ : ∃ T, T = strOfNums (textF P) := ⟨_, rfl⟩
                  have HTP := Lib.hid hT
                  have HTB := Lib.hid (show strOfNums (textF bs) = T from by rw [hT, HT.out.tx])
                  clear hT
                  have hpl := HT.out.pl
                  have hbl := HT.out.bl
                  have HCL := Lib.hid HT.out.clr
                  have HEB := Lib.hid HT.out.eqb
                  refine wp_region_x [7, 16, 28, 30, 36] [] [0, 1, 2, 3, 4, 5, 6, 7, 8, 9, 10, 11, 12, 13, 14, 15, 16, 17, 18, 19, 20, 21, 22, 23, 24, 25, 26, 27, 29, 31, 32, 33, 34, 28, 30, 35, 36, 37, 38, 39] (by kernel_rfl) (by kernel_rfl) ?_
                  iterate 5 (refine wpX_step rfl (fun K hK => ?_); go_simp; refine hK _ _ ?_; clear hK K)
                  refine wpX_step rfl (fun K hK => ?_)
                  go_simp
                  refine ⟨_, fun p => quietM p (Text_c aP cP P p.v (HP10.out.below p.h) (by omega)), hK _ _ ?_⟩
                  clear hK K
                  rw [← HTP.out]
                  iterate 1 (refine wpX_step rfl (fun K hK => ?_); go_simp; refine hK _ _ ?_; clear hK K)
                  refine wpX_step rfl (fun K hK => ?_)
                  go_simp
                  intro p
                  refine (HT.out.known p.v (hL p)).mono ?_
                  rintro e w11 ⟨a11, c11, rfl, hs11, hn11, hb11⟩
                  refine ⟨_, rfl, hb11, hK _ _ ?_⟩
                  clear hK K
                  have HL11 := Lib.hid (show Later w10 w11 from Below.trans p.h (hb11.mono p.h.size))
                  have HK11 := Lib.hid hs11
                  have C0 := later_cell ((HL11.out.cell (p := ⟨g, 0, none⟩) (World.block_lt_of_cell? _ _ (C0 w10 (Later.refl _)))).trans (C0 w10 (Later.refl _)))
                  clear hs11 hn11 hb11 p hL hM Y0
                  have hL : ∀ q : Lt w11, Later wr q.v := fun q => (HLA10.out.trans HL11.out).trans q.h
                  have hM : ∀ q : Lt w11, Later w11 q.v := fun q => q.h
                  have HP11 := Lib.hid (HP10.out.below HL11.out)
                  refine wpX_step rfl (fun K hK => ?_)
                  go_simp
                  refine ⟨_, fun p => quietM p (Text_c a11 c11 bs p.v (HK11.out.below p.h) (by omega)), hK _ _ ?_⟩
                  clear hK K
                  rw [HTB.out]
                  -- the same list, where nobody clears
                  have hcutB : ∃ bB, bB = bare := ⟨_, rfl⟩
                  cases bare with
                  | true =>
                    have HPB := Lib.hid (HEB.out rfl)
                    iterate 7 (refine wpX_step rfl (fun K hK => ?_); go_simp; refine hK _ _ ?_; clear hK K)
                    refine wpX_step rfl (fun K hK => ?_)
                    go_simp
                    intro p
                    refine (HT.out.known p.v (hL p)).mono ?_
                    rintro e w12 ⟨a12, c12, rfl, hs12, hn12, hb12⟩
                    refine ⟨_, rfl, hb12, hK _ _ ?_⟩
                    clear hK K
                    have HL12 := Lib.hid (show Later w11 w12 from Below.trans p.h (hb12.mono p.h.size))
                    have HK12 := Lib.hid hs12
                    have C0 := later_cell ((HL12.out.cell (p := ⟨g, 0, none⟩) (World.block_lt_of_cell? _ _ (C0 w11 (Later.refl _)))).trans (C0 w11 (Later.refl _)))
                    clear hs12 hn12 hb12 p hL hM
                    have hL : ∀ q : Lt w12, Later wr q.v := fun q => ((HLA10.out.trans HL11.out).trans HL12.out).trans q.h
                    have hM : ∀ q : Lt w12, Later w12 q.v := fun q => q.h
                    have HP12 := Lib.hid (HP11.out.below HL12.out)
                    have HRz := Lib.hid (HR10.out.later (HL11.out.trans HL12.out))
                    have HLz := Lib.hid ((HLA10.out.trans HL11.out).trans HL12.out)
                    refine wpX_step rfl (fun K hK => ?_)
                    go_simp
                    refine ⟨_, fun p => quietM p (SameChars_k aP a12 cP c12 P bs P.length bs.length rfl rfl HPB.out p.v (HP12.out.below p.h) (HK12.out.below p.h)), hK _ _ ?_⟩
                    clear hK K
                    clear HR10 HLA10 HL11 HK11 HP10 HP11 HL12 HK12
                    iterate 9 (refine wpX_step rfl (fun K hK => ?_); go_simp; refine hK _ _ ?_; clear hK K)
                    refine wpX_step rfl (fun K hK => ?_)
                    go_simp
                    refine ⟨_, fun p => quietM p (HT.out.least p.v (hL p)), hK _ _ ?_⟩
                    clear hK K
                    iterate 5 (refine wpX_step rfl (fun K hK => ?_); go_simp; refine hK _ _ ?_; clear hK K)
                    -- what is not done of it
                    refine wpX_step rfl (fun K hK => ?_)
                    go_simp
                    intro p
                    refine (Of_c aP cP P le p.v (HP12.out.below p.h) (by omega) HPN.out).mono ?_
                    rintro e w13 ⟨a13, c13, rfl, ho13, hb13⟩
                    refine ⟨_, rfl, hb13, hK _ _ ?_⟩
                    clear hK K
                    have HL13 := Lib.hid (show Later w12 w13 from Below.trans p.h (hb13.mono p.h.size))
                    have HQ13 := Lib.hid ho13.slCh
                    have C0 := later_cell ((HL13.out.cell (p := ⟨g, 0, none⟩) (World.block_lt_of_cell? _ _ (C0 w12 (Later.refl _)))).trans (C0 w12 (Later.refl _)))
                    clear ho13 hb13 p hL hM
                    have hL : ∀ q : Lt w13, Later wr q.v := fun q => (HLz.out.trans HL13.out).trans q.h
                    have hM : ∀ q : Lt w13, Later w13 q.v := fun q => q.h
                    refine wpX_step rfl (fun K hK => ?_)
                    go_simp
                    intro p
                    refine (HT.out.known p.v (hL p)).mono ?_
                    rintro e w14 ⟨a14, c14, rfl, hs14, hn14, hb14⟩
                    refine ⟨_, rfl, hb14, hK _ _ ?_⟩
                    clear hK K
                    have HL14 := Lib.hid (show Later w13 w14 from Below.trans p.h (hb14.mono p.h.size))
                    have HK14 := Lib.hid hs14
                    have HKN14 := Lib.hid hn14
                    clear hs14 hn14 hb14 p hL hM
                    have hL : ∀ q : Lt w14, Later wr q.v := fun q => ((HLz.out.trans HL13.out).trans HL14.out).trans q.h
                    have hM : ∀ q : Lt w14, Later w14 q.v := fun q => q.h
                    refine wpX_step rfl (fun K hK => ?_)
                    go_simp
                    refine ⟨_, fun p => quietM p (HT.out.least p.v (hL p)), hK _ _ ?_⟩
                    clear hK K
                    refine wpX_step rfl (fun K hK => ?_)
                    go_simp
                    intro p
                    refine (Of_c a14 c14 bs le p.v (HK14.out.below p.h) (by omega) HKN14.out).mono ?_
                    rintro e w15 ⟨a15, c15, rfl, ho15, hb15⟩
                    refine ⟨_, rfl, hb15, hK _ _ ?_⟩
                    clear hK K
                    have HL15 := Lib.hid (show Later w14 w15 from Below.trans p.h (hb15.mono p.h.size))
                    have HQ15 := Lib.hid ho15.slCh
                    have HQ := Lib.hid (HQ13.out.below (HL14.out.trans HL15.out))
                    clear ho15 hb15 p hL hM
                    refine wpX_step rfl (fun K hK => ?_)
                    go_simp
                    refine ⟨_, fun p => quietM p (SameChars_k a13 a15 c13 c15 (clearOf le P) (clearOf le bs) _ _ rfl rfl HCL.out p.v (HQ.out.below p.h) (HQ15.out.below p.h)), hK _ _ ?_⟩
                    clear hK K
                    iterate 2 (refine wpX_step rfl (fun K hK => ?_); go_simp; refine hK _ _ ?_; clear hK K)
                    refine wpX_nil ?_
                    intro w16 hL16
                    have hla : Later w12 w16 := ((HL13.out.trans HL14.out).trans HL15.out).trans hL16
                    have HR16 := Lib.hid (HRz.out.later hla)
                    have HLA16 := Lib.hid (HLz.out.trans hla)
                    have HP16 := Lib.hid (HP12.out.below hla)
                    clear hla hL16 HL13 HL14 HL15 HQ13 HQ15 HQ HK14 HKN14 HRz HLz HP12 C0 HTP HTB HCL HEB
                    -- its open deeds, done to that
                    go_wp2_with fail
                    refine (HT.out.opn w16 HLA16.out).mono ?_
                    rintro e w17 ⟨aD, cD, rfl, hsD, hb17⟩
                    have HD17 := Lib.hid hsD
                    have HR17 := Lib.hid (HR16.out.later hb17)
                    have HLA17 := Lib.hid (HLA16.out.trans hb17)
                    have HP17 := Lib.hid (HP16.out.below hb17)
                    have HPG := Lib.hid HT.out.pg
                    clear hsD hb17 HR16 HLA16 HP16
                    obtain ⟨B2, hB2⟩ : ∃ B2, B2 = w17.heap.size := ⟨_, rfl⟩
                    have HB2 := Lib.hid hB2
                    have HLy := Lib.hid (show Below B2 w17 w17 from Below.refl _ _)
                    clear hB2
                    have hdn := HT.out.dn
                    go_wp2
                    go_loopw [15, 18] (fun s15 s18 wy => ∃ (i N : Nat) (a' : Option Addr) (cap' : Nat), i ≤ ds.length ∧ s18 = (.int .i64 i) ∧ s15 = .slice a' N cap' ∧ Hid (SlCh wy a' cap' (apOs P (ds.take i)) ∧ (a' = none → cap' = 0) ∧ (∀ c ∈ apOs P (ds.take i), i64ok c.Gone) ∧ N = (apOs P (ds.take i)).length ∧ N ≤ 200) ∧ Hid (Below B2 w17 wy)) (fun _ s18 _ => ds.length - (intOf s18).toNat)
                    case atStart => exact ⟨0, P.length, aP, cP, Nat.zero_le _, rfl, rfl, Lib.hid ⟨HP17.out, HPN.out, HPG.out, rfl, hpl⟩, HLy⟩
                    case round =>
                      obtain ⟨i, N, a2, cap2, hi2, rfl, rfl, HS, HLl⟩ := hrel
                      rename World => wy
                      clear HLy HP17 HPG
                      have hlat2 : Later w17 wy := by have := HLl.out; rw [HB2.out] at this; exact this
                      have HLA2 := Lib.hid hlat2
                      clear hlat2
                      by_cases hid2 : i < ds.length
                      · obtain ⟨bb, off, rfl, q0, q1, q2, q3, q4, q5, q6⟩ := (HD17.out.below HLA2.out).nth hid2
                        have hid2' : (i : Int) < ds.length := by omega
                        have hi20 : (0 : Int) ≤ (i : Int) := by omega
                        have hidB : decide ((i : Int) < (ds.length : Int)) = true := decide_eq_true hid2'
                        have HMY := Lib.hid (HT.out.may i hid2)
                        have HDK := Lib.hid (HT.out.dok ds[i] (List.getElem_mem hid2))
                        have HST := Lib.hid (show apOs P (ds.take (i + 1)) = apO (apOs P (ds.take i)) ds[i] from by rw [List.take_succ_eq_append_getElem hid2, apOs_append]; rfl)
                        generalize apOs P (ds.take i) = L1 at *
                        generalize ds[i] = dd at *
                        have hN : L1.length = N := HS.out.2.2.2.1.symm
                        have hN2 := HS.out.2.2.2.2
                        have HDC := Lib.hid (show Calls Try.prog 37 #[.slice a2 N cap2, .agg #[.int .i64 dd.Kind, .int .i64 dd.By, .int .i64 dd.No, .int .i64 dd.Seen, .int .i64 dd.At, .int .i64 dd.Many, .string dd.Text], .int .i64 1073741824] wy fun e w' => ∃ a' cap', e = .returned (.tuple #[.slice a' (doF L1 dd 1073741824).1.length cap', .int .i64 (doF L1 dd 1073741824).2]) ∧ OwnRow w' wy.heap.size 86 7 a' (doF L1 dd 1073741824).1.length cap' (flat (doF L1 dd 1073741824).1) ∧ Below wy.heap.size wy w' from by
                          rw [← hN]; exact Do_c a2 cap2 L1 dd 1073741824 wy HS.out.1 HS.out.2.1 (by omega) HDK.out.1 HDK.out.2 HS.out.2.2.1)
                        have HDN := Lib.hid (doF_len L1 dd 1073741824)
                        have HDG := Lib.hid (doF_gone L1 dd 1073741824 HS.out.2.2.1)
                        have HDE := Lib.hid (show (doF L1 dd 1073741824).2 = mayDo L1 dd from doF_codeR _ _ _ (by omega))
                        have HDF := Lib.hid (fun (h : mayDo L1 dd = 0) => show (doF L1 dd 1073741824).1 = apO L1 dd from by rw [apO_doF h])
                        clear hN hN2
                        generalize doF L1 dd 1073741824 = R at *
                        obtain ⟨R1, R2⟩ := R
                        go_wp2_with fail
                        refine HDC.out.mono ?_
                        rintro e w18 ⟨a3, cap3, rfl, ho18, hb18⟩
                        have HR18 := Lib.hid (HR17.out.later (HLA2.out.trans hb18))
                        rcases HMY.out with h0 | h9
                        · have hR2 : R2 = 0 := by have := HDE.out; (try dsimp only at this); rw [this]; exact h0
                          have hR1 : R1 = apO L1 dd := by have := HDF.out h0; (try dsimp only at this); exact this
                          subst hR2
                          have HN := Lib.hid (show SlCh w18 a3 cap3 (apOs P (ds.take (i + 1))) ∧ (a3 = none → cap3 = 0) ∧ (∀ c ∈ apOs P (ds.take (i + 1)), i64ok c.Gone) ∧ R1.length = (apOs P (ds.take (i + 1))).length ∧ R1.length ≤ 200 from by
                            rw [HST.out, ← hR1]
                            exact ⟨ho18.slCh, ho18.nilcap, HDG.out, rfl, HDN.out⟩)
                          have HL18 := Lib.hid (HLl.out.trans (hb18.mono (by rw [HB2.out]; exact HLA2.out.size)))
                          clear ho18 hb18 HDC HDN HDG HDE HDF HMY HS HLl HLA2 q0 q1 q2 q3 q4 q5 q6 h0 hR1 HR18 HST
                          generalize R1.length = RN at *
                          go_wp2
                          exact ⟨⟨i + 1, RN, a3, cap3, by omega, by go_num, rfl, HN, HL18⟩, by simp [intOf]; omega⟩
                        · have hR2 : R2 = 9 := by have := HDE.out; (try dsimp only at this); rw [this]; exact h9
                          subst hR2
                          have HF := Lib.hid (HB1.out.trans (HR18.out.2.mono HB1.out.size))
                          clear ho18 hb18 HDC HDN HDG HDE HDF HMY HS HLl HLA2 q0 q1 q2 q3 q4 q5 q6 h9 HR18 HST
                          generalize R1.length = RN at *
                          go_wp2
                          go_ret
                          exact ⟨rfl, HF.out⟩
                      · obtain rfl : i = ds.length := by omega
                        have hltB2 : decide ((ds.length : Int) < (ds.length : Int)) = false := by simp
                        rw [List.take_length] at HS
                        have HVW := Lib.hid HT.out.vw
                        have hN2 := HS.out.2.2.2.2
                        have hN := HS.out.2.2.2.1
                        have HLy2 := Lib.hid (HLA17.out.trans HLA2.out)
                        have HRy := Lib.hid (HR17.out.later HLA2.out)
                        generalize apOs P ds = KL at *
                        clear HLl HLA2 HR17 HLA17
                        subst hN
                        go_upto_region 37 with fail
                        have hL : ∀ q : Lt wy, Later wr q.v := fun q => HLy2.out.trans q.h
                        refine wp_region_x [4, 5] [] [0, 1, 2, 3, 6, 4, 7, 5, 8] (by kernel_rfl) (by kernel_rfl) ?_
                        iterate 2 (refine wpX_step rfl (fun K hK => ?_); go_simp; refine hK _ _ ?_; clear hK K)
                        refine wpX_step rfl (fun K hK => ?_)
                        go_simp
                        refine ⟨_, fun p => quietM_same p (HT.out.seen p.v (hL p)), hK _ _ ?_⟩
                        clear hK K
                        iterate 2 (refine wpX_step rfl (fun K hK => ?_); go_simp; refine hK _ _ ?_; clear hK K)
                        refine wpX_step rfl (fun K hK => ?_)
                        go_simp
                        intro p
                        refine (View_c a2 cap2 KL _ _ p.v (HS.out.1.below p.h) (by omega)).mono ?_
                        rintro e w19 ⟨aV, cV, rfl, hoV, hb19⟩
                        refine ⟨_, rfl, hb19, hK _ _ ?_⟩
                        clear hK K
                        have HL19 := Lib.hid (show Later wy w19 from Below.trans p.h (hb19.mono p.h.size))
                        generalize p.v.heap.size = B3 at hoV
                        have HOV := Lib.hid hoV
                        clear hoV hb19 p hL
                        have hL : ∀ q : Lt w19, Later wr q.v := fun q => (HLy2.out.trans HL19.out).trans q.h
                        refine wpX_step rfl (fun K hK => ?_)
                        go_simp
                        refine ⟨_, fun p => quietM p (HT.out.text p.v (hL p)), hK _ _ ?_⟩
                        clear hK K
                        refine wpX_step rfl (fun K hK => ?_)
                        go_simp
                        intro p
                        have hcv := run_convert_row (P := Try.prog) (HOV.out.below p.h) 66 Try.underlying66 Try.underlying5 9 Try.underlying9
                        rw [hcv, HVW.out]
                        refine And.intro (Later.refl _) (hK _ _ ?_)
                        clear hK K hcv
                        have HL20 := Lib.hid (show Later wy p.v from HL19.out.trans p.h)
                        iterate 1 (refine wpX_step rfl (fun K hK => ?_); go_simp; refine hK _ _ ?_; clear hK K)
                        refine wpX_nil ?_
                        intro w21 hL21
                        have HR21 := Lib.hid (HRy.out.later (HL20.out.trans hL21))
                        clear hL21 HL20 hL HOV HL19 HRy HLy2 HS HT
                        go_wp2
                        exact ⟨⟨q + 1, by omega, by go_num, HR21⟩, by simp [intOf]; omega⟩
                  | false =>
                    iterate 8 (refine wpX_step rfl (fun K hK => ?_); go_simp; refine hK _ _ ?_; clear hK K)
                    refine wpX_step rfl (fun K hK => ?_)
                    go_simp
                    refine hK _ _ ?_
                    clear hK K
                    have HP12 := Lib.hid HP11.out
                    have HRz := Lib.hid (HR10.out.later HL11.out)
                    have HLz := Lib.hid (HLA10.out.trans HL11.out)
                    clear HR10 HLA10 HL11 HK11 HP10 HP11
                    generalize w11 = w12 at *
                    iterate 9 (refine wpX_step rfl (fun K hK => ?_); go_simp; refine hK _ _ ?_; clear hK K)
                    refine wpX_step rfl (fun K hK => ?_)
                    go_simp
                    refine ⟨_, fun p => quietM p (HT.out.least p.v (hL p)), hK _ _ ?_⟩
                    clear hK K
                    iterate 5 (refine wpX_step rfl (fun K hK => ?_); go_simp; refine hK _ _ ?_; clear hK K)
                    -- what is not done of it
                    refine wpX_step rfl (fun K hK => ?_)
                    go_simp
                    intro p
                    refine (Of_c aP cP P le p.v (HP12.out.below p.h) (by omega) HPN.out).mono ?_
                    rintro e w13 ⟨a13, c13, rfl, ho13, hb13⟩
                    refine ⟨_, rfl, hb13, hK _ _ ?_⟩
                    clear hK K
                    have HL13 := Lib.hid (show Later w12 w13 from Below.trans p.h (hb13.mono p.h.size))
                    have HQ13 := Lib.hid ho13.slCh
                    have C0 := later_cell ((HL13.out.cell (p := ⟨g, 0, none⟩) (World.block_lt_of_cell? _ _ (C0 w12 (Later.refl _)))).trans (C0 w12 (Later.refl _)))
                    clear ho13 hb13 p hL hM
                    have hL : ∀ q : Lt w13, Later wr q.v := fun q => (HLz.out.trans HL13.out).trans q.h
                    have hM : ∀ q : Lt w13, Later w13 q.v := fun q => q.h
                    refine wpX_step rfl (fun K hK => ?_)
                    go_simp
                    intro p
                    refine (HT.out.known p.v (hL p)).mono ?_
                    rintro e w14 ⟨a14, c14, rfl, hs14, hn14, hb14⟩
                    refine ⟨_, rfl, hb14, hK _ _ ?_⟩
                    clear hK K
                    have HL14 := Lib.hid (show Later w13 w14 from Below.trans p.h (hb14.mono p.h.size))
                    have HK14 := Lib.hid hs14
                    have HKN14 := Lib.hid hn14
                    clear hs14 hn14 hb14 p hL hM
                    have hL : ∀ q : Lt w14, Later wr q.v := fun q => ((HLz.out.trans HL13.out).trans HL14.out).trans q.h
                    have hM : ∀ q : Lt w14, Later w14 q.v := fun q => q.h
                    refine wpX_step rfl (fun K hK => ?_)
                    go_simp
                    refine ⟨_, fun p => quietM p (HT.out.least p.v (hL p)), hK _ _ ?_⟩
                    clear hK K
                    refine wpX_step rfl (fun K hK => ?_)
                    go_simp
                    intro p
                    refine (Of_c a14 c14 bs le p.v (HK14.out.below p.h) (by omega) HKN14.out).mono ?_
                    rintro e w15 ⟨a15, c15, rfl, ho15, hb15⟩
                    refine ⟨_, rfl, hb15, hK _ _ ?_⟩
                    clear hK K
                    have HL15 := Lib.hid (show Later w14 w15 from Below.trans p.h (hb15.mono p.h.size))
                    have HQ15 := Lib.hid ho15.slCh
                    have HQ := Lib.hid (HQ13.out.below (HL14.out.trans HL15.out))
                    clear ho15 hb15 p hL hM
                    refine wpX_step rfl (fun K hK => ?_)
                    go_simp
                    refine ⟨_, fun p => quietM p (SameChars_k a13 a15 c13 c15 (clearOf le P) (clearOf le bs) _ _ rfl rfl HCL.out p.v (HQ.out.below p.h) (HQ15.out.below p.h)), hK _ _ ?_⟩
                    clear hK K
                    iterate 2 (refine wpX_step rfl (fun K hK => ?_); go_simp; refine hK _ _ ?_; clear hK K)
                    refine wpX_nil ?_
                    intro w16 hL16
                    have hla : Later w12 w16 := ((HL13.out.trans HL14.out).trans HL15.out).trans hL16
                    have HR16 := Lib.hid (HRz.out.later hla)
                    have HLA16 := Lib.hid (HLz.out.trans hla)
                    have HP16 := Lib.hid (HP12.out.below hla)
                    clear hla hL16 HL13 HL14 HL15 HQ13 HQ15 HQ HK14 HKN14 HRz HLz HP12 C0 HTP HTB HCL HEB
                    -- its open deeds, done to that
                    go_wp2_with fail
                    refine (HT.out.opn w16 HLA16.out).mono ?_
                    rintro e w17 ⟨aD, cD, rfl, hsD, hb17⟩
                    have HD17 := Lib.hid hsD
                    have HR17 := Lib.hid (HR16.out.later hb17)
                    have HLA17 := Lib.hid (HLA16.out.trans hb17)
                    have HP17 := Lib.hid (HP16.out.below hb17)
                    have HPG := Lib.hid HT.out.pg
                    clear hsD hb17 HR16 HLA16 HP16
                    obtain ⟨B2, hB2⟩ : ∃ B2, B2 = w17.heap.size := ⟨_, rfl⟩
                    have HB2 := Lib.hid hB2
                    have HLy := Lib.hid (show Below B2 w17 w17 from Below.refl _ _)
                    clear hB2
                    have hdn := HT.out.dn
                    go_wp2
                    go_loopw [15, 18] (fun s15 s18 wy => ∃ (i N : Nat) (a' : Option Addr) (cap' : Nat), i ≤ ds.length ∧ s18 = (.int .i64 i) ∧ s15 = .slice a' N cap' ∧ Hid (SlCh wy a' cap' (apOs P (ds.take i)) ∧ (a' = none → cap' = 0) ∧ (∀ c ∈ apOs P (ds.take i), i64ok c.Gone) ∧ N = (apOs P (ds.take i)).length ∧ N ≤ 200) ∧ Hid (Below B2 w17 wy)) (fun _ s18 _ => ds.length - (intOf s18).toNat)
                    case atStart => exact ⟨0, P.length, aP, cP, Nat.zero_le _, rfl, rfl, Lib.hid ⟨HP17.out, HPN.out, HPG.out, rfl, hpl⟩, HLy⟩
                    case round =>
                      obtain ⟨i, N, a2, cap2, hi2, rfl, rfl, HS, HLl⟩ := hrel
                      rename World => wy
                      clear HLy HP17 HPG
                      have hlat2 : Later w17 wy := by have := HLl.out; rw [HB2.out] at this; exact this
                      have HLA2 := Lib.hid hlat2
                      clear hlat2
                      by_cases hid2 : i < ds.length
                      · obtain ⟨bb, off, rfl, q0, q1, q2, q3, q4, q5, q6⟩ := (HD17.out.below HLA2.out).nth hid2
                        have hid2' : (i : Int) < ds.length := by omega
                        have hi20 : (0 : Int) ≤ (i : Int) := by omega
                        have hidB : decide ((i : Int) < (ds.length : Int)) = true := decide_eq_true hid2'
                        have HMY := Lib.hid (HT.out.may i hid2)
                        have HDK := Lib.hid (HT.out.dok ds[i] (List.getElem_mem hid2))
                        have HST := Lib.hid (show apOs P (ds.take (i + 1)) = apO (apOs P (ds.take i)) ds[i] from by rw [List.take_succ_eq_append_getElem hid2, apOs_append]; rfl)
                        generalize apOs P (ds.take i) = L1 at *
                        generalize ds[i] = dd at *
                        have hN : L1.length = N := HS.out.2.2.2.1.symm
                        have hN2 := HS.out.2.2.2.2
                        have HDC := Lib.hid (show Calls Try.prog 37 #[.slice a2 N cap2, .agg #[.int .i64 dd.Kind, .int .i64 dd.By, .int .i64 dd.No, .int .i64 dd.Seen, .int .i64 dd.At, .int .i64 dd.Many, .string dd.Text], .int .i64 1073741824] wy fun e w' => ∃ a' cap', e = .returned (.tuple #[.slice a' (doF L1 dd 1073741824).1.length cap', .int .i64 (doF L1 dd 1073741824).2]) ∧ OwnRow w' wy.heap.size 86 7 a' (doF L1 dd 1073741824).1.length cap' (flat (doF L1 dd 1073741824).1) ∧ Below wy.heap.size wy w' from by
                          rw [← hN]; exact Do_c a2 cap2 L1 dd 1073741824 wy HS.out.1 HS.out.2.1 (by omega) HDK.out.1 HDK.out.2 HS.out.2.2.1)
                        have HDN := Lib.hid (doF_len L1 dd 1073741824)
                        have HDG := Lib.hid (doF_gone L1 dd 1073741824 HS.out.2.2.1)
                        have HDE := Lib.hid (show (doF L1 dd 1073741824).2 = mayDo L1 dd from doF_codeR _ _ _ (by omega))
                        have HDF := Lib.hid (fun (h : mayDo L1 dd = 0) => show (doF L1 dd 1073741824).1 = apO L1 dd from by rw [apO_doF h])
                        clear hN hN2
                        generalize doF L1 dd 1073741824 = R at *
                        obtain ⟨R1, R2⟩ := R
                        go_wp2_with fail
                        refine HDC.out.mono ?_
                        rintro e w18 ⟨a3, cap3, rfl, ho18, hb18⟩
                        have HR18 := Lib.hid (HR17.out.later (HLA2.out.trans hb18))
                        rcases HMY.out with h0 | h9
                        · have hR2 : R2 = 0 := by have := HDE.out; (try dsimp only at this); rw [this]; exact h0
                          have hR1 : R1 = apO L1 dd := by have := HDF.out h0; (try dsimp only at this); exact this
                          subst hR2
                          have HN := Lib.hid (show SlCh w18 a3 cap3 (apOs P (ds.take (i + 1))) ∧ (a3 = none → cap3 = 0) ∧ (∀ c ∈ apOs P (ds.take (i + 1)), i64ok c.Gone) ∧ R1.length = (apOs P (ds.take (i + 1))).length ∧ R1.length ≤ 200 from by
                            rw [HST.out, ← hR1]
                            exact ⟨ho18.slCh, ho18.nilcap, HDG.out, rfl, HDN.out⟩)
                          have HL18 := Lib.hid (HLl.out.trans (hb18.mono (by rw [HB2.out]; exact HLA2.out.size)))
                          clear ho18 hb18 HDC HDN HDG HDE HDF HMY HS HLl HLA2 q0 q1 q2 q3 q4 q5 q6 h0 hR1 HR18 HST
                          generalize R1.length = RN at *
                          go_wp2
                          exact ⟨⟨i + 1, RN, a3, cap3, by omega, by go_num, rfl, HN, HL18⟩, by simp [intOf]; omega⟩
                        · have hR2 : R2 = 9 := by have := HDE.out; (try dsimp only at this); rw [this]; exact h9
                          subst hR2
                          have HF := Lib.hid (HB1.out.trans (HR18.out.2.mono HB1.out.size))
                          clear ho18 hb18 HDC HDN HDG HDE HDF HMY HS HLl HLA2 q0 q1 q2 q3 q4 q5 q6 h9 HR18 HST
                          generalize R1.length = RN at *
                          go_wp2
                          go_ret
                          exact ⟨rfl, HF.out⟩
                      · obtain rfl : i = ds.length := by omega
                        have hltB2 : decide ((ds.length : Int) < (ds.length : Int)) = false := by simp
                        rw [List.take_length] at HS
                        have HVW := Lib.hid HT.out.vw
                        have hN2 := HS.out.2.2.2.2
                        have hN := HS.out.2.2.2.1
                        have HLy2 := Lib.hid (HLA17.out.trans HLA2.out)
                        have HRy := Lib.hid (HR17.out.later HLA2.out)
                        generalize apOs P ds = KL at *
                        clear HLl HLA2 HR17 HLA17
                        subst hN
                        go_upto_region 37 with fail
                        have hL : ∀ q : Lt wy, Later wr q.v := fun q => HLy2.out.trans q.h
                        refine wp_region_x [4, 5] [] [0, 1, 2, 3, 6, 4, 7, 5, 8] (by kernel_rfl) (by kernel_rfl) ?_
                        iterate 2 (refine wpX_step rfl (fun K hK => ?_); go_simp; refine hK _ _ ?_; clear hK K)
                        refine wpX_step rfl (fun K hK => ?_)
                        go_simp
                        refine ⟨_, fun p => quietM_same p (HT.out.seen p.v (hL p)), hK _ _ ?_⟩
                        clear hK K
                        iterate 2 (refine wpX_step rfl (fun K hK => ?_); go_simp; refine hK _ _ ?_; clear hK K)
                        refine wpX_step rfl (fun K hK => ?_)
                        go_simp
                        intro p
                        refine (View_c a2 cap2 KL _ _ p.v (HS.out.1.below p.h) (by omega)).mono ?_
                        rintro e w19 ⟨aV, cV, rfl, hoV, hb19⟩
                        refine ⟨_, rfl, hb19, hK _ _ ?_⟩
                        clear hK K
                        have HL19 := Lib.hid (show Later wy w19 from Below.trans p.h (hb19.mono p.h.size))
                        generalize p.v.heap.size = B3 at hoV
                        have HOV := Lib.hid hoV
                        clear hoV hb19 p hL
                        have hL : ∀ q : Lt w19, Later wr q.v := fun q => (HLy2.out.trans HL19.out).trans q.h
                        refine wpX_step rfl (fun K hK => ?_)
                        go_simp
                        refine ⟨_, fun p => quietM p (HT.out.text p.v (hL p)), hK _ _ ?_⟩
                        clear hK K
                        refine wpX_step rfl (fun K hK => ?_)
                        go_simp
                        intro p
                        have hcv := run_convert_row (P := Try.prog) (HOV.out.below p.h) 66 Try.underlying66 Try.underlying5 9 Try.underlying9
                        rw [hcv, HVW.out]
                        refine And.intro (Later.refl _) (hK _ _ ?_)
                        clear hK K hcv
                        have HL20 := Lib.hid (show Later wy p.v from HL19.out.trans p.h)
                        iterate 1 (refine wpX_step rfl (fun K hK => ?_); go_simp; refine hK _ _ ?_; clear hK K)
                        refine wpX_nil ?_
                        intro w21 hL21
                        have HR21 := Lib.hid (HRy.out.later (HL20.out.trans hL21))
                        clear hL21 HL20 hL HOV HL19 HRy HLy2 HS HT
                        go_wp2
                        exact ⟨⟨q + 1, by omega, by go_num, HR21⟩, by simp [intOf]; omega⟩
          · obtain rfl : q = 4 := by omega
            have HIF := Lib.hid (show d'.Ok ∧ d'.Sm (k + 1) ∧ RWb w2 w2.heap.size g bare d' wr ∧ (bare = true → RBare d') from ⟨HI6.out.1, HI6.out.2.1, HR.out, HI6.out.2.2⟩)
            clear HR HI6 HSM
            go_wp2
            exact ⟨⟨k + 1, d', by omega, by go_num, HIF⟩, by simp [intOf]; omega⟩
    · obtain rfl : k = l.length := by omega
      have hltB : decide ((l.length : Int) < (l.length : Int)) = false := by simp
      have HF := Lib.hid (HB1.out.trans (HI.out.2.2.1.2.mono HB1.out.size))
      clear HI
      go_wp2
      go_ret
      exact ⟨rfl, HF.out⟩
end Go.Proofs.Ytneoeokfffnonac
