/- A line of the document's desk. -/
import Derived.Test.YtneoeokfffnonaaGreatDoorRdW
import Derived.Test.YtneoeokfffnonaaGreatDoorRdN
import Derived.Test.YtneoeokfffnonaaGreatDoorStoR
set_option linter.unusedVariables false
set_option linter.unusedSimpArgs false
namespace Go.Proofs.YtneoeokfffnonaaGreatDoor
open Go.RowKit Go
def isB (y c:ByteArray) (m:Nat) (q:Int):Bool:=decide (y=c∧(m:Int)=q)
theorem is_c (w:World) {L0 N0 b off n cap m cap2:Nat} {a2:Option Addr} {y:ByteArray} (nL:w.cell? ⟨L0,0,none⟩=some (.slice (some ⟨b,off,none⟩) n cap)) (hn:0 < n) (ny:w.cell? ⟨b,off,none⟩=some (.string y)) (nN:w.cell? ⟨N0,0,none⟩=some (.slice a2 m cap2)) (c:ByteArray) (q:Int) :
 Calls Tryz.prog 34 #[.string c,.int .i64 q,.pointer (some ⟨L0,0,none⟩),.pointer (some ⟨N0,0,none⟩)] w fun e w'=>e=.returned (.bool (isB y c m q))∧w'=w:=by
 have hn1:(0:Int) < (n:Int):=by omega
 by_cases h1:y=c
 ·subst h1
  have hB:=Lib.hid (show isB y y m q=decide ((m:Int)=q) from by unfold isB;simp)
  go_enter Tryz.func34,Tryz.ntmps34
  go_wp2
  go_ret
  exact ⟨by rw [hB.out];rfl,rfl⟩
 ·have hB:=Lib.hid (show isB y c m q=false from by unfold isB;simp [h1])
  have h1B:(y.toList==c.toList)=false:=(Lib.bytes_beq_false_iff _ _).2 h1
  clear h1
  go_enter Tryz.func34,Tryz.ntmps34
  go_wp2
  go_ret
  exact ⟨by rw [hB.out];rfl,rfl⟩
theorem txt_size (x:ByteArray):((⟨#[116,101,120,116,32]⟩:ByteArray)++x).size=5+x.size:=by rw [ByteArray.size_append];rfl
theorem word_g (s:ByteArray) (hs:s.size≤9000) (w:World):Calls Tryz.prog 29 #[.string s] w fun e w'=>∃ (b r:ByteArray) (ok:Bool),e=.returned (.tuple #[.string b,.string r,.bool ok])∧(ok=true→wordF s.data.toList=some (b.data.toList,r.data.toList))∧(ok=false→wordF s.data.toList=none)∧b.size≤9000∧r.size≤9000∧Below w.heap.size w w':=by
 refine (word_c s (by omega) w).mono ?_
 rintro e w' ⟨⟨h,rfl⟩ | ⟨a,r,h,rfl⟩,hb⟩
 ·exact ⟨s,⟨#[]⟩,false,rfl,fun e=>(by cases e),fun _=>h,hs,Nat.zero_le _,hb⟩
 ·have e:=(wordF_some h).1
  have hl:s.data.toList.length=a.length+(r.length+1):=by rw [e,List.length_append,List.length_cons]
  rw [ba_len] at hl
  exact ⟨⟨a.toArray⟩,⟨r.toArray⟩,true,rfl,fun _=>h,fun e=>(by cases e),(by show a.toArray.size≤9000;rw [List.size_toArray];omega),(by show r.toArray.size≤9000;rw [List.size_toArray];omega),hb⟩
theorem put_none {s:Str} (h:wordF s=none):askF s=askW (wordsK s):=by
 have e:wordsF 3 s=none:=by unfold wordsF;rw [h]
 unfold askF;rw [e]
theorem put_other {s k r:Str} (h:wordF s=some (k,r)) (hk:k≠putB):askF s=askW (wordsK s):=by
 unfold askF
 split
 ·rename_i k' a b t e
  unfold wordsF at e
  rw [h] at e
  simp only at e
  cases h2:wordsF 2 r with
  | none=>rw [h2] at e;cases e
  | some p=>
   rw [h2] at e
   simp only [Option.map_some,Option.some.injEq,Prod.mk.injEq,List.cons.injEq] at e
   obtain ⟨⟨e1,_⟩,_⟩:=e
   rw [if_neg (by rw [← e1];exact hk)]
 ·rfl
theorem put_two {s k r:Str} (h:wordF s=some (k,r)) (h2:wordF r=none):askF s=askW (wordsK s):=by
 have e:wordsF 3 s=none:=by
  unfold wordsF;rw [h];simp only;unfold wordsF;rw [h2];rfl
 unfold askF;rw [e]
theorem put_three {s k r b m:Str} (h:wordF s=some (k,r)) (h2:wordF r=some (b,m)) (h3:wordF m=none):askF s=askW (wordsK s):=by
 have e:wordsF 3 s=none:=by
  unfold wordsF;rw [h];simp only;unfold wordsF;rw [h2];simp only;unfold wordsF;rw [h3];rfl
 unfold askF;rw [e]
theorem put_four {s k r b m c x:Str} (h:wordF s=some (k,r)) (h2:wordF r=some (b,m)) (h3:wordF m=some (c,x)):wordsF 3 s=some ([k,b,c],x):=by
 unfold wordsF;rw [h];simp only;unfold wordsF;rw [h2];simp only;unfold wordsF;rw [h3];rfl
section
variable {w w' : World} {base:Nat} {F:Nat→Prop} {g:Nat} {d:DkM} {t:Str}
theorem RdAt.scr (h:RdAt w base F g d t) (ho:d.Ok) (hs:d.Sm 1000) {x:Int} {m:WM} (hw:d.writer x=some m):∃ (gt gs:Nat) (FT:Nat→Prop) (gw:Nat→Nat),w.cell? ⟨g,1,none⟩=some (.pointer (some ⟨gt,0,none⟩))∧TnAt w base FT gt gw d∧gs=gw x.toNat∧
 (∀ W,Later w W→Calls Tryz.prog 36 #[.pointer (some ⟨gs,0,none⟩)] W fun e w'=>e=.returned (.string (strOfNums m.view))∧Below W.heap.size W w')∧
 ∃ oa oc,w.cell? ⟨gs,4,none⟩=some (.slice oa m.ds.length oc)∧∀ W,Moves (fun k=>k=g) w W→SlDd W oa oc m.ds:=by
 obtain ⟨gt,FT,gw,hb,hd,hF⟩:=h.rows
 obtain ⟨hx,hme,hW,tm,hin⟩:=ho.of_writer hw
 obtain ⟨FW,hFW,_,hsc,_⟩:=hd.wrZ (toNat_lt hx).1 hW
 have hbl:=hin.base_len ho.lm
 have hos:=hs.writer hw
 have hdl:m.ds.length=m.opn.length:=by unfold WM.ds;rw [List.length_map]
 obtain ⟨a,cap,oa,ocap,r0,r1,r2,r3,r4,r5⟩:=hsc.rows
 refine ⟨gt,_,FT,gw,by rw [Lib.cell_of_heap hb];rfl,hd,rfl,fun W hl=>ScText_c (hsc.later hl) hin.chain (hin.base_gone ho.lm) (by show m.base.length≤1000;omega) (by show m.ds.length≤1000000;omega),oa,ocap,r1,fun W hW=>OwnRow.slDd (r3.moves hW fun k hk e=>?_)⟩
 exact (hF k (hFW k (r5 k hk).1).1).2 e
theorem RdAt.book (h:RdAt w base F g d t):∃ (gt gl:Nat) (FL:Nat→Prop) (a:Option Addr) (cap:Nat),w.cell? ⟨g,1,none⟩=some (.pointer (some ⟨gt,0,none⟩))∧w.cell? ⟨gt,0,none⟩=some (.pointer (some ⟨gl,0,none⟩))∧w.cell? ⟨gl,0,none⟩=some (.slice a d.lm.L.length cap)∧BookAt w base FL gl d.lm∧SlDd w a cap d.lm.L∧∀ W,Moves (fun k=>k=g) w W→SlDd W a cap d.lm.L:=by
 obtain ⟨gt,FT,gw,hb,hd,hF⟩:=h.rows
 obtain ⟨gl,FL,hFL,c0,hbk,_⟩:=hd.logZ
 obtain ⟨a,cap,r0,r2,r3⟩:=hbk.rows
 exact ⟨gt,gl,FL,a,cap,by rw [Lib.cell_of_heap hb];rfl,c0,r0,hbk,r2.slDd,fun W hW=>OwnRow.slDd (r2.moves hW fun k hk e=>(hF k (hFL k (r3 k hk).1).1).2 e)⟩
theorem rdoP_c {w1:World} (h:RdP w base F g d t w1) (ho:d.Ok) (hs:d.Sm 1000) (x:DStep) (hx:x.ok') (hl:t.length≤90000000) (hk:LibK w1) (hB:lowB≤base) :
 Calls Tryz.prog 31 #[.pointer (some ⟨g,0,none⟩),.agg #[.int .i64 x.Kind,.int .i64 x.W,.int .i64 x.At,.int .i64 x.Many,.string x.Text]] w1 fun e w'=>(∃ u,e=.returned u)∧RdP w base F g (d.step x).1 (t++linesS [codeL (d.step x).2]) w':=by
 obtain ⟨F1,k1,k2,k3⟩:=h
 refine (rdo_c k1 ho hs x hx hl hk hB).mono ?_
 intro e w2 hq
 obtain ⟨hu,F2,q1,q2,q3⟩:=hq
 exact ⟨hu,F2,q1,movesT k2 k3 q2,growsT k3 k2.size q3⟩
theorem what_all {y:ByteArray} {ns:List Int} (h0:¬ (y=⟨#[116,97,107,101]⟩∧(ns.length:Int)=3)) (h1:¬ (y=⟨#[106,111,105,110]⟩∧(ns.length:Int)=1)) (h2:¬ (y=⟨#[115,101,110,100]⟩∧(ns.length:Int)=1)) (h3:¬ (y=⟨#[104,101,97,114]⟩∧(ns.length:Int)=1)) (h4:¬ (y=⟨#[99,108,101,97,114]⟩∧(ns.length:Int)=1)) (h5:¬ (y=⟨#[108,101,97,118,101]⟩∧(ns.length:Int)=1)) (h6:¬ (y=⟨#[116,101,120,116]⟩∧(ns.length:Int)=1)) (h7:¬ (y=⟨#[116,101,120,116]⟩∧(ns.length:Int)=0)) (h8:¬ (y=⟨#[111,112,101,110]⟩∧(ns.length:Int)=1)) (h9:¬ (y=⟨#[108,111,103]⟩∧(ns.length:Int)=0)) (h10:¬ (y=⟨#[116,104,101,110]⟩∧(ns.length:Int)=1)) (h11:¬ (y=⟨#[115,101,116,116,108,101]⟩∧(ns.length:Int)=0)) (h12:¬ (y=⟨#[108,101,97,115,116]⟩∧(ns.length:Int)=0)):askN y.data.toList ns=.what:=by
 have hne:∀ l:Str,y≠⟨l.toArray⟩→y.data.toList≠l:=fun l h e=>h (ba_lit e)
 cases hk:stepK y.data.toList with
 | some k=>
  refine what_step hk ns fun hn=>?_
  rcases step_word hk with e | e | e | e | e
  ·exact h1 ⟨ba_lit e,by omega⟩
  ·exact h2 ⟨ba_lit e,by omega⟩
  ·exact h3 ⟨ba_lit e,by omega⟩
  ·exact h4 ⟨ba_lit e,by omega⟩
  ·exact h5 ⟨ba_lit e,by omega⟩
 | none=>
  have hb:∀ n:List Int,askN y.data.toList n=(if y.data.toList=takeB then (match n with | [a,b,c]=>.step ⟨3,a,b,c,⟨#[]⟩⟩ | _=>.what)
   else if y.data.toList=textB then (match n with | [a]=>.text a | []=>.all | _=>.what)
   else if y.data.toList=openB then (match n with | [a]=>.opn a | _=>.what)
   else if y.data.toList=logB then (match n with | []=>.log | _=>.what)
   else if y.data.toList=thenB then (match n with | [a]=>.thn a | _=>.what)
   else if y.data.toList=settleB then (match n with | []=>.settle | _=>.what)
   else if y.data.toList=leastB then (match n with | []=>.least | _=>.what)
   else .what):=fun n=>by unfold askN;rw [hk];rcases n with _ | ⟨a1,_ | ⟨a2,l⟩⟩ <;> rfl
  rw [hb]
  split
  ·rename_i e
   match ns,h0 with
   | [a,b,c],h0=>exact absurd ⟨ba_lit e,rfl⟩ h0
   | [],_=>rfl
   | [_],_=>rfl
   | [_,_],_=>rfl
   | _ :: _ :: _ :: _ :: _,_=>rfl
  split
  ·rename_i e
   match ns,h6,h7 with
   | [a],h6,_=>exact absurd ⟨ba_lit e,rfl⟩ h6
   | [],_,h7=>exact absurd ⟨ba_lit e,rfl⟩ h7
   | _ :: _ :: _,_,_=>rfl
  split
  ·rename_i e
   match ns,h8 with
   | [a],h=>exact absurd ⟨ba_lit e,rfl⟩ h
   | [],_=>rfl
   | _ :: _ :: _,_=>rfl
  split
  ·rename_i e
   match ns,h9 with
   | [],h=>exact absurd ⟨ba_lit e,rfl⟩ h
   | _ :: _,_=>rfl
  split
  ·rename_i e
   match ns,h10 with
   | [a],h=>exact absurd ⟨ba_lit e,rfl⟩ h
   | [],_=>rfl
   | _ :: _ :: _,_=>rfl
  split
  ·rename_i e
   match ns,h11 with
   | [],h=>exact absurd ⟨ba_lit e,rfl⟩ h
   | _ :: _,_=>rfl
  split
  ·rename_i e
   match ns,h12 with
   | [],h=>exact absurd ⟨ba_lit e,rfl⟩ h
   | _ :: _,_=>rfl
  rfl
set_option maxRecDepth 100000 in
set_option maxHeartbeats 40000000 in
theorem rline_c (h:RdAt w base F g d t) (ho:d.Ok) (hs:d.Sm 1000) (hl:t.length≤80000000) (hk:LibK w) (hB:lowB≤base) (s:ByteArray) (hz:s.size≤9000) :
 Calls Tryz.prog 18 #[.pointer (some ⟨g,0,none⟩),.string s] w fun e w'=>(∃ u,e=.returned u)∧RdP w base F g (tellK d (askF s.data.toList)).1 (t++linesS (tellK d (askF s.data.toList)).2) w':=by
 have HH:=Lib.hid h
 have HK:=Lib.hid hk
 have HLB:=Lib.hid hB
 have HO:=Lib.hid ho
 have HSM:=Lib.hid hs
 have HLT:=Lib.hid hl
 have HSZ:=Lib.hid hz
 clear h ho hs hl hk hB hz
 go_enter Tryz.func18,Tryz.ntmps18
 go_wp2_with fail
 refine (word_g s HSZ.out w).mono ?_
 rintro e w1 ⟨k,r,ok,rfl,hk1,hk0,hkz,hrz,hb1⟩
 have HW1:=Lib.hid hk1
 have HW0:=Lib.hid hk0
 have HRZ:=Lib.hid hrz
 have HB1:=Lib.hid hb1
 clear hk1 hk0 hkz hrz hb1
 go_upto_region 1 with fail
 go_cut [40] (fun s40 wx=>∃ b40:Bool,s40=.bool b40∧wx=w1∧Hid ((b40=true∧wordF s.data.toList=some (putB,r.data.toList))∨(b40=false∧askF s.data.toList=askW (wordsK s.data.toList))))
 case first=>as_aux_lemma=>
  cases ok with
  | false=>
   have HR:=Lib.hid (put_none (HW0.out rfl))
   go_wp2_with fail
   go_meet
   exact ⟨false,rfl,rfl,Lib.hid (.inr ⟨rfl,HR.out⟩)⟩
  | true=>
   have HR:=Lib.hid (HW1.out rfl)
   by_cases hkp:k=⟨#[112,117,116]⟩
   ·subst hkp
    go_wp2_with fail
    go_meet
    exact ⟨true,rfl,rfl,Lib.hid (.inl ⟨rfl,HR.out⟩)⟩
   ·have hkL:(k.toList==[112,117,116])=false:=ne_list hkp
    have HR2:=Lib.hid (put_other HR.out (fun e=>hkp (ba_lit e)))
    clear hkp
    go_wp2_with fail
    go_meet
    exact ⟨false,rfl,rfl,Lib.hid (.inr ⟨rfl,HR2.out⟩)⟩
 case rest=>as_aux_lemma=>
 obtain ⟨b40,rfl,rfl,HC40⟩:=hcut
 clear HW1 HW0
 go_upto_if 40 with fail
 go_cut [7,8] (fun _ _ wx=>Hid (Below w.heap.size w wx)∧Hid (askF s.data.toList=askW (wordsK s.data.toList)))
 case first=>as_aux_lemma=>
  rcases HC40.out with ⟨rfl,hws⟩ | ⟨rfl,hpf⟩
  ·have HWS:=Lib.hid hws
   clear hws HC40
   go_wp2_with fail
   refine (word_g r HRZ.out _).mono ?_
   rintro e w2 ⟨v2,r2,ok2,rfl,hv1,hv0,hvz,hrz2,hb2⟩
   have HV1:=Lib.hid hv1;have HV0:=Lib.hid hv0;have HVZ:=Lib.hid hvz;have HRZ2:=Lib.hid hrz2
   have HB2:=Lib.hid (HB1.out.trans (hb2.mono HB1.out.size))
   clear hv1 hv0 hvz hrz2 hb2
   go_wp2_with fail
   refine (word_g r2 HRZ2.out _).mono ?_
   rintro e w3 ⟨v3,r3,ok3,rfl,hu1,hu0,huz,hrz3,hb3⟩
   have HU1:=Lib.hid hu1;have HU0:=Lib.hid hu0;have HUZ:=Lib.hid huz;have HRZ3:=Lib.hid hrz3
   have HB3:=Lib.hid (HB2.out.trans (hb3.mono HB2.out.size))
   clear hu1 hu0 huz hrz3 hb3
   go_wp2_with fail
   refine (number_c v2 (by have:=HVZ.out;omega) _ (HK.out.later HB3.out)).mono ?_
   rintro e w4 ⟨n2,rfl,hn2,hb4⟩
   have HN2:=Lib.hid hn2
   have HB4:=Lib.hid (HB3.out.trans (hb4.mono HB3.out.size))
   clear hn2 hb4
   obtain ⟨q2,hq2⟩:∃ q,q=(numOf v2.data.toList).isSome:=⟨_,rfl⟩
   have HQ2:=Lib.hid hq2
   rw [← hq2]
   clear hq2
   go_wp2_with fail
   refine (number_c v3 (by have:=HUZ.out;omega) _ (HK.out.later HB4.out)).mono ?_
   rintro e w5 ⟨n3,rfl,hn3,hb5⟩
   have HN3:=Lib.hid hn3
   have HB5:=Lib.hid (HB4.out.trans (hb5.mono HB4.out.size))
   clear hn3 hb5
   obtain ⟨q3,hq3⟩:∃ q,q=(numOf v3.data.toList).isSome:=⟨_,rfl⟩
   have HQ3:=Lib.hid hq3
   rw [← hq3]
   clear hq3
   cases ok2 with
   | false=>
    have HR:=Lib.hid (put_two HWS.out (HV0.out rfl))
    go_wp2
    go_meet
    exact ⟨HB5,HR⟩
   | true=>
    have HW2:=Lib.hid (HV1.out rfl)
    cases ok3 with
    | false=>
     have HR:=Lib.hid (put_three HWS.out HW2.out (HU0.out rfl))
     go_wp2
     go_meet
     exact ⟨HB5,HR⟩
    | true=>
     have HW4:=Lib.hid (put_four HWS.out HW2.out (HU1.out rfl))
     cases q2 with
     | false=>
      have HR:=Lib.hid ((ask_put HW4.out).2.1 (.inl (by have:=HQ2.out;cases e:numOf v2.data.toList;rfl;rw [e] at this;cases this)))
      go_wp2
      go_meet
      exact ⟨HB5,HR⟩
     | true=>
      cases q3 with
      | false=>
       have HR:=Lib.hid ((ask_put HW4.out).2.1 (.inr (by have:=HQ3.out;cases e:numOf v3.data.toList;rfl;rw [e] at this;cases this)))
       go_wp2
       go_meet
       exact ⟨HB5,HR⟩
      | true=>
       have HAX:=Lib.hid (show askF s.data.toList=.step ⟨2,n2,n3,0,r3⟩ from by
        obtain ⟨x2,e2⟩:=Option.isSome_iff_exists.1 HQ2.out.symm
        obtain ⟨x3,e3⟩:=Option.isSome_iff_exists.1 HQ3.out.symm
        rw [(ask_put HW4.out).2.2 x2 x3 rfl e2 e3,HN2.out x2 e2,HN3.out x3 e3])
       have HC:=Lib.hid (rdoP_c (RdP.start HH.out HB5.out) HO.out HSM.out ⟨2,n2,n3,0,r3⟩ ⟨by unfold i64ok;show (_:Int)≤0∧(0:Int) < _;omega,by show r3.size≤maxLen;have:=HRZ3.out;unfold maxLen;omega⟩ (by have:=HLT.out;omega) (HK.out.later HB5.out) HLB.out)
       go_wp2_with fail
       refine HC.out.mono ?_
       rintro e w6 ⟨⟨u,rfl⟩,hp⟩
       have H6:=Lib.hid hp
       clear hp HC
       go_wp2
       refine bodyPost_ret (results_none rfl _ _ _) rfl ?_
       refine ⟨⟨_,rfl⟩,?_⟩
       rw [HAX.out]
       exact H6.out
  ·have HA:=Lib.hid hpf
   clear hpf HC40
   go_wp2
   go_meet
   exact ⟨HB1,HA⟩
 case rest=>as_aux_lemma=>
 obtain ⟨HB2,HASK⟩:=hcut
 clear HB1 HC40 HRZ
 rename World=>wq
 have HK2:=Lib.hid (HK.out.later HB2.out)
 go_wp2_with fail
 refine (Words_c s HSZ.out wq).mono ?_
 rintro e w3 ⟨a',n',cap',xs,rfl,hxl,hxw,hrow,hb3⟩
 have HXL:=Lib.hid hxl
 have HXW:=Lib.hid hxw
 have HROW:=Lib.hid hrow
 have HB3:=Lib.hid (HB2.out.trans (hb3.mono HB2.out.size))
 clear hxl hxw hrow hb3
 go_upto_region 9 with fail
 generalize hw4:w3.alloc _=w4
 have hw4' : w3.alloc (.cells #[.slice a' n' cap'] 22)=w4:=hw4
 have hbo:=(Below.refl w3.heap.size w3).alloc (Nat.le_refl _) (.cells #[.slice a' n' cap'] 22)
 have nL:w4.cell? ⟨w3.heap.size,0,none⟩=some (.slice a' n' cap'):=by rw [← hw4'];simp
 rw [hw4'] at hbo
 have HROW4:=Lib.hid (HROW.out.below hbo)
 have HB4:=Lib.hid (HB3.out.trans (hbo.mono HB3.out.size))
 have HK4:=Lib.hid (HK.out.later HB4.out)
 clear hw4 hw4' hbo HROW HB3 HB2 HK2
 generalize w3.heap.size=L0 at nL ⊢
 match xs,HXL,HXW,HROW4 with
 | [],HXL,HXW,HROW4=>
  obtain rfl:n'=0:=HXL.out.symm
  have HAX:=Lib.hid (show askF s.data.toList=.nothing from by rw [HASK.out,← HXW.out];rfl)
  have H4:=Lib.hid (RdP.start HH.out HB4.out)
  go_wp2
  refine bodyPost_ret (results_none rfl _ _ _) rfl ?_
  refine ⟨⟨_,rfl⟩,?_⟩
  rw [HAX.out]
  exact H4.out.congr rfl (List.append_nil t).symm
 | y0 :: l,HXL,HXW,HROW4=>
 obtain ⟨b,off,rfl,_,hblt,hyc⟩:=HROW4.out.cell (by simp)
 have hn1:n'=l.length+1:=HXL.out.symm
 subst hn1
 have ny:w4.cell? ⟨b,off,none⟩=some (.string y0):=hyc 0 (.string y0) rfl
 have HYC:=Lib.hid (show ∀ (j:Nat) x,l[j]? = some x→w4.cell? ⟨b,off+(j+1),none⟩=some (.string x) from fun j x hx=>hyc (j+1) (.string x) (by simp [hx]))
 have hz0:((l.length:Int)+1==0)=false:=by simp;omega
 have hz1:¬ ((l.length:Int)+1=0):=by omega
 have HW0:=Lib.hid (show askF s.data.toList=askW (y0.data.toList :: (l.map (fun x:ByteArray=>x.data.toList))) from by rw [HASK.out,← HXW.out];rfl)
 have HWL:=Lib.hid (show l.length≤9000∧∀ x∈l,x.size≤9000 from by
  have h2:=HSZ.out
  have e2:=ba_len s
  have h4:=words_len s.data.toList []
  change (wordsK s.data.toList).length≤_∧(∀ x∈wordsK s.data.toList,_) at h4
  rw [← HXW.out] at h4
  refine ⟨by have:=h4.1;simp at this;omega,fun x hx=>?_⟩
  have h3:=(h4.2 x.data.toList (List.mem_map.2 ⟨x,List.mem_cons_of_mem _ hx,rfl⟩)).1
  have e1:=ba_len x
  simp only [List.length_nil,Nat.zero_add] at h3
  omega)
 have hlL:L0 < w4.heap.size:=World.block_lt_of_cell? w4 _ nL
 have hll:l.length≤9000:=HWL.out.1
 clear hyc HASK HXW HXL HROW4
 go_upto_region 11 with fail
 generalize hw5:w4.alloc _=w5
 have hw5' : w4.alloc (.cells #[.slice none 0 0] 71)=w5:=hw5
 have hbo:=(Below.refl w4.heap.size w4).alloc (Nat.le_refl _) (.cells #[.slice none 0 0] 71)
 have n0c:w5.cell? ⟨w4.heap.size,0,none⟩=some (.slice none 0 0):=by rw [← hw5'];simp
 have n0f:w5.frozen? ⟨w4.heap.size,0,none⟩=false:=by rw [← hw5'];simp
 have n0z:w4.heap.size < w5.heap.size:=by rw [← hw5'];simp
 rw [hw5'] at hbo
 have HBO:=Lib.hid hbo
 have HB5:=Lib.hid (HB4.out.trans (hbo.mono HB4.out.size))
 have HLN:=Lib.hid (show w.heap.size≤w4.heap.size from HB4.out.size)
 clear hw5 hw5' hbo
 have HNL:=Lib.hid nL
 have HNY:=Lib.hid ny
 have HLS:=Lib.hid (And.intro hlL hblt)
 clear nL ny hlL hblt
 obtain ⟨N0,hN0⟩:∃ N,N=w4.heap.size:=⟨_,rfl⟩
 rw [← hN0] at n0c n0f n0z HBO HLN HLS ⊢
 have HOLD:=Lib.hid (show (∀ W,Below N0 w4 W→W.cell? ⟨L0,0,none⟩=some (.slice (some ⟨b,off,none⟩) (l.length+1) cap')∧W.cell? ⟨b,off,none⟩=some (.string y0)∧∀ (j:Nat) x,l[j]? = some x→W.cell? ⟨b,off+(j+1),none⟩=some (.string x)) from fun W hW=>
  ⟨(hW.cell (p:=⟨L0,0,none⟩) HLS.out.1).trans HNL.out,(hW.cell (p:=⟨b,off,none⟩) HLS.out.2).trans HNY.out,fun j x hx=>(hW.cell (p:=⟨b,off+(j+1),none⟩) HLS.out.2).trans (HYC.out j x hx)⟩)
 have HST:=Lib.hid (And.intro n0c n0f)
 have HN0Z:=Lib.hid n0z
 have HWW:=Lib.hid (show Below w.heap.size w w4 from HB4.out)
 clear n0c n0f n0z HNL HNY HYC HB4 HK4 HLS hN0 HB5
 go_wp2
 go_loopw [19] (fun s19 wr=>∃ (j:Nat) (a2:Option Addr) (cap2:Nat) (ns:List Int),j≤l.length∧s19=(.int .i64 ((j:Int)+1))∧Hid (numsK ((l.map (fun x:ByteArray=>x.data.toList)).take j)=some ns∧ns.length=j)∧Hid (OwnRow wr w5.heap.size 3 1 a2 j cap2 (ns.map (Value.int .i64)))∧Hid (wr.cell? ⟨N0,0,none⟩=some (.slice a2 j cap2)∧wr.frozen? ⟨N0,0,none⟩=false)∧Hid (Below N0 w4 wr)∧Hid (w5.heap.size≤wr.heap.size)) (fun s19 _=>l.length+1 - (intOf s19).toNat)
 case atStart=>exact ⟨0,none,0,[],Nat.zero_le _,rfl,Lib.hid ⟨rfl,rfl⟩,Lib.hid (OwnRow.nil _ _ _ _ _),HST,HBO,Lib.hid (Nat.le_refl _)⟩
 case round=>
  obtain ⟨j,a2,cap2,ns,hj,rfl,HN,HO2,HC2,HBr,HZr⟩:=hrel
  rename World=>wr
  clear HST HBO
  have hwj:IntKind.i64.wrap ((j:Int)+1+1)=(j:Int)+1+1:=by rw [IntKind.wrap_i64];omega
  obtain ⟨oL,oY,oX⟩:=HOLD.out wr HBr.out
  have HBw:=Lib.hid (show Below w.heap.size w wr from HWW.out.trans (HBr.out.mono HLN.out))
  have HKw:=Lib.hid (HK.out.later HBw.out)
  have HQ:=Lib.hid (HH.out.later HBw.out)
  by_cases hlt:j < l.length
  ·have hc:=oX j l[j] (List.getElem?_eq_getElem hlt)
   have HXZ:=Lib.hid (HWL.out.2 l[j] (List.getElem_mem hlt))
   have hlt' : (j:Int)+1 < (l.length:Int)+1:=by omega
   have hj0:(0:Int)≤(j:Int)+1:=by omega
   have HNT:=Lib.hid (show numsK ((l.map (fun x:ByteArray=>x.data.toList)).take (j+1))=(numOf (l[j]).data.toList).map fun n=>ns++[n] from by
    rw [numsK_take (by rw [List.length_map];exact hlt),HN.out.1];simp only [List.getElem_map])
   have HSTP:=Lib.hid (show numOf (l[j]).data.toList=none→numsK (l.map (fun x:ByteArray=>x.data.toList))=none from fun h=>numsK_stop (l.map (fun x:ByteArray=>x.data.toList)) j (by rw [List.length_map];exact hlt) (by rw [List.getElem_map];exact h))
   clear oX oY
   generalize l[j]=x at *
   go_wp2_with fail
   refine (number_c x (by have:=HXZ.out;omega) _ HKw.out).mono ?_
   rintro e w6 ⟨v,rfl,hv,hb6⟩
   cases hnum:numOf x.data.toList with
   | none=>
    have HAX:=Lib.hid (show askF s.data.toList=.what from by rw [HW0.out];exact askW_cons.1 (HSTP.out hnum))
    have HSY:=Lib.hid (rsayP_c (RdP.start HQ.out hb6) ⟨#[119,104,97,116]⟩ whatB rfl (by have:=HLT.out;show t.length+4≤_;omega))
    rw [show (none:Option Int).isSome=false from rfl]
    clear hnum hv hb6 hc
    go_wp2_with fail
    refine HSY.out.mono ?_
    intro e w7 hq
    obtain ⟨⟨u,hu⟩,h7⟩:=hq
    subst hu
    have H7:=Lib.hid (RdP.after HBw.out h7)
    clear h7 HSY
    go_wp2
    refine bodyPost_ret (results_none rfl _ _ _) rfl ?_
    refine ⟨⟨_,rfl⟩,?_⟩
    rw [HAX.out]
    exact H7.out
   | some u=>
    obtain rfl:v=u:=hv u hnum
    have HN3:=Lib.hid (show numsK ((l.map (fun x:ByteArray=>x.data.toList)).take (j+1))=some (ns++[v])∧(ns++[v]).length=j+1 from ⟨by rw [HNT.out,hnum];rfl,by rw [List.length_append,HN.out.2];rfl⟩)
    have HO6:=Lib.hid (HO2.out.below hb6)
    have hNlt:N0 < wr.heap.size:=Nat.lt_of_lt_of_le HN0Z.out HZr.out
    have kc6:w6.cell? ⟨N0,0,none⟩=some (.slice a2 j cap2):=(hb6.cell (p:=⟨N0,0,none⟩) hNlt).trans HC2.out.1
    have HF6:=Lib.hid ((hb6.frozen (p:=⟨N0,0,none⟩) hNlt).trans HC2.out.2)
    have HB6:=Lib.hid (HBr.out.trans (hb6.mono (Nat.le_of_lt hNlt)))
    have hsz6:w5.heap.size≤w6.heap.size:=Nat.le_trans HZr.out hb6.size
    rw [show (some v:Option Int).isSome=true from rfl]
    clear hnum hv hb6 hc HNT HSTP HN HO2 HC2 hNlt
    go_wp2_with (at_builtin;refine wpList_append_new rfl (.tmp 102) (.tmp 104) 71 rfl w5.heap.size 3 1 8 Tryz.underlying71 ti_int a2 j cap2 _ rfl HO6.out 1 1 [.int .i64 v] rfl rfl (one1 rfl) (by omega) hsz6 ?_)
    intro a3 cap3 w7 hown7 hb7 hz7 hg7
    have kc7:w7.cell? ⟨N0,0,none⟩=some (.slice a2 j cap2):=(hb7.cell (p:=⟨N0,0,none⟩) HN0Z.out).trans kc6
    have kf7:w7.frozen? ⟨N0,0,none⟩=false:=(hb7.frozen (p:=⟨N0,0,none⟩) HN0Z.out).trans HF6.out
    have HO7:=Lib.hid (show OwnRow (w7.setCell ⟨N0,0,none⟩ (.slice a3 (j+1) cap3)) w5.heap.size 3 1 a3 (j+1) cap3 ((ns++[v]).map (Value.int .i64)) from by
     rw [List.map_append]
     exact hown7.setCell _ _ (fun g hg e=>by have:=(hown7.base_le g hg).1;have:=HN0Z.out;simp at e;omega))
    have HC7:=Lib.hid (show (w7.setCell ⟨N0,0,none⟩ (.slice a3 (j+1) cap3)).cell? ⟨N0,0,none⟩=some (.slice a3 (j+1) cap3)∧(w7.setCell ⟨N0,0,none⟩ (.slice a3 (j+1) cap3)).frozen? ⟨N0,0,none⟩=false from
     ⟨World.cell?_setCell_same _ _ _ kc7,by rw [World.frozen?_setCell];exact kf7⟩)
    have HB7:=Lib.hid (show Below N0 w4 (w7.setCell ⟨N0,0,none⟩ (.slice a3 (j+1) cap3)) from (HB6.out.trans (hb7.mono (Nat.le_of_lt HN0Z.out))).setCell (p:=⟨N0,0,none⟩) (Nat.le_refl _) _)
    have HZ7:=Lib.hid (show w5.heap.size≤(w7.setCell ⟨N0,0,none⟩ (.slice a3 (j+1) cap3)).heap.size from by simp;exact Nat.le_trans hsz6 hb7.size)
    clear hown7 hb7 hz7 hg7 kc6 HF6 HB6 HO6
    go_wp2
    exact ⟨⟨j+1,a3,cap3,ns++[v],by omega,by go_num,HN3,HO7,HC7,HB7,HZ7⟩,by simp [intOf];omega⟩
  ·obtain rfl:j=l.length:=by omega
   have hltB:decide ((l.length:Int)+1 < (l.length:Int)+1)=false:=by simp
   have HX:=Lib.hid (show askF s.data.toList=askN y0.data.toList ns from by
    have e:=HN.out.1
    rw [List.take_of_length_le (by rw [List.length_map];exact Nat.le_refl _)] at e
    rw [HW0.out];exact askW_cons.2 ns e)
   have HNL:=Lib.hid (show ns.length=l.length from HN.out.2)
   have HNK:=Lib.hid (show ∀ k∈ns,i64ok k from numsK_ok _ ns HN.out.1)
   have HROWN:=Lib.hid (show OwnRow wr w5.heap.size 3 1 a2 l.length cap2 (ns.map (Value.int .i64)) from HO2.out)
   obtain ⟨nN,_⟩:=HC2.out
   have HFIN:=Lib.hid (fun (d' : DkM) (t' : Str) (W:World) (q:RdP wr base F g d' t' W)=>RdP.after HBw.out q)
   have hnp:0 < l.length+1:=by omega
   have HNP:=Lib.hid hnp
   generalize hmm:l.length=mm at *
   clear hnp oX HN HO2 HC2 HBr HZr HOLD HWW HN0Z HLN HWL HW0 hwj hlt HH HSZ HK hz0 hz1 hll hmm
   go_wp2_with fail
   refine (is_c _ oL HNP.out oY nN _ _).mono ?_
   rintro e wz ⟨rfl,hwz⟩
   rw [hwz]
   clear hwz
   by_cases ht:y0=⟨#[116,97,107,101]⟩∧(mm:Int)=3
   ·rw [show isB y0 ⟨#[116,97,107,101]⟩ mm 3=true from decide_eq_true ht]
    as_aux_lemma=>
     obtain ⟨hy,hq⟩:=ht
     obtain ⟨v0,v1,v2,rfl⟩:∃ v0 v1 v2,ns=[v0,v1,v2]:=by
      have hl3:ns.length=3:=by have:=HNL.out;omega
      match ns,hl3 with
      | [a,b,c],_=>exact ⟨a,b,c,rfl⟩
     subst hy
     obtain rfl:mm=3:=by omega
     have HAX:=Lib.hid (show askF s.data.toList=.step ⟨3,v0,v1,v2,⟨#[]⟩⟩ from by rw [HX.out];rfl)
     have HV2:=Lib.hid (HNK.out v2 (by simp))
     obtain ⟨rb,ro,rfl,hcell⟩:=row_cell HROWN.out (by simp)
     have hv0:wr.cell? ⟨rb,ro,none⟩=some (.int .i64 v0):=hcell 0 v0 rfl
     have hv1:=hcell 1 v1 rfl
     have hv2:=hcell 2 v2 rfl
     have HC:=Lib.hid (fun (W:World) (hW:Later wr W)=>rdo_c (HQ.out.later hW) HO.out HSM.out ⟨3,v0,v1,v2,⟨#[]⟩⟩ ⟨HV2.out,Nat.zero_le _⟩ (by have:=HLT.out;omega) (HKw.out.later hW) HLB.out)
     clear hcell hq HX HNL HNK
     go_upto_region 21 with fail
     have XN:=later_cell nN
     have X0:=later_cell hv0
     have X1:=later_cell hv1
     have X2:=later_cell hv2
     have hL:∀ q:Lt wr,Later wr q.v:=fun q=>q.h
     clear nN hv0 hv1 hv2 oL oY
     refine wp_region_x [] [11] [0,1,2,3,4,5,6,7,8,9,10,11] (by kernel_rfl) (by kernel_rfl) ?_
     iterate 11 (refine wpX_step rfl (fun K hK=>?_);go_simp;refine hK _ _ ?_;clear hK K)
     refine wpX_step rfl (fun K hK=>?_)
     go_simp
     intro p
     refine (HC.out p.v (hL p)).mono ?_
     rintro e w8 ⟨⟨u,rfl⟩,hp⟩
     refine ⟨_,rfl,hK _ _ ?_⟩
     clear hK K
     have HP8:=Lib.hid (HFIN.out _ _ _ (RdP.after (hL p) hp))
     clear hp p hL XN X0 X1 X2
     refine wpX_nil ?_
     intro w9 hL9
     have H9:=Lib.hid (HP8.out.later hL9)
     clear HP8 hL9
     (go_wp2;refine bodyPost_end (results_none rfl _ _ _) rfl ?_;refine ⟨⟨_,rfl⟩,?_⟩;rw [HAX.out];exact H9.out)
   rw [show isB y0 ⟨#[116,97,107,101]⟩ mm 3=false from decide_eq_false ht]
   have HT0:=Lib.hid ht
   clear ht
   go_wp2_with fail
   refine (is_c _ oL HNP.out oY nN _ _).mono ?_
   rintro e wz ⟨rfl,hwz⟩
   rw [hwz]
   clear hwz
   by_cases ht:y0=⟨#[106,111,105,110]⟩∧(mm:Int)=1
   ·rw [show isB y0 ⟨#[106,111,105,110]⟩ mm 1=true from decide_eq_true ht]
    as_aux_lemma=>
     obtain ⟨hy,hq⟩:=ht
     obtain ⟨v,rfl⟩:∃ v,ns=[v]:=List.length_eq_one_iff.1 (by have:=HNL.out;omega)
     subst hy
     obtain rfl:mm=1:=by omega
     have HAX:=Lib.hid (show askF s.data.toList=.step ⟨1,v,0,0,⟨#[]⟩⟩ from by rw [HX.out];rfl)
     obtain ⟨rb,ro,rfl,hcell⟩:=row_cell HROWN.out (by simp)
     have hv:wr.cell? ⟨rb,ro,none⟩=some (.int .i64 v):=hcell 0 v rfl
     clear hcell hq HX HNL HNK
     have HC:=Lib.hid (rdo_c HQ.out HO.out HSM.out ⟨1,v,0,0,⟨#[]⟩⟩ ⟨by unfold i64ok;show (_:Int)≤0∧(0:Int) < _;omega,Nat.zero_le _⟩ (by have:=HLT.out;omega) HKw.out HLB.out)
     go_wp2_with fail
     refine HC.out.mono ?_
     rintro e w8 ⟨⟨u,rfl⟩,hp⟩
     have H8:=Lib.hid (HFIN.out _ _ _ hp)
     clear hp HC
     (go_wp2;refine bodyPost_end (results_none rfl _ _ _) rfl ?_;refine ⟨⟨_,rfl⟩,?_⟩;rw [HAX.out];exact H8.out)
   rw [show isB y0 ⟨#[106,111,105,110]⟩ mm 1=false from decide_eq_false ht]
   have HT1:=Lib.hid ht
   clear ht
   go_wp2_with fail
   refine (is_c _ oL HNP.out oY nN _ _).mono ?_
   rintro e wz ⟨rfl,hwz⟩
   rw [hwz]
   clear hwz
   by_cases ht:y0=⟨#[115,101,110,100]⟩∧(mm:Int)=1
   ·rw [show isB y0 ⟨#[115,101,110,100]⟩ mm 1=true from decide_eq_true ht]
    as_aux_lemma=>
     obtain ⟨hy,hq⟩:=ht
     obtain ⟨v,rfl⟩:∃ v,ns=[v]:=List.length_eq_one_iff.1 (by have:=HNL.out;omega)
     subst hy
     obtain rfl:mm=1:=by omega
     have HAX:=Lib.hid (show askF s.data.toList=.step ⟨4,v,0,0,⟨#[]⟩⟩ from by rw [HX.out];rfl)
     obtain ⟨rb,ro,rfl,hcell⟩:=row_cell HROWN.out (by simp)
     have hv:wr.cell? ⟨rb,ro,none⟩=some (.int .i64 v):=hcell 0 v rfl
     clear hcell hq HX HNL HNK
     have HC:=Lib.hid (rdo_c HQ.out HO.out HSM.out ⟨4,v,0,0,⟨#[]⟩⟩ ⟨by unfold i64ok;show (_:Int)≤0∧(0:Int) < _;omega,Nat.zero_le _⟩ (by have:=HLT.out;omega) HKw.out HLB.out)
     go_wp2_with fail
     refine HC.out.mono ?_
     rintro e w8 ⟨⟨u,rfl⟩,hp⟩
     have H8:=Lib.hid (HFIN.out _ _ _ hp)
     clear hp HC
     (go_wp2;refine bodyPost_end (results_none rfl _ _ _) rfl ?_;refine ⟨⟨_,rfl⟩,?_⟩;rw [HAX.out];exact H8.out)
   rw [show isB y0 ⟨#[115,101,110,100]⟩ mm 1=false from decide_eq_false ht]
   have HT2:=Lib.hid ht
   clear ht
   go_wp2_with fail
   refine (is_c _ oL HNP.out oY nN _ _).mono ?_
   rintro e wz ⟨rfl,hwz⟩
   rw [hwz]
   clear hwz
   by_cases ht:y0=⟨#[104,101,97,114]⟩∧(mm:Int)=1
   ·rw [show isB y0 ⟨#[104,101,97,114]⟩ mm 1=true from decide_eq_true ht]
    as_aux_lemma=>
     obtain ⟨hy,hq⟩:=ht
     obtain ⟨v,rfl⟩:∃ v,ns=[v]:=List.length_eq_one_iff.1 (by have:=HNL.out;omega)
     subst hy
     obtain rfl:mm=1:=by omega
     have HAX:=Lib.hid (show askF s.data.toList=.step ⟨5,v,0,0,⟨#[]⟩⟩ from by rw [HX.out];rfl)
     obtain ⟨rb,ro,rfl,hcell⟩:=row_cell HROWN.out (by simp)
     have hv:wr.cell? ⟨rb,ro,none⟩=some (.int .i64 v):=hcell 0 v rfl
     clear hcell hq HX HNL HNK
     have HC:=Lib.hid (rdo_c HQ.out HO.out HSM.out ⟨5,v,0,0,⟨#[]⟩⟩ ⟨by unfold i64ok;show (_:Int)≤0∧(0:Int) < _;omega,Nat.zero_le _⟩ (by have:=HLT.out;omega) HKw.out HLB.out)
     go_wp2_with fail
     refine HC.out.mono ?_
     rintro e w8 ⟨⟨u,rfl⟩,hp⟩
     have H8:=Lib.hid (HFIN.out _ _ _ hp)
     clear hp HC
     (go_wp2;refine bodyPost_end (results_none rfl _ _ _) rfl ?_;refine ⟨⟨_,rfl⟩,?_⟩;rw [HAX.out];exact H8.out)
   rw [show isB y0 ⟨#[104,101,97,114]⟩ mm 1=false from decide_eq_false ht]
   have HT3:=Lib.hid ht
   clear ht
   go_wp2_with fail
   refine (is_c _ oL HNP.out oY nN _ _).mono ?_
   rintro e wz ⟨rfl,hwz⟩
   rw [hwz]
   clear hwz
   by_cases ht:y0=⟨#[99,108,101,97,114]⟩∧(mm:Int)=1
   ·rw [show isB y0 ⟨#[99,108,101,97,114]⟩ mm 1=true from decide_eq_true ht]
    as_aux_lemma=>
     obtain ⟨hy,hq⟩:=ht
     obtain ⟨v,rfl⟩:∃ v,ns=[v]:=List.length_eq_one_iff.1 (by have:=HNL.out;omega)
     subst hy
     obtain rfl:mm=1:=by omega
     have HAX:=Lib.hid (show askF s.data.toList=.step ⟨6,v,0,0,⟨#[]⟩⟩ from by rw [HX.out];rfl)
     obtain ⟨rb,ro,rfl,hcell⟩:=row_cell HROWN.out (by simp)
     have hv:wr.cell? ⟨rb,ro,none⟩=some (.int .i64 v):=hcell 0 v rfl
     clear hcell hq HX HNL HNK
     have HC:=Lib.hid (rdo_c HQ.out HO.out HSM.out ⟨6,v,0,0,⟨#[]⟩⟩ ⟨by unfold i64ok;show (_:Int)≤0∧(0:Int) < _;omega,Nat.zero_le _⟩ (by have:=HLT.out;omega) HKw.out HLB.out)
     go_wp2_with fail
     refine HC.out.mono ?_
     rintro e w8 ⟨⟨u,rfl⟩,hp⟩
     have H8:=Lib.hid (HFIN.out _ _ _ hp)
     clear hp HC
     (go_wp2;refine bodyPost_end (results_none rfl _ _ _) rfl ?_;refine ⟨⟨_,rfl⟩,?_⟩;rw [HAX.out];exact H8.out)
   rw [show isB y0 ⟨#[99,108,101,97,114]⟩ mm 1=false from decide_eq_false ht]
   have HT4:=Lib.hid ht
   clear ht
   go_wp2_with fail
   refine (is_c _ oL HNP.out oY nN _ _).mono ?_
   rintro e wz ⟨rfl,hwz⟩
   rw [hwz]
   clear hwz
   by_cases ht:y0=⟨#[108,101,97,118,101]⟩∧(mm:Int)=1
   ·rw [show isB y0 ⟨#[108,101,97,118,101]⟩ mm 1=true from decide_eq_true ht]
    as_aux_lemma=>
     obtain ⟨hy,hq⟩:=ht
     obtain ⟨v,rfl⟩:∃ v,ns=[v]:=List.length_eq_one_iff.1 (by have:=HNL.out;omega)
     subst hy
     obtain rfl:mm=1:=by omega
     have HAX:=Lib.hid (show askF s.data.toList=.step ⟨7,v,0,0,⟨#[]⟩⟩ from by rw [HX.out];rfl)
     obtain ⟨rb,ro,rfl,hcell⟩:=row_cell HROWN.out (by simp)
     have hv:wr.cell? ⟨rb,ro,none⟩=some (.int .i64 v):=hcell 0 v rfl
     clear hcell hq HX HNL HNK
     have HC:=Lib.hid (rdo_c HQ.out HO.out HSM.out ⟨7,v,0,0,⟨#[]⟩⟩ ⟨by unfold i64ok;show (_:Int)≤0∧(0:Int) < _;omega,Nat.zero_le _⟩ (by have:=HLT.out;omega) HKw.out HLB.out)
     go_wp2_with fail
     refine HC.out.mono ?_
     rintro e w8 ⟨⟨u,rfl⟩,hp⟩
     have H8:=Lib.hid (HFIN.out _ _ _ hp)
     clear hp HC
     (go_wp2;refine bodyPost_end (results_none rfl _ _ _) rfl ?_;refine ⟨⟨_,rfl⟩,?_⟩;rw [HAX.out];exact H8.out)
   rw [show isB y0 ⟨#[108,101,97,118,101]⟩ mm 1=false from decide_eq_false ht]
   have HT5:=Lib.hid ht
   clear ht
   go_wp2_with fail
   refine (is_c _ oL HNP.out oY nN _ _).mono ?_
   rintro e wz ⟨rfl,hwz⟩
   rw [hwz]
   clear hwz
   by_cases ht:y0=⟨#[116,101,120,116]⟩∧(mm:Int)=1
   ·rw [show isB y0 ⟨#[116,101,120,116]⟩ mm 1=true from decide_eq_true ht]
    as_aux_lemma=>
     obtain ⟨hy,hq⟩:=ht
     obtain ⟨v,rfl⟩:∃ v,ns=[v]:=List.length_eq_one_iff.1 (by have:=HNL.out;omega)
     subst hy
     obtain rfl:mm=1:=by omega
     have HAX:=Lib.hid (show askF s.data.toList=.text v from by rw [HX.out];rfl)
     obtain ⟨rb,ro,rfl,hcell⟩:=row_cell HROWN.out (by simp)
     have hv:wr.cell? ⟨rb,ro,none⟩=some (.int .i64 v):=hcell 0 v rfl
     clear hcell hq HX HNL HNK
     cases hw:d.writer v with
     | none=>
      have HTE:=Lib.hid (show tellK d (.text v)=(d,[codeL 5]) from by simp only [tellK,hw])
      have HC:=Lib.hid (rscribe_none HQ.out v hw HLT.out HKw.out)
      clear hw
      go_wp2_with fail
      refine HC.out.mono ?_
      rintro e w8 ⟨rfl,hp⟩
      have H8:=Lib.hid (show RdP w base F g (tellK d (.text v)).1 (t++linesS (tellK d (.text v)).2) w8 from by rw [HTE.out];exact HFIN.out _ _ _ hp)
      clear hp HC
      (go_wp2;refine bodyPost_end (results_none rfl _ _ _) rfl ?_;refine ⟨⟨_,rfl⟩,?_⟩;rw [HAX.out];exact H8.out)
     | some m=>
      have HTE:=Lib.hid (show tellK d (.text v)=(d,[textB++32 :: strL m.view]) from by simp only [tellK,hw])
      obtain ⟨gt,gs,FT,gw,c1g,htn,hgs,hte,_⟩:=HQ.out.scr HO.out HSM.out hw
      have HSC:=Lib.hid (rscribe_some c1g htn v hw)
      rw [← hgs] at HSC
      have HTX:=Lib.hid hte
      have HVL:=Lib.hid (show m.view.length≤200 from by
       obtain ⟨_,_,_,tm,hin⟩:=HO.out.of_writer hw
       have hcl:=hin.chars_len HO.out.lm
       have e:m.view.length=(vis m.seen m.me m.chars).length:=viewN_length _ _ _
       have e2:(vis m.seen m.me m.chars).length≤m.chars.length:=List.length_filter_le _ _
       omega)
      clear hw htn hte hgs c1g
      go_wp2_with fail
      refine HSC.out.mono ?_
      rintro e w8 ⟨rfl,hw8⟩
      rw [hw8]
      clear hw8 HSC
      go_wp2_with fail
      refine (HTX.out _ (Below.refl _ _)).mono ?_
      rintro e w9 ⟨rfl,hb9⟩
      have HSZV:=Lib.hid (show (strOfNums m.view).size=m.view.length from strOfNums_size _)
      have HSY:=Lib.hid (rsayP_c (RdP.start HQ.out hb9) (⟨#[116,101,120,116,32]⟩++strOfNums m.view) (textB++32 :: strL m.view) (by simp [textB,strL]) (by have:=HLT.out;have:=HVL.out;have:=HSZV.out;rw [txt_size];omega))
      clear hb9 HTX hv
      go_wp2_with fail
      ·exfalso;have:=HVL.out;have:=HSZV.out;omega
      refine HSY.out.mono ?_
      intro e w10 hq
      obtain ⟨⟨u,hu⟩,h9⟩:=hq
      subst hu
      have H9:=Lib.hid (show RdP w base F g (tellK d (.text v)).1 (t++linesS (tellK d (.text v)).2) w10 from by rw [HTE.out];exact HFIN.out _ _ _ h9)
      clear h9 HSY
      (go_wp2;refine bodyPost_end (results_none rfl _ _ _) rfl ?_;refine ⟨⟨_,rfl⟩,?_⟩;rw [HAX.out];exact H9.out)
   rw [show isB y0 ⟨#[116,101,120,116]⟩ mm 1=false from decide_eq_false ht]
   have HT6:=Lib.hid ht
   clear ht
   go_wp2_with fail
   refine (is_c _ oL HNP.out oY nN _ _).mono ?_
   rintro e wz ⟨rfl,hwz⟩
   rw [hwz]
   clear hwz
   by_cases ht:y0=⟨#[116,101,120,116]⟩∧(mm:Int)=0
   ·rw [show isB y0 ⟨#[116,101,120,116]⟩ mm 0=true from decide_eq_true ht]
    as_aux_lemma=>
     obtain ⟨hy,hq⟩:=ht
     obtain rfl:ns=[]:=List.length_eq_zero_iff.1 (by have:=HNL.out;omega)
     subst hy
     obtain rfl:mm=0:=by omega
     have HAX:=Lib.hid (show askF s.data.toList=.all from by rw [HX.out];rfl)
     clear hq HX HNL HNK HROWN
     obtain ⟨gt,gl,FL,a6,cap6,e1,e2,e3,hbk,_⟩:=HQ.out.book
     have HCH:=Lib.hid (BChars_c hbk HO.out.lm)
     have HVL:=Lib.hid (show d.lm.view.length≤200∧∀ c∈d.lm.chars,i64ok c.Gone from by
      have hmd:=HO.out.lm.lok.made _ (Nat.le_refl _)
      rw [pre_len] at hmd
      refine ⟨?_,fun c hc=>?_⟩
      ·unfold LogM.view textF
       rw [viewN_length]
       exact Nat.le_trans (List.length_filter_le _ _) hmd.max
      ·have:=bad1_false (hmd.good c hc).b1
       unfold i64ok;omega)
     clear hbk e3
     go_wp2_with fail
     refine HCH.out.mono ?_
     rintro e w8 ⟨a8,cap8,rfl,ho8,hb8⟩
     have HO8:=Lib.hid ho8
     have HB8:=Lib.hid hb8
     clear ho8 hb8 HCH
     go_wp2_with fail
     refine (RTextOf_c a8 cap8 d.lm.chars _ HO8.out.slCh HVL.out.2).mono ?_
     rintro e w9 ⟨rfl,hb9⟩
     have HSZV:=Lib.hid (show (strOfNums d.lm.view).size=d.lm.view.length from strOfNums_size _)
     have HSY:=Lib.hid (rsayP_c (RdP.start HQ.out (HB8.out.trans (hb9.mono HB8.out.size))) (⟨#[116,101,120,116,32]⟩++strOfNums d.lm.view) (textB++32 :: strL d.lm.view) (by simp [textB,strL]) (by have:=HLT.out;have:=HVL.out.1;have:=HSZV.out;rw [txt_size];omega))
     rw [show textF d.lm.chars=d.lm.view from rfl]
     clear hb9 HB8 HO8
     go_wp2_with fail
     ·exfalso;have:=HVL.out.1;have:=HSZV.out;omega
     refine HSY.out.mono ?_
     intro e w10 hq
     obtain ⟨⟨u,hu⟩,h9⟩:=hq
     subst hu
     have H9:=Lib.hid (HFIN.out _ _ _ h9)
     clear h9 HSY
     (go_wp2;refine bodyPost_end (results_none rfl _ _ _) rfl ?_;refine ⟨⟨_,rfl⟩,?_⟩;rw [HAX.out];exact H9.out)
   rw [show isB y0 ⟨#[116,101,120,116]⟩ mm 0=false from decide_eq_false ht]
   have HT7:=Lib.hid ht
   clear ht
   go_wp2_with fail
   refine (is_c _ oL HNP.out oY nN _ _).mono ?_
   rintro e wz ⟨rfl,hwz⟩
   rw [hwz]
   clear hwz
   by_cases ht:y0=⟨#[111,112,101,110]⟩∧(mm:Int)=1
   ·rw [show isB y0 ⟨#[111,112,101,110]⟩ mm 1=true from decide_eq_true ht]
    as_aux_lemma=>
     obtain ⟨hy,hq⟩:=ht
     obtain ⟨v,rfl⟩:∃ v,ns=[v]:=List.length_eq_one_iff.1 (by have:=HNL.out;omega)
     subst hy
     obtain rfl:mm=1:=by omega
     have HAX:=Lib.hid (show askF s.data.toList=.opn v from by rw [HX.out];rfl)
     obtain ⟨rb,ro,rfl,hcell⟩:=row_cell HROWN.out (by simp)
     have hv:wr.cell? ⟨rb,ro,none⟩=some (.int .i64 v):=hcell 0 v rfl
     clear hcell hq HX HNL HNK
     cases hw:d.writer v with
     | none=>
      have HTE:=Lib.hid (show tellK d (.opn v)=(d,[codeL 5]) from by simp only [tellK,hw])
      have HC:=Lib.hid (rscribe_none HQ.out v hw HLT.out HKw.out)
      clear hw
      go_wp2_with fail
      refine HC.out.mono ?_
      rintro e w8 ⟨rfl,hp⟩
      have H8:=Lib.hid (show RdP w base F g (tellK d (.opn v)).1 (t++linesS (tellK d (.opn v)).2) w8 from by rw [HTE.out];exact HFIN.out _ _ _ hp)
      clear hp HC
      (go_wp2;refine bodyPost_end (results_none rfl _ _ _) rfl ?_;refine ⟨⟨_,rfl⟩,?_⟩;rw [HAX.out];exact H8.out)
     | some m=>
      have HTE:=Lib.hid (show tellK d (.opn v)=(d,m.ds.map lineB++[endB]) from by simp only [tellK,hw])
      obtain ⟨gt,gs,FT,gw,c1g,htn,hgs,_,oa,oc,c4,hsl⟩:=HQ.out.scr HO.out HSM.out hw
      have HSC:=Lib.hid (rscribe_some c1g htn v hw)
      rw [← hgs] at HSC
      have HDC:=Lib.hid (rdeeds_c HQ.out m.ds (by obtain ⟨_,_,_,tm,hin⟩:=HO.out.of_writer hw;exact ds_fault hin HO.out.lm) (by have:=HSM.out.writer hw;unfold WM.ds;rw [List.length_map];omega) oa oc hsl HLT.out HKw.out HLB.out)
      clear hw htn hsl hgs c1g
      generalize m.ds=dd at *
      go_wp2_with fail
      refine HSC.out.mono ?_
      rintro e w8 ⟨rfl,hw8⟩
      rw [hw8]
      clear hw8 HSC
      go_wp2_with fail
      refine HDC.out.mono ?_
      rintro e w9 ⟨⟨u,rfl⟩,h9⟩
      have H9:=Lib.hid (show RdP w base F g (tellK d (.opn v)).1 (t++linesS (tellK d (.opn v)).2) w9 from by rw [HTE.out];exact HFIN.out _ _ _ (h9.post HQ.out.fg))
      clear h9 HDC
      (go_wp2;refine bodyPost_end (results_none rfl _ _ _) rfl ?_;refine ⟨⟨_,rfl⟩,?_⟩;rw [HAX.out];exact H9.out)
   rw [show isB y0 ⟨#[111,112,101,110]⟩ mm 1=false from decide_eq_false ht]
   have HT8:=Lib.hid ht
   clear ht
   go_wp2_with fail
   refine (is_c _ oL HNP.out oY nN _ _).mono ?_
   rintro e wz ⟨rfl,hwz⟩
   rw [hwz]
   clear hwz
   by_cases ht:y0=⟨#[108,111,103]⟩∧(mm:Int)=0
   ·rw [show isB y0 ⟨#[108,111,103]⟩ mm 0=true from decide_eq_true ht]
    as_aux_lemma=>
     obtain ⟨hy,hq⟩:=ht
     obtain rfl:ns=[]:=List.length_eq_zero_iff.1 (by have:=HNL.out;omega)
     subst hy
     obtain rfl:mm=0:=by omega
     have HAX:=Lib.hid (show askF s.data.toList=.log from by rw [HX.out];rfl)
     clear hq HX HNL HNK HROWN
     obtain ⟨gt,gl,FL,a6,cap6,e1,e2,e3,hbk,_,hsl⟩:=HQ.out.book
     have HDC:=Lib.hid (rdeeds_c HQ.out d.lm.L (log_fault HO.out.lm) (by have:=HO.out.lm.len;omega) a6 cap6 hsl HLT.out HKw.out HLB.out)
     clear hbk hsl
     go_wp2_with fail
     refine HDC.out.mono ?_
     rintro e w9 ⟨⟨u,rfl⟩,h9⟩
     have H9:=Lib.hid (HFIN.out _ _ _ (h9.post HQ.out.fg))
     clear h9 HDC
     (go_wp2;refine bodyPost_end (results_none rfl _ _ _) rfl ?_;refine ⟨⟨_,rfl⟩,?_⟩;rw [HAX.out];exact H9.out)
   rw [show isB y0 ⟨#[108,111,103]⟩ mm 0=false from decide_eq_false ht]
   have HT9:=Lib.hid ht
   clear ht
   go_wp2_with fail
   refine (is_c _ oL HNP.out oY nN _ _).mono ?_
   rintro e wz ⟨rfl,hwz⟩
   rw [hwz]
   clear hwz
   by_cases ht:y0=⟨#[116,104,101,110]⟩∧(mm:Int)=1
   ·rw [show isB y0 ⟨#[116,104,101,110]⟩ mm 1=true from decide_eq_true ht]
    as_aux_lemma=>
     obtain ⟨hy,hq⟩:=ht
     obtain ⟨v,rfl⟩:∃ v,ns=[v]:=List.length_eq_one_iff.1 (by have:=HNL.out;omega)
     subst hy
     obtain rfl:mm=1:=by omega
     have HAX:=Lib.hid (show askF s.data.toList=.thn v from by rw [HX.out];rfl)
     obtain ⟨rb,ro,rfl,hcell⟩:=row_cell HROWN.out (by simp)
     have hv:wr.cell? ⟨rb,ro,none⟩=some (.int .i64 v):=hcell 0 v rfl
     clear hcell hq HX HNL HNK
     obtain ⟨gt,gl,FL,a6,cap6,e1,e2,e3,hbk,hsd,_⟩:=HQ.out.book
     clear hbk
     by_cases hn:0≤v∧v≤d.lm.L.length
     case neg=>
      have HTE:=Lib.hid (show tellK d (.thn v)=(d,[codeL 5]) from by simp only [tellK];rw [if_neg hn])
      have HV:=Lib.hid (show v < 0∨(d.lm.L.length:Int) < v from by omega)
      have H5L:=Lib.hid (no_len (c:=5) (by omega))
      have HNC:=Lib.hid (no_code (c:=5) (by omega))
      clear hn hsd
      go_upto_region 45 with fail
      have X1:=later_cell e1
      have X2:=later_cell e2
      have X3:=later_cell e3
      have XN:=later_cell nN
      have XV:=later_cell hv
      have hL:∀ q:Lt wr,Later wr q.v:=fun q=>q.h
      clear e1 e2 e3 nN hv oL oY
      refine wp_region_x [] [] [0,1,2,3,4,5,6,7,8,9,10,11,12,13,14,15,16,17,18,19,20] (by kernel_rfl) (by kernel_rfl) ?_
      iterate 13 (refine wpX_step rfl (fun K hK=>?_);go_simp;refine hK _ _ ?_;clear hK K)
      refine wpX_step rfl (fun K hK=>?_)
      go_simp
      refine ⟨_,fun p=>quietM p (Told_no v HV.out),hK _ _ ?_⟩
      clear hK K
      iterate 7 (refine wpX_step rfl (fun K hK=>?_);go_simp;refine hK _ _ ?_;clear hK K)
      refine wpX_nil ?_
      intro w8 hL8
      have HB8:=Lib.hid (show Below wr.heap.size wr w8 from hL8)
      clear hL8 hL X1 X2 X3 XN XV
      go_wp2_with fail
      refine (rnum_c 5 (by unfold i64ok;omega) _ (HKw.out.later HB8.out)).mono ?_
      rintro e w9 ⟨rfl,hb9⟩
      have HSY:=Lib.hid (rsayP_c (RdP.start HQ.out (HB8.out.trans (hb9.mono HB8.out.size))) (⟨#[110,111,32]⟩++⟨(Lib.itoa 5).toArray⟩) (codeL 5) HNC.out (by have:=HLT.out;have:=H5L.out;rw [no_size];omega))
      clear hb9 HB8
      go_wp2_with fail
      ·exfalso;have:=H5L.out;omega
      refine HSY.out.mono ?_
      intro e w10 hq
      obtain ⟨⟨u,hu⟩,h9⟩:=hq
      subst hu
      have H9:=Lib.hid (show RdP w base F g (tellK d (.thn v)).1 (t++linesS (tellK d (.thn v)).2) w10 from by rw [HTE.out];exact HFIN.out _ _ _ h9)
      clear h9 HSY
      go_wp2
      refine bodyPost_ret (results_none rfl _ _ _) rfl ?_
      refine ⟨⟨_,rfl⟩,?_⟩
      rw [HAX.out]
      exact H9.out
     case pos=>
      obtain ⟨n,rfl⟩:∃ n:Nat,v=(n:Int):=⟨v.toNat,by omega⟩
      have hnL:n≤d.lm.L.length:=by omega
      have HTE:=Lib.hid (show tellK d (.thn (n:Int))=(d,[textB++32 :: strL (txtL d.lm.L n),byB++bysS (bysL d.lm.L n)]) from by simp only [tellK];rw [if_pos hn];simp)
      have HTD:=Lib.hid (fun (W:World) (hW:Later wr W)=>Told_c (hsd.below hW) n hnL HO.out.lm.lok)
      obtain ⟨hb200,ht200,hbys⟩:=bysL_small HO.out.lm.lok n hnL
      have HBS:=Lib.hid hbys
      have HT2:=Lib.hid ht200
      clear hn hsd hnL hbys ht200
      generalize txtL d.lm.L n=tx at *
      generalize bysL d.lm.L n=bs at *
      have HSZT:=Lib.hid (show (strOfNums tx).size=tx.length from strOfNums_size _)
      go_upto_region 45 with fail
      have X1:=later_cell e1
      have X2:=later_cell e2
      have X3:=later_cell e3
      have XN:=later_cell nN
      have XV:=later_cell hv
      have hL:∀ q:Lt wr,Later wr q.v:=fun q=>q.h
      clear e1 e2 e3 nN hv oL oY
      refine wp_region_x [13] [] [0,1,2,3,4,5,6,7,8,9,10,11,12,13,14,15,16,17,18,19,20] (by kernel_rfl) (by kernel_rfl) ?_
      iterate 13 (refine wpX_step rfl (fun K hK=>?_);go_simp;refine hK _ _ ?_;clear hK K)
      refine wpX_step rfl (fun K hK=>?_)
      go_simp
      intro p
      refine (HTD.out p.v (hL p)).mono ?_
      rintro e w8 ⟨a8,cap8,rfl,ho8,hb8⟩
      refine ⟨_,rfl,hb8,hK _ _ ?_⟩
      clear hK K
      have HB8:=Lib.hid (show Below wr.heap.size wr w8 from Below.trans (hL p) (hb8.mono (hL p).size))
      have HRW:=Lib.hid (show OwnRow w8 wr.heap.size 3 1 a8 bs.length cap8 (bs.map (Value.int .i64)) from ho8.mono (hL p).size)
      clear ho8 hb8 p hL X1 X2 X3 XN XV
      iterate 7 (refine wpX_step rfl (fun K hK=>?_);go_simp;refine hK _ _ ?_;clear hK K)
      refine wpX_nil ?_
      intro w9 hL9
      have HB9:=Lib.hid (show Below wr.heap.size wr w9 from HB8.out.trans (Below.mono hL9 HB8.out.size))
      have HRW9:=Lib.hid (HRW.out.below hL9)
      clear HRW HB8 hL9
      have HQ9:=Lib.hid (HQ.out.later HB9.out)
      have HK9:=Lib.hid (HKw.out.later HB9.out)
      have HGL:=Lib.hid HQ.out.lt
      have HSY:=Lib.hid (rsayS_c (RdS.start HQ9.out (Below.refl w9.heap.size w9)) (⟨#[116,101,120,116,32]⟩++strOfNums tx) (textB++32 :: strL tx) (by simp [textB,strL]) (by have:=HLT.out;have:=HT2.out;have:=HSZT.out;rw [txt_size];omega))
      go_wp2_with fail
      ·exfalso;have:=HT2.out;have:=HSZT.out;omega
      refine HSY.out.mono ?_
      intro e w10 hq
      obtain ⟨⟨u,hu⟩,h10⟩:=hq
      subst hu
      have H10:=Lib.hid h10
      have HROW:=Lib.hid (show OwnRow w10 wr.heap.size 3 1 a8 bs.length cap8 (bs.map (Value.int .i64)) from HRW9.out.moves h10.2 (fun k hk e=>by have:=(HRW9.out.base_le k hk).1;have:=HGL.out;omega))
      have HK10:=Lib.hid (HK9.out.laterB HLB.out (h10.bel HQ9.out))
      have HBE:=Lib.hid (Below.refl w10.heap.size w10)
      clear h10 HSY HRW9 HK9
      go_wp2
      go_loopw [28,29] (fun s28 s29 wx=>∃ (k:Nat),k≤bs.length∧s29=(.int .i64 (k:Int))∧s28=.string ⟨(byB++bysS (bs.take k)).toArray⟩∧Hid (Below w10.heap.size w10 wx)) (fun _ s29 _=>bs.length - (intOf s29).toNat)
      case atStart=>exact ⟨0,Nat.zero_le _,rfl,rfl,HBE⟩
      case round=>
       obtain ⟨k,hk,rfl,rfl,HBr⟩:=hrel
       rename World=>wx
       clear HBE
       have HSZ:=Lib.hid (bysS_le bs hb200 HBS.out k)
       have hwk:IntKind.i64.wrap ((k:Int)+1)=(k:Int)+1:=by rw [IntKind.wrap_i64];omega
       by_cases hlt:k < bs.length
       ·have hlt' : (k:Int) < (bs.length:Int):=by omega
        have hk0:(0:Int)≤(k:Int):=by omega
        obtain ⟨b9,off9,rfl,_,_,hcell⟩:=(HROW.out.below HBr.out).cell (by rw [List.length_map];omega)
        have hx:=hcell k (.int .i64 (bs[k])) (by simp [hlt])
        have HV:=Lib.hid (HBS.out bs[k] (List.getElem_mem hlt))
        have HTK:=Lib.hid (bysS_take bs k hlt)
        have HKr:=Lib.hid (HK10.out.later HBr.out)
        clear hcell
        generalize bs[k]=v at *
        have HI21:=Lib.hid (itoa21 (n:=v) (by have:=HV.out;unfold i64ok;omega))
        go_wp2_with fail
        refine (rnum_c v (by have:=HV.out;unfold i64ok;omega) _ HKr.out).mono ?_
        rintro e w12 ⟨rfl,hb12⟩
        have HB12:=Lib.hid (HBr.out.trans (hb12.mono HBr.out.size))
        have HZ:=Lib.hid (show (byB++bysS (bs.take k)).length≤5000 from by have:=HSZ.out;simp [byB];omega)
        clear hb12 HBr HKr hx
        go_wp2
        ·exfalso;have:=HI21.out;simp at *;omega
        ·exfalso;have:=HI21.out;have:=HZ.out;simp at *;omega
        exact ⟨⟨k+1,by omega,by go_num,congrArg Value.string (ba_ext (by rw [HTK.out];simp)),HB12⟩,by simp [intOf];omega⟩
       ·obtain rfl:k=bs.length:=by omega
        have hltB:decide ((bs.length:Int) < (bs.length:Int))=false:=by simp
        have HZ:=Lib.hid (show (byB++bysS bs).length≤5000 from by have:=HSZ.out;rw [List.take_length] at this;simp [byB];omega)
        rw [List.take_length]
        have HSY:=Lib.hid (rsayS_c (H10.out.later HBr.out) ⟨(byB++bysS bs).toArray⟩ (byB++bysS bs) (by simp) (by have:=HLT.out;have:=HZ.out;have:=HT2.out;have:=strL_len tx;show _+(byB++bysS bs).toArray.size≤_;rw [List.size_toArray];simp only [List.length_append,List.length_cons,List.length_nil] at *;have:textB.length=4:=rfl;omega))
        clear HBr H10 HROW
        go_wp2_with fail
        refine HSY.out.mono ?_
        intro e w13 hq
        obtain ⟨⟨u,hu⟩,h13⟩:=hq
        subst hu
        have H9:=Lib.hid (show RdP w base F g (tellK d (.thn (n:Int))).1 (t++linesS (tellK d (.thn (n:Int))).2) w13 from by
         rw [HTE.out]
         exact HFIN.out _ _ _ (RdP.after HB9.out ((h13.post HQ9.out.fg).congr rfl (by simp [linesS]))))
        clear h13 HSY
        (go_wp2;refine bodyPost_end (results_none rfl _ _ _) rfl ?_;refine ⟨⟨_,rfl⟩,?_⟩;rw [HAX.out];exact H9.out)
   rw [show isB y0 ⟨#[116,104,101,110]⟩ mm 1=false from decide_eq_false ht]
   have HT10:=Lib.hid ht
   clear ht
   go_wp2_with fail
   refine (is_c _ oL HNP.out oY nN _ _).mono ?_
   rintro e wz ⟨rfl,hwz⟩
   rw [hwz]
   clear hwz
   by_cases ht:y0=⟨#[115,101,116,116,108,101]⟩∧(mm:Int)=0
   ·rw [show isB y0 ⟨#[115,101,116,116,108,101]⟩ mm 0=true from decide_eq_true ht]
    as_aux_lemma=>
     obtain ⟨hy,hq⟩:=ht
     obtain rfl:ns=[]:=List.length_eq_zero_iff.1 (by have:=HNL.out;omega)
     subst hy
     obtain rfl:mm=0:=by omega
     have HAX:=Lib.hid (show askF s.data.toList=.settle from by rw [HX.out];rfl)
     clear hq HX HNL HNK HROWN
     obtain ⟨gt,FT,gw,e1,htn,hz⟩:=HQ.out.townZ
     have HC:=Lib.hid ((TSettle_c htn HO.out HSM.out).mono (fun e w' hq=>(by
      obtain ⟨hv,F',gw',k1,k2,k3⟩:=hq
      exact ⟨hv,hz w' F' gw' _ k1 k2 k3⟩:(∃ v,e=.returned v)∧RdP wr base F g (settle d) t w')))
     clear htn hz
     go_wp2_with fail
     refine HC.out.mono ?_
     rintro e w8 ⟨⟨u,rfl⟩,hp⟩
     have HSY:=Lib.hid (rsayP_c hp ⟨#[111,107]⟩ okB rfl (by have:=HLT.out;show t.length+2≤_;omega))
     clear hp HC e1
     go_wp2_with fail
     refine HSY.out.mono ?_
     intro e w9 hq
     obtain ⟨⟨u,hu⟩,h9⟩:=hq
     subst hu
     have H9:=Lib.hid (HFIN.out _ _ _ h9)
     clear h9 HSY
     (go_wp2;refine bodyPost_end (results_none rfl _ _ _) rfl ?_;refine ⟨⟨_,rfl⟩,?_⟩;rw [HAX.out];exact H9.out)
   rw [show isB y0 ⟨#[115,101,116,116,108,101]⟩ mm 0=false from decide_eq_false ht]
   have HT11:=Lib.hid ht
   clear ht
   go_wp2_with fail
   refine (is_c _ oL HNP.out oY nN _ _).mono ?_
   rintro e wz ⟨rfl,hwz⟩
   rw [hwz]
   clear hwz
   by_cases ht:y0=⟨#[108,101,97,115,116]⟩∧(mm:Int)=0
   ·rw [show isB y0 ⟨#[108,101,97,115,116]⟩ mm 0=true from decide_eq_true ht]
    as_aux_lemma=>
     obtain ⟨hy,hq⟩:=ht
     obtain rfl:ns=[]:=List.length_eq_zero_iff.1 (by have:=HNL.out;omega)
     subst hy
     obtain rfl:mm=0:=by omega
     have HAX:=Lib.hid (show askF s.data.toList=.least from by rw [HX.out];rfl)
     clear hq HX HNL HNK HROWN
     obtain ⟨gt,gl,FL,a6,cap6,e1,e2,e3,hbk,_⟩:=HQ.out.book
     have hm0:=HO.out.lm.least0
     have hm1:=d.lm.least_le
     have hm2:=HO.out.lm.len
     have HBK:=Lib.hid hbk
     have HN:=Lib.hid (show i64ok d.lm.least∧i64ok (d.lm.L.length:Int) from by unfold i64ok;omega)
     have HLN:=Lib.hid (show (Lib.itoa d.lm.least).length≤21∧(Lib.itoa (d.lm.L.length:Int)).length≤21 from ⟨itoa21 HN.out.1,itoa21 HN.out.2⟩)
     have HQC:=Lib.hid (fun (W:World) (hW:Later wr W)=>rsayP_c (RdP.start HQ.out hW) ⟨(leastB++32 :: (Lib.itoa d.lm.least++32 :: Lib.itoa (d.lm.L.length:Int))).toArray⟩ (leastB++32 :: (Lib.itoa d.lm.least++32 :: Lib.itoa (d.lm.L.length:Int))) (by simp) (by have:=HLT.out;have:=HLN.out;show t.length+(leastB++32 :: (Lib.itoa d.lm.least++32 :: Lib.itoa (d.lm.L.length:Int))).toArray.size≤_;rw [List.size_toArray];simp [leastB];omega))
     clear hbk hm0 hm1 hm2
     go_upto_region 59 with fail
     have X1:=later_cell e1
     have X2:=later_cell e2
     have X3:=later_cell e3
     have hL:∀ q:Lt wr,Later wr q.v:=fun q=>q.h
     clear e1 e2 e3 nN oL oY
     refine wp_region_x [] [25] [0,1,2,3,4,5,6,7,8,9,10,11,12,13,14,15,16,17,18,19,20,21,22,23,24,25] (by kernel_rfl) (by kernel_rfl) ?_
     iterate 8 (refine wpX_step rfl (fun K hK=>?_);go_simp;refine hK _ _ ?_;clear hK K)
     refine wpX_step rfl (fun K hK=>?_)
     go_simp
     refine ⟨_,fun p=>quietM_same p (BLeast_c (HBK.out.later (hL p))),hK _ _ ?_⟩
     clear hK K
     refine wpX_step rfl (fun K hK=>?_)
     go_simp
     refine ⟨_,fun p=>quietM p (rnum_c d.lm.least HN.out.1 p.v (HKw.out.later (hL p))),hK _ _ ?_⟩
     clear hK K
     (refine wpX_step rfl (fun K hK=>?_);go_simp;refine ⟨.string ⟨(leastB++[32]++Lib.itoa d.lm.least).toArray⟩,fun p=>?_,hK _ _ ?_⟩;(rw [if_neg (by have:=HLN.out;first | omega | (simp only [leastB,List.length_append,List.length_cons,List.length_nil];omega))];exact ⟨rfl,congrArg Value.string (ba_ext (by simp [leastB]))⟩);clear hK K)
     (refine wpX_step rfl (fun K hK=>?_);go_simp;refine ⟨.string ⟨(leastB++[32]++Lib.itoa d.lm.least++[32]).toArray⟩,fun p=>?_,hK _ _ ?_⟩;(rw [if_neg (by have:=HLN.out;first | omega | (simp only [leastB,List.length_append,List.length_cons,List.length_nil];omega))];exact ⟨rfl,congrArg Value.string (ba_ext (by simp [leastB]))⟩);clear hK K)
     iterate 11 (refine wpX_step rfl (fun K hK=>?_);go_simp;refine hK _ _ ?_;clear hK K)
     refine wpX_step rfl (fun K hK=>?_)
     go_simp
     refine ⟨_,fun p=>quietM p (rnum_c (d.lm.L.length:Int) HN.out.2 p.v (HKw.out.later (hL p))),hK _ _ ?_⟩
     clear hK K
     (refine wpX_step rfl (fun K hK=>?_);go_simp;refine ⟨.string ⟨(leastB++[32]++Lib.itoa d.lm.least++[32]++Lib.itoa (d.lm.L.length:Int)).toArray⟩,fun p=>?_,hK _ _ ?_⟩;(rw [if_neg (by have:=HLN.out;first | omega | (simp only [leastB,List.length_append,List.length_cons,List.length_nil];omega))];exact ⟨rfl,congrArg Value.string (ba_ext (by simp [leastB]))⟩);clear hK K)
     refine wpX_step rfl (fun K hK=>?_)
     go_simp
     intro p
     refine (HQC.out p.v (hL p)).mono ?_
     rintro e w8 ⟨⟨u,rfl⟩,hp⟩
     refine ⟨_,rfl,hK _ _ ?_⟩
     clear hK K
     have HP8:=Lib.hid (HFIN.out _ _ _ hp)
     clear hp p hL X1 X2 X3
     refine wpX_nil ?_
     intro w9 hL9
     have H9:=Lib.hid (HP8.out.later hL9)
     clear HP8 hL9
     (go_wp2;refine bodyPost_end (results_none rfl _ _ _) rfl ?_;refine ⟨⟨_,rfl⟩,?_⟩;rw [HAX.out];exact H9.out)
   rw [show isB y0 ⟨#[108,101,97,115,116]⟩ mm 0=false from decide_eq_false ht]
   have HT12:=Lib.hid ht
   clear ht
   have HAX:=Lib.hid (show askF s.data.toList=.what from by
    rw [HX.out]
    have hnl:=HNL.out
    exact what_all (by rw [hnl];exact HT0.out) (by rw [hnl];exact HT1.out) (by rw [hnl];exact HT2.out) (by rw [hnl];exact HT3.out) (by rw [hnl];exact HT4.out) (by rw [hnl];exact HT5.out) (by rw [hnl];exact HT6.out) (by rw [hnl];exact HT7.out) (by rw [hnl];exact HT8.out) (by rw [hnl];exact HT9.out) (by rw [hnl];exact HT10.out) (by rw [hnl];exact HT11.out) (by rw [hnl];exact HT12.out))
   have HSY:=Lib.hid (rsayP_c (RdP.start HQ.out (Below.refl _ _)) ⟨#[119,104,97,116]⟩ whatB rfl (by have:=HLT.out;show t.length+4≤_;omega))
   go_wp2_with fail
   refine HSY.out.mono ?_
   intro e w9 hq
   obtain ⟨⟨u,hu⟩,h9⟩:=hq
   subst hu
   have H9:=Lib.hid (HFIN.out _ _ _ h9)
   clear h9 HSY
   (go_wp2;refine bodyPost_end (results_none rfl _ _ _) rfl ?_;refine ⟨⟨_,rfl⟩,?_⟩;rw [HAX.out];exact H9.out)
end
end Go.Proofs.YtneoeokfffnonaaGreatDoor
