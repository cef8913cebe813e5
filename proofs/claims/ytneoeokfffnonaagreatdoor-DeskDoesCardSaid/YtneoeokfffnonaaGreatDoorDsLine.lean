/- A desk's line. -/
import Derived.Test.YtneoeokfffnonaaGreatDoorDsAsk
import Derived.Test.YtneoeokfffnonaaGreatDoorDsDel
set_option linter.unusedVariables false
set_option linter.unusedSimpArgs false
namespace Go.Proofs.YtneoeokfffnonaaGreatDoor
open Go.RowKit Go
theorem ba_len (x:ByteArray):x.data.toList.length=x.size:=by rw [Array.length_toList];rfl
theorem splitK_ne (k:Nat) (s:Str):1≤(Lib.splitK [32] 0 k s).length:=by
 cases k with
 | zero=>exact Nat.le_refl 1
 | succ k=>unfold Lib.splitK;split <;> simp
theorem four_box (s:ByteArray) (w:World) (ty:TypeId):∃ xs:List ByteArray,xs=Lib.splitB ⟨#[32]⟩ 0 (min 4 (s.size+1) - 1) s∧xs.map (·.data.toList)=Lib.splitN s.data.toList [32] 4∧xs.length≤min 4 (s.size+1)∧1≤xs.length∧SBox (w.alloc (.cells (Lib.cellsOf xs (min 4 (s.size+1))) ty)) w.heap.size xs:=by
 have h2:(Lib.splitB ⟨#[32]⟩ 0 (min 4 (s.size+1) - 1) s).map (·.data.toList)=Lib.splitN s.data.toList [32] 4:=by
  rw [Lib.splitB_data]
  unfold Lib.splitN
  simp
 refine ⟨_,rfl,h2,?_,?_,?_⟩
 ·have:=Lib.splitB_length_le ⟨#[32]⟩ 0 (min 4 (s.size+1) - 1) s
  omega
 ·have:=congrArg List.length h2
  rw [List.length_map] at this
  rw [this]
  exact splitK_ne _ _
 ·refine ⟨by simp,fun j x hx=>?_,fun j=>by simp⟩
  rw [World.cell?_alloc_new]
  have h6:=(List.getElem?_eq_some_iff.1 hx).1
  simp only [Lib.cellsOf,List.getElem?_toArray]
  rw [List.getElem?_append_left (by rw [List.length_map];exact h6),List.getElem?_map,hx]
  rfl
theorem four_words (s:ByteArray) (xs:List ByteArray) (hx:xs.map (·.data.toList)=Lib.splitN s.data.toList [32] 4) :
 (∃ k a b r:ByteArray,xs=[k,a,b,r]∧wordsF 3 s.data.toList=some ([k.data.toList,a.data.toList,b.data.toList],r.data.toList))∨(xs.length < 4∧askF s.data.toList=askW (wordsK s.data.toList)):=by
 rcases splitN_words 3 s.data.toList with ⟨ws,r,h1,h2,h3⟩ | ⟨h1,h2⟩
 ·rw [show (3+1:Nat)=4 from rfl] at h2
  rw [h2] at hx
  have hl:xs.length=4:=by have:=congrArg List.length hx;simp [h3] at this;exact this
  left
  match xs,hl with
  | [k,a,b,r'],_=>
   match ws,h3 with
   | [k1,a1,b1],_=>
    simp at hx
    obtain ⟨rfl,rfl,rfl,rfl⟩:=hx
    exact ⟨_,_,_,_,rfl,h1⟩
 ·right
  rw [show (3+1:Nat)=4 from rfl] at h2
  rw [← hx,List.length_map] at h2
  refine ⟨by omega,?_⟩
  unfold askF
  rw [h1]
theorem ask_put {s k a b r:Str} (h:wordsF 3 s=some ([k,a,b],r)):(k≠putB→askF s=askW (wordsK s))∧((numOf a=none∨numOf b=none)→askF s=askW (wordsK s))∧∀ A B,k=putB→numOf a=some A→numOf b=some B→askF s=.step ⟨2,A,B,0,⟨r.toArray⟩⟩:=by
 refine ⟨fun hk=>?_,fun hn=>?_,fun A B hk hA hB=>?_⟩
 ·unfold askF;rw [h];simp only;rw [if_neg hk]
 ·unfold askF;rw [h];simp only
  split
  ·rcases hn with hn | hn
   ·rw [hn]
   ·rw [hn];cases numOf a <;> rfl
  ·rfl
 ·unfold askF;rw [h];simp only;rw [if_pos hk,hA,hB]
theorem words4_len {s k a b r:Str} (h:wordsF 3 s=some ([k,a,b],r)):k.length≤s.length∧a.length≤s.length∧b.length≤s.length∧r.length≤s.length:=by
 have e:=words_eq 3 s _ r h
 rw [e]
 simp only [List.foldr_cons,List.foldr_nil,List.length_append,List.length_cons]
 omega
theorem notEmpty (c:ByteArray):(!c.toList.isEmpty)=decide (c.data.toList≠[]):=by
 rw [ByteArray.toList_eq]
 cases c.data.toList <;> rfl
theorem words_box (s:ByteArray):∃ xs:List ByteArray,xs=Lib.splitB ⟨#[32]⟩ 0 (Lib.countB s ⟨#[32]⟩) s∧xs.length=Lib.countB s ⟨#[32]⟩+1∧(xs.filter fun c=>!c.toList.isEmpty).map (·.data.toList)=wordsK s.data.toList:=by
 refine ⟨_,rfl,Lib.splitB_all ⟨#[32]⟩ (by decide) 0 _ s rfl,?_⟩
 rw [← words_split]
 have e:Lib.split s.data.toList [32]=(Lib.splitB ⟨#[32]⟩ 0 (Lib.countB s ⟨#[32]⟩) s).map (·.data.toList):=by
  rw [Lib.splitB_data];rfl
 rw [e,List.filter_map]
 congr 1
 apply List.filter_congr
 intro c _
 exact notEmpty c
theorem rowNew (w:World) (xs:List ByteArray) (vs:Array Value) (hv:vs=(xs.map Value.string).toArray) (hm:xs.length≤maxLen):OwnRow (w.alloc (.cells vs 9)) w.heap.size 9 1 (some ⟨w.heap.size,0,none⟩) xs.length xs.length (xs.map Value.string):=by
 refine ⟨Nat.le_refl _,hm,by simp,.inr ⟨w.heap.size,0,vs,rfl,Nat.le_refl _,(by show (w.heap.push _)[w.heap.size]? = _;simp),?_,?_⟩⟩
 ·rw [hv];simp
 ·rw [hv];simp only [List.drop_zero,Nat.mul_one];exact List.take_of_length_le (by simp)
theorem numsK_ok:∀ (l:List Str) (ns:List Int),numsK l=some ns→∀ k∈ns,i64ok k:=by
 intro l
 induction l with
 | nil=>intro ns h;cases h;intro k hk;cases hk
 | cons a l ih=>
  intro ns h
  change (match numOf a with | none=>none | some n=>(numsK l).map (n :: ·))=_ at h
  cases ha:numOf a with
  | none=>rw [ha] at h;cases h
  | some n=>
   rw [ha] at h
   cases hl:numsK l with
   | none=>rw [hl] at h;cases h
   | some ms=>
    rw [hl] at h
    cases h
    intro k hk
    rcases List.mem_cons.1 hk with rfl | hk
    ·rcases numOf_cases ⟨a.toArray⟩ with ⟨v,_,h2,_,h4⟩ | ⟨v,_,h2,_,_⟩ | ⟨_,h2⟩
     ·have e:numOf a=some v:=h2
      rw [ha] at e;cases e;exact h4
     ·have e:numOf a=none:=h2
      rw [ha] at e;cases e
     ·have e:numOf a=none:=h2
      rw [ha] at e;cases e
    ·exact ih ms hl k hk
theorem nums2 {a b:Str}:(numsK [a,b]=none→numOf a=none∨numOf b=none)∧∀ ns,numsK [a,b]=some ns→∃ A B,ns=[A,B]∧numOf a=some A∧numOf b=some B:=by
 have e:numsK [a,b]=match numOf a with | none=>none | some n=>(match numOf b with | none=>none | some m=>some [n,m]):=by
  show (match numOf a with | none=>none | some n=>(match numOf b with | none=>none | some m=>(some []).map (m :: ·)).map (n :: ·))=_
  cases numOf a <;> cases numOf b <;> rfl
 rw [e]
 cases numOf a with
 | none=>exact ⟨fun _=>.inl rfl,fun ns h=>(by cases h)⟩
 | some A=>
  cases numOf b with
  | none=>exact ⟨fun _=>.inr rfl,fun ns h=>(by cases h)⟩
  | some B=>exact ⟨fun h=>(by cases h),fun ns h=>(by cases h;exact ⟨A,B,rfl,rfl,rfl⟩)⟩
theorem askW_cons {w:Str} {l:List Str}:(numsK l=none→askW (w :: l)=.what)∧∀ n,numsK l=some n→askW (w :: l)=askN w n:=by
 constructor
 ·intro h;show (match numsK l with | none=>Ask.what | some n=>askN w n)=_;rw [h]
 ·intro n h;show (match numsK l with | none=>Ask.what | some n=>askN w n)=_;rw [h]
section
variable {w:World} {base:Nat} {F:Nat→Prop} {g:Nat} {d:DkM} {t:Str}
def LinePost (w:World) (base:Nat) (F:Nat→Prop) (g:Nat) (d:DkM) (t:Str) (x:Ask) (e:Ending) (w' : World):Prop:=(∃ u,e=.returned u)∧DsP w base F g (tellK d x).1 (t++linesS (tellK d x).2) w'
theorem askP_c {w1:World} (h:DsP w base F g d t w1) (ho:d.Ok) (hs:d.Sm 1000) (hl:t.length≤80000000) (hk:LibK w1) (hB:lowB≤base) (W:ByteArray) (ns:List Int) (hns:∀ k∈ns,i64ok k) {n B0 cap:Nat} {a:Option Addr} (hn:ns.length=n) (hr:OwnRow w1 B0 3 1 a n cap (ns.map (Value.int .i64))) :
 Calls Tryz.prog 27 #[.pointer (some ⟨g,0,none⟩),.string W,.slice a n cap] w1 (AskPost w base F g d t (askN W.data.toList ns)):=by
 subst hn
 obtain ⟨F1,k1,k2,k3⟩:=h
 refine (ask_c k1 ho hs hl hk hB W ns hns hr).mono ?_
 intro e w2 hq
 rcases hq with ⟨he,F2,q1,q2,q3⟩ | ⟨he,hx,F2,q1,q2,q3⟩
 ·exact .inl ⟨he,F2,q1,movesT k2 k3 q2,growsT k3 k2.size q3⟩
 ·exact .inr ⟨he,hx,F2,q1,movesT k2 k3 q2,growsT k3 k2.size q3⟩
theorem doP_c {w1:World} (h:DsP w base F g d t w1) (ho:d.Ok) (hs:d.Sm 1000) (x:DStep) (hx:x.ok') (hl:t.length≤90000000) (hk:LibK w1) (hB:lowB≤base) :
 Calls Tryz.prog 23 #[.pointer (some ⟨g,0,none⟩),.agg #[.int .i64 x.Kind,.int .i64 x.W,.int .i64 x.At,.int .i64 x.Many,.string x.Text]] w1 fun e w'=>(∃ u,e=.returned u)∧DsP w base F g (d.step x).1 (t++linesS [codeL (d.step x).2]) w':=by
 obtain ⟨F1,k1,k2,k3⟩:=h
 refine (do_c k1 ho hs x hx hl hk hB).mono ?_
 intro e w2 hq
 obtain ⟨hu,F2,q1,q2,q3⟩:=hq
 exact ⟨hu,F2,q1,movesT k2 k3 q2,growsT k3 k2.size q3⟩
set_option maxRecDepth 100000 in
set_option maxHeartbeats 2000000 in
theorem line_c (h:DsAt w base F g d t) (ho:d.Ok) (hs:d.Sm 1000) (hl:t.length≤80000000) (hk:LibK w) (hB:lowB≤base) (s:ByteArray) (hz:s.size≤9000) :
 Calls Tryz.prog 15 #[.pointer (some ⟨g,0,none⟩),.string s] w fun e w'=>LinePost w base F g d t (askF s.data.toList) e w':=by
 obtain ⟨m,hm⟩:=hk.mx
 have hSN:=Tryz.strings_SplitN s ⟨#[32]⟩ 4 m w (by omega) hm (by decide) (by decide) (by decide)
 obtain ⟨xs,hxs,hxm,hxl,hx1,hbox⟩:=four_box s w 9
 rw [← hxs] at hSN
 have hL0:=(Below.refl w.heap.size w).alloc (Nat.le_refl _) (.cells (Lib.cellsOf xs (min 4 (s.size+1))) 9)
 have HH:=Lib.hid h
 have HK:=Lib.hid hk
 have HLB:=Lib.hid hB
 have HO:=Lib.hid ho
 have HSM:=Lib.hid hs
 have HLT:=Lib.hid hl
 have HSZ:=Lib.hid hz
 have HSN:=Lib.hid hSN
 have HBX:=Lib.hid hbox
 have HXM:=Lib.hid hxm
 have HXL:=Lib.hid (And.intro hxl hx1)
 have HB0:=Lib.hid hL0
 clear hSN hbox hxm hxl hx1 hxs hm h hk hB ho hs hl hz hL0
 go_enter Tryz.func15,Tryz.ntmps15
 go_wp2_with fail
 refine HSN.out.mono ?_
 rintro e w1 ⟨rfl,hw1⟩
 have HBX1:=Lib.hid (show SBox w1 w.heap.size xs from by rw [hw1];exact HBX.out)
 have HB1:=Lib.hid (show Below w.heap.size w w1 from by rw [hw1];exact HB0.out)
 have HK1:=Lib.hid (HK.out.later HB1.out)
 have HP1:=Lib.hid (DsP.start HH.out HB1.out)
 have hcap:xs.length≤min 4 (s.size+1):=HXL.out.1
 have hone:1≤xs.length:=HXL.out.2
 clear hw1 HB0 HSN HXL HBX
 generalize hBq:w.heap.size=B at HBX1 ⊢
 have HBQ:=Lib.hid hBq
 clear hBq
 generalize min 4 (s.size+1)=cap at hcap ⊢
 have HF4:=Lib.hid (four_words s xs HXM.out)
 go_upto_region 1 with fail
 go_cut [20] (fun s20 wx=>∃ b20:Bool,s20=.bool b20∧wx=w1∧Hid ((b20=true∧∃ a b r:ByteArray,xs=[⟨#[112,117,116]⟩,a,b,r]∧wordsF 3 s.data.toList=some ([putB,a.data.toList,b.data.toList],r.data.toList))∨(b20=false∧askF s.data.toList=askW (wordsK s.data.toList))))
 case first=>
  rcases HF4.out with ⟨k,a,b,r,rfl,hws⟩ | ⟨h4,hpf⟩
  ·have HWS:=Lib.hid hws
   have c0:=HBX1.out.c 0 k rfl
   clear hws
   by_cases hk:k=⟨#[112,117,116]⟩
   ·subst hk
    go_wp2_with fail
    go_meet
    exact ⟨true,rfl,rfl,Lib.hid (.inl ⟨rfl,a,b,r,rfl,HWS.out⟩)⟩
   ·have hkL:(k.toList==[112,117,116])=false:=ne_list hk
    have HR:=Lib.hid ((ask_put HWS.out).1 fun e=>hk (ba_lit e))
    go_wp2_with fail
    go_meet
    exact ⟨false,rfl,rfl,Lib.hid (.inr ⟨rfl,HR.out⟩)⟩
  ·have HR:=Lib.hid hpf
   clear hpf
   match xs,hone,h4,HBX1,hcap with
   | x0 :: l,_,h4,HBX1,hcap=>
    have c0:=HBX1.out.c 0 x0 rfl
    have hll:¬ ((l.length:Int)+1=4):=by simp at h4;omega
    have hlD:((l.length:Int)+1==4)=false:=by simpa using hll
    by_cases hk:x0=⟨#[112,117,116]⟩
    ·subst hk
     go_wp2_with fail
     go_meet
     exact ⟨false,rfl,rfl,Lib.hid (.inr ⟨rfl,HR.out⟩)⟩
    ·have hkL:(x0.toList==[112,117,116])=false:=ne_list hk
     go_wp2_with fail
     go_meet
     exact ⟨false,rfl,rfl,Lib.hid (.inr ⟨rfl,HR.out⟩)⟩
 case rest=>
 obtain ⟨b20,rfl,rfl,HC20⟩:=hcut
 clear HF4
 go_upto_if 20 with fail
 go_cut [5,6] (fun _ _ wx=>Hid (DsP w base F g d t wx∧LibK wx)∧Hid (askF s.data.toList=askW (wordsK s.data.toList)))
 case first=>as_aux_lemma=>
  rcases HC20.out with ⟨rfl,a,b,r,rfl,hws⟩ | ⟨rfl,hpf⟩
  ·have HWS:=Lib.hid hws
   have HLN:=Lib.hid (words4_len hws)
   have hc4:4≤cap:=hcap
   have hc4i:(4:Int)≤(cap:Int):=by omega
   have hc1:¬ cap=1:=by omega
   have c3:=HBX1.out.c 3 r rfl
   have HSL:=Lib.hid (show SlS _ B 1 2 (cap - 1) [a,b] from ⟨HBX1.out.lt,rfl,by omega,fun j x hx=>by rw [Nat.add_comm];exact HBX1.out.c (j+1) x (by
    have hj:=(List.getElem?_eq_some_iff.1 hx).1
    rcases (show j=0∨j=1 by simp at hj;omega) with rfl | rfl <;> simpa using hx)⟩)
   have HRZ:=Lib.hid (show r.size≤maxLen from by
    have:=HLN.out.2.2.2
    have h2:=HSZ.out
    have e1:=ba_len r
    have e2:=ba_len s
    unfold maxLen;omega)
   have HAB:=Lib.hid (show ∀ x∈[a,b],x.size≤1000000 from fun x hx=>by
    have h2:=HSZ.out
    have e2:=ba_len s
    simp only [List.mem_cons,List.not_mem_nil,or_false] at hx
    rcases hx with rfl | rfl
    ·have:=HLN.out.2.1
     have e1:=ba_len x
     omega
    ·have:=HLN.out.2.2.1
     have e1:=ba_len x
     omega)
   clear hws HC20 hcap hone
   go_wp2_with fail
   refine (numbers_c _ HSL.out HAB.out (by omega) HK1.out).mono ?_
   rintro e w3 ⟨hb3,h3⟩
   have HP3:=Lib.hid (HP1.out.later hb3)
   have HK3:=Lib.hid (HK1.out.later hb3)
   have HBX3:=Lib.hid (HBX1.out.later hb3)
   rcases h3 with ⟨hn,rfl⟩ | ⟨ns,a',cap',hn,rfl,hrow⟩
   ·have HA:=Lib.hid ((ask_put HWS.out).2.1 (nums2.1 hn))
    clear hb3 hn c3
    go_wp2
    go_meet
    exact ⟨Lib.hid ⟨HP3.out,HK3.out⟩,HA⟩
   ·obtain ⟨vA,vB,rfl,hA,hB2⟩:=nums2.2 ns hn
    have HA:=Lib.hid (show askF s.data.toList=.step ⟨2,vA,vB,0,r⟩ from by
     rw [(ask_put HWS.out).2.2 vA vB rfl hA hB2])
    obtain ⟨bb,off,rfl,hcell⟩:=row_cell hrow (by simp)
    have hcA:w3.cell? ⟨bb,off,none⟩=some (.int .i64 vA):=hcell 0 vA rfl
    have hcB:=hcell 1 vB rfl
    have hc3:=HBX3.out.c 3 r rfl
    clear hb3 hn c3 hcell hrow hA hB2
    go_upto_region 4 with fail
    have X0:=later_cell hcA
    have X1:=later_cell hcB
    have X3:=later_cell hc3
    have hL:∀ q:Lt w3,Later w3 q.v:=fun q=>q.h
    clear hcA hcB hc3
    refine wp_region_x [] [11] [0,1,2,3,4,5,6,7,8,9,10,11] (by kernel_rfl) (by kernel_rfl) ?_
    iterate 11 (refine wpX_step rfl (fun K hK=>?_);go_simp;refine hK _ _ ?_;clear hK K)
    refine wpX_step rfl (fun K hK=>?_)
    go_simp
    intro p
    refine (doP_c (HP3.out.later (hL p)) HO.out HSM.out ⟨2,vA,vB,0,r⟩ ⟨by unfold i64ok;show (_:Int)≤0∧(0:Int) < _;omega,HRZ.out⟩ (by have:=HLT.out;omega) (HK3.out.later (hL p)) HLB.out).mono ?_
    rintro e w4 ⟨⟨u,rfl⟩,hp⟩
    refine ⟨_,rfl,hK _ _ ?_⟩
    clear hK K
    have HP4:=Lib.hid hp
    clear hp p hL X0 X1 X3
    refine wpX_nil ?_
    intro w5 hL5
    have HP5:=Lib.hid (HP4.out.later hL5)
    clear HP4 hL5
    go_wp2
    refine bodyPost_ret (results_none rfl _ _ _) rfl ?_
    refine ⟨⟨_,rfl⟩,?_⟩
    rw [HA.out]
    exact HP5.out
  ·have HA:=Lib.hid hpf
   clear hpf HC20
   go_wp2
   go_meet
   exact ⟨Lib.hid ⟨HP1.out,HK1.out⟩,HA⟩
 case rest=>as_aux_lemma=>
 obtain ⟨HQ,HASK⟩:=hcut
 clear HP1 HK1 HBX1 HB1 HC20 hcap hone HXM HH HK
 rename World=>wq
 obtain ⟨m,hm⟩:=HQ.out.2.mx
 obtain ⟨ys,hys,hyl,hyw⟩:=words_box s
 have hSP:=Tryz.strings_Split s ⟨#[32]⟩ m wq (by have:=HSZ.out;omega) hm (by decide)
 have hcl:=Lib.countB_le ⟨#[32]⟩ (by decide) _ s (Nat.le_refl _)
 rw [← hys,← hyl] at hSP
 have HYS:=Lib.hid (show ys.length≤9001 from by have:=HSZ.out;omega)
 have HSP:=Lib.hid hSP
 have HROW:=Lib.hid (rowNew wq ys _ rfl (by have:=HYS.out;unfold maxLen;omega))
 have HBN:=Lib.hid ((Below.refl wq.heap.size wq).alloc (Nat.le_refl _) (.cells (ys.map Value.string).toArray 9))
 have HYW:=Lib.hid hyw
 clear hSP hm hys hyl hcl hyw
 go_wp2_with fail
 refine HSP.out.mono ?_
 rintro e w4 ⟨rfl,hw4⟩
 have HROW4:=Lib.hid (show OwnRow w4 wq.heap.size 9 1 (some ⟨wq.heap.size,0,none⟩) ys.length ys.length (ys.map Value.string) from by rw [hw4];exact HROW.out)
 have HB4:=Lib.hid (show Below wq.heap.size wq w4 from by rw [hw4];exact HBN.out)
 clear hw4 HROW HBN HSP
 obtain ⟨Y,hY⟩:∃ Y,Y=wq.heap.size:=⟨_,rfl⟩
 rw [← hY] at HROW4 ⊢
 have HY:=Lib.hid hY
 clear hY
 go_wp2_with fail
 refine (DeleteFuncS_c _ _ ys _ _ _ (fun c=>c.toList.isEmpty) w4 _ HROW4.out (fun c W=>by simpa using line1_c c W) (enters_of Tryz.func26 (by kernel_rfl) rfl)).mono ?_
 rintro e w5 ⟨rfl,hrow5,hg5⟩
 have HROW5:=Lib.hid hrow5
 have HB5:=Lib.hid (show Below wq.heap.size wq w5 from HB4.out.trans (below_grownBy hg5 HB4.out.size fun k hk=>by rw [← HY.out];exact (HROW4.out.base_le k hk).1))
 clear hrow5 hg5 HROW4 HB4
 have HYW2:=Lib.hid (show (ys.filter fun c=>!c.toList.isEmpty).map (·.data.toList)=wordsK s.data.toList from HYW.out)
 have HYL:=Lib.hid (List.length_filter_le (fun c:ByteArray=>!c.toList.isEmpty) ys)
 generalize (ys.filter fun c=>!c.toList.isEmpty)=zs at *
 have hyle:=HYS.out
 have hzle:=HYL.out
 generalize ys.length=cap2 at *
 clear HYS HYL HYW
 have HP5:=Lib.hid (HQ.out.1.later HB5.out)
 have HK5:=Lib.hid (HQ.out.2.later HB5.out)
 clear HQ
 match zs,HYW2,HROW5,hzle with
 | [],HYW2,HROW5,hzle=>
  have HA:=Lib.hid (show askF s.data.toList=.nothing from by rw [HASK.out,← HYW2.out];rfl)
  go_wp2
  refine bodyPost_ret (results_none rfl _ _ _) rfl ?_
  refine ⟨⟨_,rfl⟩,?_⟩
  rw [HA.out]
  exact HP5.out.congr rfl (List.append_nil t).symm
 | y0 :: l,HYW2,HROW5,hzle=>
 have hzl:l.length+1≤cap2:=hzle
 have hzi:(l.length:Int)+1≤(cap2:Int):=by omega
 have hz0:((l.length:Int)+1==0)=false:=by simp;omega
 have hz0' : ¬ ((l.length:Int)+1=0):=by omega
 have HWL:=Lib.hid (show ∀ x∈l,x.size≤1000000 from fun x hx=>by
  have h2:=HSZ.out
  have e2:=ba_len s
  have h3:=((words_len s.data.toList []).2 x.data.toList (by
   show x.data.toList∈wordsK s.data.toList
   rw [← HYW2.out];exact List.mem_map.2 ⟨x,List.mem_cons_of_mem _ hx,rfl⟩)).1
  have e1:=ba_len x
  simp only [List.length_nil,Nat.zero_add] at h3
  omega)
 have HW0:=Lib.hid (show askF s.data.toList=askW (y0.data.toList :: l.map (·.data.toList)) from by rw [HASK.out,← HYW2.out];rfl)
 obtain ⟨bY,oY,hbo,_,hYlt,hYc⟩:=HROW5.out.cell (by simp)
 cases hbo
 have HYC:=Lib.hid hYc
 have HYT:=Lib.hid hYlt
 clear hYc hYlt HASK HYW2 hzle
 go_upto_region 7 with fail
 go_cut [8,9] (fun s8 s9 wx=>∃ (a' : Option Addr) (n' cap' : Nat) (ok:Bool),s8=.slice a' n' cap'∧s9=.bool ok∧Hid ((ok=false∧numsK (l.map (·.data.toList))=none)∨(ok=true∧∃ ns,numsK (l.map (·.data.toList))=some ns∧ns.length=n'∧OwnRow wx w5.heap.size 3 1 a' n' cap' (ns.map (Value.int .i64))))∧Hid (Below w5.heap.size w5 wx))
 case first=>
  by_cases hc1:cap2=1
  ·subst hc1
   obtain rfl:l=[]:=List.length_eq_zero_iff.1 (by omega)
   have HSL:=Lib.hid (show SlS w5 Y 0 0 0 [] from ⟨HYT.out,rfl,Nat.le_refl _,fun j x hx=>by cases hx⟩)
   go_wp2_with fail
   refine (numbers_c w5 HSL.out (fun x hx=>by cases hx) (by omega) HK5.out).mono ?_
   rintro e w6 ⟨hb6,h6⟩
   rcases h6 with ⟨hn,rfl⟩ | ⟨ns,a',cap',hn,rfl,hrow⟩
   ·go_wp2
    go_meet
    exact ⟨none,0,0,false,rfl,rfl,Lib.hid (.inl ⟨rfl,hn⟩),Lib.hid hb6⟩
   ·have HRW:=Lib.hid hrow
    clear hrow
    go_wp2
    go_meet
    exact ⟨a',ns.length,cap',true,rfl,rfl,Lib.hid (.inr ⟨rfl,ns,hn,rfl,HRW.out⟩),Lib.hid hb6⟩
  ·have HSL:=Lib.hid (show SlS w5 Y 1 l.length (cap2 - 1) l from ⟨HYT.out,rfl,by omega,fun j x hx=>by
    have:=HYC.out (1+j) (.string x) (by rw [Nat.add_comm];simp [hx])
    simpa using this⟩)
   go_wp2_with fail
   refine (numbers_c w5 HSL.out HWL.out (by omega) HK5.out).mono ?_
   rintro e w6 ⟨hb6,h6⟩
   rcases h6 with ⟨hn,rfl⟩ | ⟨ns,a',cap',hn,rfl,hrow⟩
   ·go_wp2
    go_meet
    exact ⟨none,0,0,false,rfl,rfl,Lib.hid (.inl ⟨rfl,hn⟩),Lib.hid hb6⟩
   ·have HRW:=Lib.hid hrow
    clear hrow
    go_wp2
    go_meet
    exact ⟨a',ns.length,cap',true,rfl,rfl,Lib.hid (.inr ⟨rfl,ns,hn,rfl,HRW.out⟩),Lib.hid hb6⟩
 case rest=>as_aux_lemma=>
 obtain ⟨a',n',cap',ok,rfl,rfl,HN,HB6⟩:=hcut
 have HP6:=Lib.hid (HP5.out.later HB6.out)
 have HK6:=Lib.hid (HK5.out.later HB6.out)
 have hy0:=HYC.out 0 (.string y0) rfl
 have hy6:=(HB6.out.cell (p:=⟨Y,0+0,none⟩) HYT.out).trans hy0
 clear HP5 HK5 HYC HROW5 hy0 HB5
 rcases HN.out with ⟨rfl,hn⟩ | ⟨rfl,ns,hn,hlen,hrow⟩
 ·have HA:=Lib.hid (show askF s.data.toList=.what from by rw [HW0.out];exact askW_cons.1 hn)
  have HSY:=Lib.hid (sayN_c HP6.out [⟨#[119,104,97,116]⟩] #[.string ⟨#[119,104,97,116]⟩] 9 rfl whatB rfl (by have:=HLT.out;show t.length+4≤_;omega) (by show 1≤1000;omega))
  clear hn HN
  go_wp2_with fail
  refine HSY.out.mono ?_
  intro e w7 hq
  obtain ⟨⟨u,hu⟩,h7⟩:=hq
  subst hu
  have H7:=Lib.hid h7
  clear h7 HSY
  go_wp2
  refine bodyPost_end (results_none rfl _ _ _) rfl ?_
  refine ⟨⟨_,rfl⟩,?_⟩
  rw [HA.out]
  exact H7.out
 ·have HA:=Lib.hid (show askF s.data.toList=askN y0.data.toList ns from by rw [HW0.out];exact askW_cons.2 ns hn)
  have HAS:=Lib.hid (askP_c HP6.out HO.out HSM.out HLT.out HK6.out HLB.out y0 ns (numsK_ok _ ns hn) hlen hrow)
  clear hn HN hrow
  go_wp2_with fail
  refine HAS.out.mono ?_
  intro e w7 hq
  rcases hq with ⟨hu,hp⟩ | ⟨hu,hx,hp⟩
  ·subst hu
   have H7:=Lib.hid hp
   clear hp HAS
   go_wp2
   refine bodyPost_end (results_none rfl _ _ _) rfl ?_
   refine ⟨⟨_,rfl⟩,?_⟩
   rw [HA.out]
   exact H7.out
  ·subst hu
   have HA2:=Lib.hid (HA.out.trans hx)
   have HSY:=Lib.hid (sayN_c hp [⟨#[119,104,97,116]⟩] #[.string ⟨#[119,104,97,116]⟩] 9 rfl whatB rfl (by have:=HLT.out;show t.length+4≤_;omega) (by show 1≤1000;omega))
   clear hp HAS hx HA
   go_wp2_with fail
   refine HSY.out.mono ?_
   intro e w8 hq
   obtain ⟨⟨u,hu⟩,h8⟩:=hq
   subst hu
   have H8:=Lib.hid h8
   clear h8 HSY
   go_wp2
   refine bodyPost_end (results_none rfl _ _ _) rfl ?_
   refine ⟨⟨_,rfl⟩,?_⟩
   rw [HA2.out]
   exact H8.out
end
end Go.Proofs.YtneoeokfffnonaaGreatDoor
