/- Numbers of words, as a desk reads them. -/
import Derived.Test.YtneoeokfffnonaaGreatDoorDeedW
import Derived.Test.YtneoeokfffnonaaGreatDoorDsObj
import Derived.Test.YtneoeokfffnonaaGreatDoorPlainT
import Derived.Test.YtneoeokfffnonaaGreatDoorDkDo
set_option linter.unusedVariables false
set_option linter.unusedSimpArgs false
namespace Go.Proofs.YtneoeokfffnonaaGreatDoor
open Go.RowKit Go
theorem dsnum_c (n:Int) (hn:i64ok n) (w:World) (hk:LibK w):Calls Tryz.prog 47 #[.int .i64 n] w fun e w'=>e=.returned (.string ⟨(Lib.itoa n).toArray⟩)∧Below w.heap.size w w':=by
 have HT:=Lib.hid hk.tab
 have HN:=Lib.hid hn
 clear hn hk
 go_enter Tryz.func47,Tryz.ntmps47
 go_wp2_with fail
 refine (Tryz.strconv_Itoa n (by have:=HN.out;unfold i64ok at this;omega) (by have:=HN.out;unfold i64ok at this;omega) w HT.out).mono ?_
 rintro e w' ⟨rfl,k,os,rfl⟩
 have hb:=Lib.below_grow w.heap.size w (Nat.le_refl _) k os
 generalize Sort.grow (w.drewN k) os=w1 at *
 go_wp2
 go_ret
 exact ⟨rfl,hb⟩
theorem numsK_take {l:List Str} {k:Nat} (hk:k < l.length):numsK (l.take (k+1))=match numsK (l.take k) with | none=>none | some ns=>(numOf l[k]).map fun n=>ns++[n]:=by
 rw [List.take_succ_eq_append_getElem hk,numsK_app];cases numsK (l.take k) <;> rfl
set_option maxRecDepth 100000 in
set_option maxHeartbeats 1000000 in
theorem numbers_c {b o n cap:Nat} {xs:List ByteArray} (w:World) (hs:SlS w b o n cap xs) (hx:∀ x∈xs,x.size≤1000000) (hn:n≤100000) (hk:LibK w) :
 Calls Tryz.prog 22 #[.slice (some ⟨b,o,none⟩) n cap] w fun e w'=>Below w.heap.size w w'∧((numsK (xs.map (·.data.toList))=none∧e=.returned (.tuple #[.slice none 0 0,.bool false]))∨
  ∃ ns a' cap',numsK (xs.map (·.data.toList))=some ns∧e=.returned (.tuple #[.slice a' ns.length cap',.bool true])∧OwnRow w' w.heap.size 3 1 a' ns.length cap' (ns.map (Value.int .i64))):=by
 have HK:=Lib.hid hk
 have HS:=Lib.hid hs
 have HX:=Lib.hid hx
 have hlen:=hs.len
 obtain ⟨ys,hys⟩:∃ ys,ys=xs.map (·.data.toList):=⟨_,rfl⟩
 have hyl:ys.length=n:=by rw [hys,List.length_map,hlen]
 have HY:=Lib.hid hys
 have HB0:=Lib.hid (Below.refl w.heap.size w)
 rw [← hys]
 clear hys hk hs hx
 go_enter Tryz.func22,Tryz.ntmps22
 go_wp2
 go_loopw [4,11] (fun s4 s11 wr=>∃ (k:Nat) (ns:List Int) (a' : Option Addr) (cap' : Nat),k≤n∧s11=(.int .i64 (k:Int))∧s4=.slice a' k cap'∧Hid (numsK (ys.take k)=some ns∧ns.length=k)∧Hid (OwnRow wr w.heap.size 3 1 a' k cap' (ns.map (Value.int .i64)))∧Hid (Below w.heap.size w wr)) (fun _ s11 _=>n - (intOf s11).toNat)
 case atStart=>exact ⟨0,[],none,0,Nat.zero_le _,rfl,rfl,Lib.hid ⟨rfl,rfl⟩,Lib.hid (OwnRow.nil _ _ _ _ _),HB0⟩
 case round=>
  obtain ⟨k,ns,a',cap',hk,rfl,rfl,HN,HO,HB⟩:=hrel
  rename World=>wr
  clear HB0
  by_cases hlt:k < n
  ·have hkx:k < xs.length:=by omega
   have hkl:k < ys.length:=by omega
   obtain ⟨x,hxk⟩:∃ x,xs[k]? = some x:=⟨_,List.getElem?_eq_getElem hkx⟩
   have HXS:=Lib.hid (HX.out x (List.mem_of_getElem? hxk))
   have HYK:=Lib.hid (show ys[k]=x.data.toList from by
    have e:ys[k]? = some x.data.toList:=by rw [HY.out,List.getElem?_map,hxk];rfl
    exact (List.getElem?_eq_some_iff.1 e).2)
   have HNT:=Lib.hid (show numsK (ys.take (k+1))=(numOf x.data.toList).map fun n=>ns++[n] from by
    rw [numsK_take hkl,HN.out.1];simp only;rw [HYK.out])
   have HST:=Lib.hid (show numOf x.data.toList=none→numsK ys=none from fun h=>numsK_stop ys k hkl (by rw [HYK.out];exact h))
   have hc:=(HS.out.later HB.out).c k x hxk
   have hlt' : (k:Int) < (n:Int):=by omega
   have hk0:(0:Int)≤(k:Int):=by omega
   have HKr:=Lib.hid (HK.out.later HB.out)
   clear hxk hkx
   rcases numOf_cases x with ⟨v,h1,h2,h3,h4⟩ | ⟨v,h1,h2,h3,h4⟩ | ⟨h1,h2⟩
   ·have H1:=Lib.hid h1;have H2:=Lib.hid h2;have H3:=Lib.hid (str_eq h3);have H4:=Lib.hid h4
    clear h1 h2 h3 h4
    go_wp2_with fail
    refine (atoi_ok x HXS.out v H1.out wr).mono ?_
    rintro e w3 ⟨rfl,hb3⟩
    have HB3:=Lib.hid hb3
    clear hb3 hc
    go_wp2_with fail
    refine (dsnum_c v H4.out w3 (HKr.out.later HB3.out)).mono ?_
    rintro e w4 ⟨rfl,hb4⟩
    have HL4:=Lib.hid (HB3.out.trans (hb4.mono HB3.out.size))
    have HO4:=Lib.hid (HO.out.below HL4.out)
    have HB4:=Lib.hid (HB.out.trans (HL4.out.mono HB.out.size))
    have hs4:w.heap.size≤w4.heap.size:=HB4.out.size
    rw [H3.out]
    clear hb4 HB3 HO HL4 HB
    go_wp2_with (at_builtin;refine wpList_append_new rfl (.tmp 28) (.tmp 30) 71 rfl w.heap.size 3 1 8 Tryz.underlying71 ti_int a' k cap' _ rfl HO4.out 1 1 [.int .i64 v] rfl rfl (one1 rfl) (by omega) hs4 ?_)
    intro a3 cap3 w5 hown5 hb5 hz5 hg5
    have HO5:=Lib.hid (show OwnRow w5 w.heap.size 3 1 a3 (k+1) cap3 ((ns++[v]).map (Value.int .i64)) from by rw [List.map_append];exact hown5)
    have HB5:=Lib.hid (HB4.out.trans hb5)
    have HN5:=Lib.hid (show numsK (ys.take (k+1))=some (ns++[v])∧(ns++[v]).length=k+1 from ⟨by rw [HNT.out,H2.out];rfl,by rw [List.length_append,HN.out.2];rfl⟩)
    clear hown5 hb5 hz5 hg5 HO4 HB4 HN HNT
    go_wp2
    exact ⟨⟨k+1,ns++[v],a3,cap3,by omega,by go_num,rfl,HN5,HO5,HB5⟩,by simp [intOf];omega⟩
   ·have H1:=Lib.hid h1;have H4:=Lib.hid h4
    have HR:=Lib.hid (HST.out h2)
    obtain ⟨T,hT⟩:∃ T:ByteArray,T=⟨(Lib.itoa v).toArray⟩:=⟨_,rfl⟩
    have HT:=Lib.hid hT
    have hne:T≠x:=by rw [hT];exact str_ne h3
    have hne1:decide (T=x)=false:=decide_eq_false hne
    have hne3:decide (T.toList=x.toList)=false:=decide_eq_false fun e=>hne (ba_ext (by rwa [ByteArray.toList_eq,ByteArray.toList_eq] at e))
    have hne4:(T.toList==x.toList)=false:=by simpa using hne3
    clear h1 h2 h3 h4 hT hne
    go_wp2_with fail
    refine (atoi_ok x HXS.out v H1.out wr).mono ?_
    rintro e w3 ⟨rfl,hb3⟩
    have HB3:=Lib.hid hb3
    clear hb3 hc
    go_wp2_with fail
    refine (dsnum_c v H4.out w3 (HKr.out.later HB3.out)).mono ?_
    rintro e w4 ⟨rfl,hb4⟩
    have HB4:=Lib.hid (HB.out.trans ((HB3.out.trans (hb4.mono HB3.out.size)).mono HB.out.size))
    rw [← HT.out]
    clear hb4 HB3 HO HB
    go_wp2
    go_ret2
    exact ⟨HB4.out,.inl ⟨HR.out,rfl⟩⟩
   ·have H1:=Lib.hid h1
    have HR:=Lib.hid (HST.out h2)
    clear h1 h2
    go_wp2_with fail
    refine (atoi_bad x HXS.out H1.out wr HKr.out).mono ?_
    rintro e w4 ⟨v,t,p,rfl,hb4⟩
    have HB4:=Lib.hid (HB.out.trans (hb4.mono HB.out.size))
    clear hb4 HO HB hc
    go_wp2
    go_ret2
    exact ⟨HB4.out,.inl ⟨HR.out,rfl⟩⟩
  ·obtain rfl:k=n:=by omega
   have hltB:decide ((k:Int) < (k:Int))=false:=by simp
   have HR:=Lib.hid (show numsK ys=some ns from by
    have:=HN.out.1
    rw [List.take_of_length_le (by omega)] at this
    exact this)
   go_wp2
   go_ret2
   exact ⟨HB.out,.inr ⟨ns,a',cap',HR.out,by rw [HN.out.2];rfl,by rw [HN.out.2];exact HO.out⟩⟩
end Go.Proofs.YtneoeokfffnonaaGreatDoor
set_option linter.unusedVariables false
set_option linter.unusedSimpArgs false
namespace Go.Proofs.YtneoeokfffnonaaGreatDoor
open Go.RowKit Go
def lowB:Nat:=max (max 1 2) (max 0 5)+1
theorem LibK.laterB {w w' : World} {base:Nat} (h:LibK w) (hB:lowB≤base) (hl:Below base w w'):LibK w':=by
 obtain ⟨h1,⟨t2,p2,h2⟩,⟨t3,p3,h3⟩,⟨m,h4⟩⟩:=h
 unfold lowB at hB
 refine ⟨?_,⟨t2,p2,(hl.cell (p:=⟨1,0,none⟩) (by show 1 < base;omega)).trans h2⟩,⟨t3,p3,(hl.cell (p:=⟨2,0,none⟩) (by show 2 < base;omega)).trans h3⟩,⟨m,(hl.cell (p:=⟨0,0,none⟩) (by show 0 < base;omega)).trans h4⟩⟩
 have hg:Tryz.prog.globalNamed "internal/strconv.uint64pow10" = some 5:=by kernel_rfl
 unfold Lib.TabIs World.var? at h1 ⊢
 rw [hg] at h1 ⊢
 simp only [Option.bind_some] at h1 ⊢
 rw [hl.block 5 (by omega)]
 exact h1
section
variable {w:World} {base:Nat} {F:Nat→Prop} {g:Nat} {d:DkM} {t:Str}
theorem sayP_c {w1:World} (h:DsP w base F g d t w1) {b o n cap:Nat} {xs:List ByteArray} (hs:SlS w1 b o n cap xs) (L:Str) (hL:saidL xs=L) (hl:t.length+L.length≤100000000) (hn:n≤1000) :
 Calls Tryz.prog 28 #[.pointer (some ⟨g,0,none⟩),.slice (some ⟨b,o,none⟩) n cap] w1 fun e w'=>(∃ u,e=.returned u)∧DsP w base F g d (t++(L++[10])) w':=by
 obtain ⟨F1,k1,k2,k3⟩:=h
 refine (say_c k1 hs L hL hl hn).mono ?_
 intro e w' hq
 obtain ⟨hu,F2,q1,q2,q3⟩:=hq
 exact ⟨hu,F2,q1,movesT k2 k3 q2,growsT k3 k2.size q3⟩
theorem sayN_c {w1:World} (h:DsP w base F g d t w1) (xs:List ByteArray) (vs:Array Value) (ty:TypeId) (hv:vs=(xs.map Value.string).toArray) (L:Str) (hL:saidL xs=L) (hl:t.length+L.length≤100000000) (hn:xs.length≤1000) :
 Calls Tryz.prog 28 #[.pointer (some ⟨g,0,none⟩),.slice (some ⟨w1.heap.size,0,none⟩) xs.length xs.length] (w1.alloc (.cells vs ty)) fun e w'=>(∃ u,e=.returned u)∧DsP w base F g d (t++(L++[10])) w':=
 sayP_c (h.later ((Below.refl w1.heap.size w1).alloc (Nat.le_refl _) (.cells vs ty))) (SlS.new w1 xs vs ty hv) L hL hl hn
theorem DsP.libK {w1:World} (h:DsP w base F g d t w1) {d0:DkM} {t0:Str} (h0:DsAt w base F g d0 t0) (hB:lowB≤base) (hk:LibK w):LibK w1:=by
 obtain ⟨F1,k1,k2,k3⟩:=h
 exact hk.laterB hB (h0.below k2)
set_option maxRecDepth 100000 in
set_option maxHeartbeats 1000000 in
theorem do_c (h:DsAt w base F g d t) (ho:d.Ok) (hs:d.Sm 1000) (x:DStep) (hx:x.ok') (hl:t.length≤90000000) (hk:LibK w) (hB:lowB≤base) :
 Calls Tryz.prog 23 #[.pointer (some ⟨g,0,none⟩),.agg #[.int .i64 x.Kind,.int .i64 x.W,.int .i64 x.At,.int .i64 x.Many,.string x.Text]] w fun e w'=>(∃ u,e=.returned u)∧DsP w base F g (d.step x).1 (t++linesS [codeL (d.step x).2]) w':=by
 have hb0:=(Below.refl w.heap.size w).alloc (Nat.le_refl _) (.cells #[.int .i64 x.Kind,.int .i64 x.W,.int .i64 x.At,.int .i64 x.Many,.string x.Text] 76)
 have HB0:=Lib.hid hb0
 have HK0:=Lib.hid (fun (W:World) (d1:DkM) (t1:Str) (q:DsP w base F g d1 t1 W)=>q.libK h hB hk)
 obtain ⟨gd,FD,gw,hc,hd,hz⟩:=(h.later hb0).deskZ
 obtain ⟨d2,cd,hst⟩:∃ d2 cd,d.step x=(d2,cd):=⟨_,_,rfl⟩
 have hdo:=DDo_c hd.drew ho hs x hx
 have hsc:=step_code d x
 unfold DoPost at hdo
 rw [hst] at hdo hsc ⊢
 simp only at hdo hsc ⊢
 have HDO:=Lib.hid hdo
 have HZ:=Lib.hid hz
 have HS0:=Lib.hid hd.lt
 have b0:(w.alloc (.cells #[.int .i64 x.Kind,.int .i64 x.W,.int .i64 x.At,.int .i64 x.Many,.string x.Text] 76)).cell? ⟨w.heap.size,0,none⟩=some (.int .i64 x.Kind):=by simp
 have b1:(w.alloc (.cells #[.int .i64 x.Kind,.int .i64 x.W,.int .i64 x.At,.int .i64 x.Many,.string x.Text] 76)).cell? ⟨w.heap.size,1,none⟩=some (.int .i64 x.W):=by simp
 have b2:(w.alloc (.cells #[.int .i64 x.Kind,.int .i64 x.W,.int .i64 x.At,.int .i64 x.Many,.string x.Text] 76)).cell? ⟨w.heap.size,2,none⟩=some (.int .i64 x.At):=by simp
 have b3:(w.alloc (.cells #[.int .i64 x.Kind,.int .i64 x.W,.int .i64 x.At,.int .i64 x.Many,.string x.Text] 76)).cell? ⟨w.heap.size,3,none⟩=some (.int .i64 x.Many):=by simp
 have b4:(w.alloc (.cells #[.int .i64 x.Kind,.int .i64 x.W,.int .i64 x.At,.int .i64 x.Many,.string x.Text] 76)).cell? ⟨w.heap.size,4,none⟩=some (.string x.Text):=by simp
 have HC:=Lib.hid hsc
 have HL:=Lib.hid hl
 clear hb0 h ho hs hx hl hk hd hz hB hst hdo hsc
 go_enter Tryz.func23,Tryz.ntmps23
 go_upto_region 1 with fail
 generalize hw0:w.alloc _=w0
 have hw0' : w.alloc (.cells #[.int .i64 x.Kind,.int .i64 x.W,.int .i64 x.At,.int .i64 x.Many,.string x.Text] 76)=w0:=hw0
 rw [hw0'] at HB0 hc HDO HZ HS0 b0 b1 b2 b3 b4
 clear hw0 hw0'
 generalize w.heap.size=X at b0 b1 b2 b3 b4 ⊢
 go_still_tail 5,(by kernel_rfl)
 go_wp2_with fail
 refine HDO.out.mono ?_
 rintro e w2 ⟨rfl,hp⟩
 have HP:=Lib.hid (show DsP w base F g d2 t w2 from by
  obtain ⟨F2,gw2,k1,k2,k3,_⟩:=DPost.after ((Below.refl w0.heap.size w0).drew) hp
  exact DsP.after HB0.out (HZ.out w2 F2 gw2 _ k1 k2 k3))
 have HK2:=Lib.hid (HK0.out _ _ _ HP.out)
 clear hp HDO HZ HK0 HB0 HS0 hc b0 b1 b2 b3 b4
 by_cases h0:cd=0
 ·subst h0
  have HSY:=Lib.hid (sayN_c HP.out [⟨#[111,107]⟩] #[.string ⟨#[111,107]⟩] 9 rfl okB rfl (by have:=HL.out;show t.length+2≤_;omega) (by show 1≤1000;omega))
  clear HP HK2 HC HL
  go_wp2_with fail
  refine HSY.out.mono ?_
  intro e w4 hq
  obtain ⟨⟨u,hu⟩,h4⟩:=hq
  subst hu
  have H4:=Lib.hid h4
  clear h4 HSY
  go_wp2
  refine bodyPost_end (results_none rfl _ _ _) rfl ?_
  exact ⟨⟨_,rfl⟩,H4.out⟩
 ·have h0' : decide (cd=0)=false:=decide_eq_false h0
  have HCL:=Lib.hid (show codeL cd=noB++32 :: Lib.itoa cd from if_neg h0)
  have HIL:=Lib.hid (show (Lib.itoa cd).length≤20 from by
   obtain ⟨c1,c2⟩:=HC.out
   have:cd=0∨cd=1∨cd=2∨cd=3∨cd=4∨cd=5∨cd=6∨cd=7∨cd=8∨cd=9:=by omega
   rcases this with e | e | e | e | e | e | e | e | e | e <;> subst e <;> exact of_decide_eq_true (by kernel_rfl))
  go_wp2_with fail
  refine (dsnum_c cd (by have:=HC.out;unfold i64ok;omega) w2 HK2.out).mono ?_
  rintro e w3 ⟨rfl,hb3⟩
  have HSY:=Lib.hid (sayN_c (HP.out.later hb3) [⟨#[110,111]⟩,⟨(Lib.itoa cd).toArray⟩] #[.string ⟨#[110,111]⟩,.string ⟨(Lib.itoa cd).toArray⟩] 9 rfl (codeL cd) (by rw [HCL.out];simp [saidL,Lib.join,noB]) (by have:=HL.out;have:=HIL.out;rw [HCL.out];simp [noB];omega) (by show 2≤1000;omega))
  clear hb3 HP HK2 HC HL HIL HCL
  go_wp2_with fail
  refine HSY.out.mono ?_
  intro e w4 hq
  obtain ⟨⟨u,hu⟩,h4⟩:=hq
  subst hu
  have H4:=Lib.hid h4
  clear h4 HSY
  go_wp2
  refine bodyPost_ret (results_none rfl _ _ _) rfl ?_
  exact ⟨⟨_,rfl⟩,H4.out⟩
end
end Go.Proofs.YtneoeokfffnonaaGreatDoor
set_option linter.unusedVariables false
set_option linter.unusedSimpArgs false
namespace Go.Proofs.YtneoeokfffnonaaGreatDoor
open Go.RowKit Go
theorem said5:saidL [⟨#[110,111]⟩,⟨(Lib.itoa 5).toArray⟩]=codeL 5:=of_decide_eq_true (by kernel_rfl)
section
variable {w:World} {base:Nat} {F:Nat→Prop} {g:Nat} {d:DkM} {t:Str}
set_option maxRecDepth 100000 in
set_option maxHeartbeats 1000000 in
theorem text_none (h:DsAt w base F g d t) (x:Int) (hw:d.writer x=none) (hl:t.length≤90000000) (hk:LibK w) :
 Calls Tryz.prog 51 #[.pointer (some ⟨g,0,none⟩),.int .i64 x] w fun e w'=>(∃ u,e=.returned u)∧DsP w base F g d (t++(codeL 5++[10])) w':=by
 obtain ⟨gd,FD,gw,hc,hd,-⟩:=h.deskZ
 have HD:=Lib.hid hd
 have HH:=Lib.hid h
 have HK:=Lib.hid hk
 have HL:=Lib.hid hl
 have HP:=Lib.hid (DkM.ptr_none hw gw)
 clear hd h hk hl hw
 go_enter Tryz.func51,Tryz.ntmps51
 go_wp2_with fail
 refine (DWriter_c HD.out x).mono ?_
 rintro e w1 ⟨rfl,rfl⟩
 rw [HP.out]
 clear HD HP hc
 go_wp2_with fail
 refine (dsnum_c 5 (by unfold i64ok;omega) _ HK.out).mono ?_
 rintro e w3 ⟨rfl,hb3⟩
 have HSY:=Lib.hid (sayN_c (DsP.start HH.out hb3) [⟨#[110,111]⟩,⟨(Lib.itoa 5).toArray⟩] #[.string ⟨#[110,111]⟩,.string ⟨(Lib.itoa 5).toArray⟩] 9 rfl (codeL 5) said5 (by have:=HL.out;have:=code5_len;omega) (by show 2≤1000;omega))
 clear hb3 HH HK HL
 go_wp2_with fail
 refine HSY.out.mono ?_
 intro e w4 hq
 obtain ⟨⟨u,hu⟩,h4⟩:=hq
 subst hu
 have H4:=Lib.hid h4
 clear h4 HSY
 go_wp2
 refine bodyPost_ret (results_none rfl _ _ _) rfl ?_
 exact ⟨⟨_,rfl⟩,H4.out⟩
set_option maxRecDepth 100000 in
set_option maxHeartbeats 1000000 in
theorem text_some (h:DsAt w base F g d t) (ho:d.Ok) (x:Int) {m:WM} (hw:d.writer x=some m) (hl:t.length≤90000000) :
 Calls Tryz.prog 51 #[.pointer (some ⟨g,0,none⟩),.int .i64 x] w fun e w'=>(∃ u,e=.returned u)∧DsP w base F g d (t++((textB++32 :: strL m.view)++[10])) w':=by
 obtain ⟨gd,FD,gw,hc,hd,-⟩:=h.deskZ
 obtain ⟨hx,hme,hW,tm,hin⟩:=ho.of_writer hw
 obtain ⟨FW,_,_,hwr,_⟩:=hd.wrZ (toNat_lt hx).1 hW
 have hcl:=hin.chars_len ho.lm
 have HT:=Lib.hid (show Calls Tryz.prog 86 #[.pointer (some ⟨(gw x.toNat),0,none⟩)] w fun e w'=>e=.returned (.string (strOfNums m.view))∧Below w.heap.size w w' from
  WText_c hwr (by show m.chars.length≤1000;omega))
 have HVL:=Lib.hid (show m.view.length≤1000 from by
  have e:m.view.length=(vis m.seen m.me m.chars).length:=viewN_length _ _ _
  have e2:(vis m.seen m.me m.chars).length≤m.chars.length:=List.length_filter_le _ _
  omega)
 have HD:=Lib.hid hd
 have HH:=Lib.hid h
 have HL:=Lib.hid hl
 have HP:=Lib.hid (DkM.ptr_some hw gw)
 clear hd h hl hw ho hin hcl hwr hW hme hx
 generalize gw x.toNat=gx at *
 go_enter Tryz.func51,Tryz.ntmps51
 go_wp2_with fail
 refine (DWriter_c HD.out x).mono ?_
 rintro e w1 ⟨rfl,rfl⟩
 rw [HP.out]
 clear HD HP hc
 go_wp2_with fail
 refine HT.out.mono ?_
 rintro e w3 ⟨rfl,hb3⟩
 have HSY:=Lib.hid (sayN_c (DsP.start HH.out hb3) [⟨#[116,101,120,116]⟩,strOfNums m.view] #[.string ⟨#[116,101,120,116]⟩,.string (strOfNums m.view)] 9 rfl (textB++32 :: strL m.view) (by simp [saidL,Lib.join,textB,strL]) (by have:=HL.out;have:=HVL.out;have:=strL_len m.view;simp [textB];omega) (by show 2≤1000;omega))
 clear hb3 HH HL HVL HT
 go_wp2_with fail
 refine HSY.out.mono ?_
 intro e w4 hq
 obtain ⟨⟨u,hu⟩,h4⟩:=hq
 subst hu
 have H4:=Lib.hid h4
 clear h4 HSY
 go_wp2
 refine bodyPost_end (results_none rfl _ _ _) rfl ?_
 exact ⟨⟨_,rfl⟩,H4.out⟩
theorem dtext_c (h:DsAt w base F g d t) (ho:d.Ok) (x:Int) (hl:t.length≤90000000) (hk:LibK w) :
 Calls Tryz.prog 51 #[.pointer (some ⟨g,0,none⟩),.int .i64 x] w fun e w'=>(∃ u,e=.returned u)∧DsP w base F g d (t++linesS (tellK d (.text x)).2) w':=by
 cases hw:d.writer x with
 | none=>
  have e:linesS (tellK d (.text x)).2=codeL 5++[10]:=by simp only [tellK,hw];rfl
  rw [e];exact text_none h x hw hl hk
 | some m=>
  have e:linesS (tellK d (.text x)).2=(textB++32 :: strL m.view)++[10]:=by simp only [tellK,hw];rfl
  rw [e];exact text_some h ho x hw hl
end
end Go.Proofs.YtneoeokfffnonaaGreatDoor
