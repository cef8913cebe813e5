/- A desk tells a text of the past. -/
import Derived.Test.YtneoeokfffnonaaGreatDoorDsText
import Derived.Test.YtneoeokfffnonaaGreatDoorStoW
set_option linter.unusedVariables false
set_option linter.unusedSimpArgs false
namespace Go.Proofs.YtneoeokfffnonaaGreatDoor
open Go.RowKit Go
theorem bysS_app:∀ a b:List Int,bysS (a++b)=bysS a++bysS b:=by
 intro a
 induction a with
 | nil=>intro b;rfl
 | cons k a ih=>intro b;show 32 :: (Lib.itoa k++bysS (a++b))=32 :: (Lib.itoa k++bysS a)++bysS b;rw [ih];simp
theorem bysS_take (l:List Int) (k:Nat) (h:k < l.length):bysS (l.take (k+1))=bysS (l.take k)++32 :: Lib.itoa l[k]:=by
 rw [List.take_succ_eq_append_getElem h,bysS_app];simp [bysS]
theorem bysS_le (l:List Int) (hl:l.length≤200) (h:∀ k∈l,0≤k∧k < 4) (n:Nat):(bysS (l.take n)).length≤4400:=by
 have h1:=bysS_len (l.take n) (fun k hk=>h k (List.mem_of_mem_take hk))
 rw [List.length_take] at h1
 have:(min n l.length) * 22≤200 * 22:=Nat.mul_le_mul (by omega) (by omega)
 omega
section
variable {w:World} {base:Nat} {F:Nat→Prop} {g:Nat} {d:DkM} {t:Str}
set_option maxRecDepth 100000 in
set_option maxHeartbeats 1000000 in
theorem then_no (h:DsAt w base F g d t) (ho:d.Ok) (n:Int) (hn:n < 0∨(d.lm.L.length:Int) < n) (hl:t.length≤80000000) (hk:LibK w) :
 Calls Tryz.prog 55 #[.pointer (some ⟨g,0,none⟩),.int .i64 n] w fun e w'=>(∃ u,e=.returned u)∧DsP w base F g d (t++(codeL 5++[10])) w':=by
 obtain ⟨gd,FD,gw,hc,hd,-⟩:=h.deskZ
 obtain ⟨gl,FL,_,c0,hlog,_⟩:=hd.logZ
 have hlen:=ho.lm.len
 have HLG:=Lib.hid hlog
 have HO:=Lib.hid ho
 have HH:=Lib.hid h
 have HK:=Lib.hid hk
 have HL:=Lib.hid hl
 have HN:=Lib.hid hn
 clear hd h hk hl hn ho hlog
 go_enter Tryz.func55,Tryz.ntmps55
 go_wp2_with fail
 refine (StOf_c HLG.out HO.out.lm).mono ?_
 rintro e w1 ⟨gs,rfl,hst,hb1⟩
 have HS:=Lib.hid hst
 have HB1:=Lib.hid hb1
 clear hst hb1 HLG hc c0
 go_wp2_with fail
 refine (SText_no HS.out n HN.out (by omega)).mono ?_
 rintro e w2 ⟨rfl,hb2⟩
 have HB2:=Lib.hid (HB1.out.trans (hb2.mono HB1.out.size))
 have HK2:=Lib.hid (HK.out.later HB2.out)
 clear hb2 HB1 HK
 go_wp2_with fail
 refine (dsnum_c 5 (by unfold i64ok;omega) _ HK2.out).mono ?_
 rintro e w3 ⟨rfl,hb3⟩
 have HSY:=Lib.hid (sayN_c (DsP.start HH.out (HB2.out.trans (hb3.mono HB2.out.size))) [⟨#[110,111]⟩,⟨(Lib.itoa 5).toArray⟩] #[.string ⟨#[110,111]⟩,.string ⟨(Lib.itoa 5).toArray⟩] 9 rfl (codeL 5) said5 (by have:=HL.out;have:=code5_len;omega) (by show 2≤1000;omega))
 clear hb3 HH HK2 HL HB2
 go_wp2_with fail
 refine HSY.out.mono ?_
 intro e w4 hq
 obtain ⟨⟨u,hu⟩,h4⟩:=hq
 subst hu
 have H4:=Lib.hid h4
 clear h4 HSY
 go_wp2
 refine bodyPost_ret (results_none rfl _ _ _) rfl ?_
 exact ⟨⟨_,rfl⟩,H4.out⟩
set_option maxRecDepth 100000 in
set_option maxHeartbeats 1000000 in
theorem then_ok (h:DsAt w base F g d t) (ho:d.Ok) (n:Nat) (hn:n≤d.lm.L.length) (hl:t.length≤80000000) (hk:LibK w) (hB:lowB≤base) :
 Calls Tryz.prog 55 #[.pointer (some ⟨g,0,none⟩),.int .i64 (n:Int)] w fun e w'=>(∃ u,e=.returned u)∧DsP w base F g d (t++linesS [textB++32 :: strL (txtL d.lm.L n),byB++bysS (bysL d.lm.L n)]) w':=by
 obtain ⟨gd,FD,gw,hc,hd,-⟩:=h.deskZ
 obtain ⟨gl,FL,_,c0,hlog,_⟩:=hd.logZ
 obtain ⟨hb200,ht200,hbys⟩:=bysL_small ho.lm.lok n hn
 have HLG:=Lib.hid hlog
 have HO:=Lib.hid ho
 have HH:=Lib.hid h
 have HK:=Lib.hid hk
 have HL:=Lib.hid hl
 have HB:=Lib.hid hB
 have HN:=Lib.hid hn
 have HTX:=Lib.hid (fun (W:World) (gs:Nat) (q:StoAt W gs d.lm.L)=>SText_c q n hn ho.lm.lok)
 have HBY:=Lib.hid (fun (W:World) (gs:Nat) (q:StoAt W gs d.lm.L)=>SBy_c q n hn ho.lm.lok)
 have HBS:=Lib.hid hbys
 have HT2:=Lib.hid ht200
 clear hd h hk hl ho hlog hB hn hbys ht200
 generalize txtL d.lm.L n=tx at *
 generalize bysL d.lm.L n=bs at *
 go_enter Tryz.func55,Tryz.ntmps55
 go_wp2_with fail
 refine (StOf_c HLG.out HO.out.lm).mono ?_
 rintro e w1 ⟨gs,rfl,hst,hb1⟩
 have HS:=Lib.hid hst
 have HB1:=Lib.hid hb1
 clear hst hb1 HLG hc c0 HO HN
 go_wp2_with fail
 refine (HTX.out _ _ HS.out).mono ?_
 rintro e w2 ⟨rfl,hb2⟩
 have HS2:=Lib.hid (HS.out.later hb2)
 have HB2:=Lib.hid (HB1.out.trans (hb2.mono HB1.out.size))
 clear hb2 HB1 HS HTX
 go_wp2_with fail
 refine (HBY.out _ _ HS2.out).mono ?_
 rintro e w3 ⟨a',cap',rfl,hown,hb3⟩
 have HB3:=Lib.hid (HB2.out.trans (hb3.mono HB2.out.size))
 have HR:=Lib.hid (show ∀ W,Moves F w3 W→OwnRow W w2.heap.size 3 1 a' bs.length cap' (bs.map (Value.int .i64)) from fun W hW=>hown.moves hW (fun k hk e=>by have:=(hown.base_le k hk).1;have:=(HH.out.foot k e).2;have:=HB2.out.size;omega))
 have HD3:=Lib.hid (HH.out.later HB3.out)
 have HK3:=Lib.hid (HK.out.later HB3.out)
 have HSY:=Lib.hid (sayN_c (DsP.start HD3.out (Below.refl w3.heap.size w3)) [⟨#[116,101,120,116]⟩,strOfNums tx] #[.string ⟨#[116,101,120,116]⟩,.string (strOfNums tx)] 9 rfl (textB++32 :: strL tx) (by simp [saidL,Lib.join,textB,strL]) (by have:=HL.out;have:=HT2.out;have:=strL_len tx;simp [textB];omega) (by show 2≤1000;omega))
 clear hown hb3 HB2 HBY HS2 HK
 go_wp2_with fail
 refine HSY.out.mono ?_
 intro e w4 hq
 obtain ⟨⟨u,hu⟩,h4⟩:=hq
 subst hu
 have H4:=Lib.hid h4
 have HROW:=Lib.hid (show OwnRow w4 w2.heap.size 3 1 a' bs.length cap' (bs.map (Value.int .i64)) from by obtain ⟨F1,q1,q2,q3⟩:=h4;exact HR.out w4 q2)
 have HK4:=Lib.hid (h4.libK HD3.out HB.out HK3.out)
 have HBE:=Lib.hid (Below.refl w4.heap.size w4)
 clear h4 HSY HR HK3
 go_wp2
 go_loopw [9,44] (fun s9 s44 wr=>∃ (k:Nat),k≤bs.length∧s44=(.int .i64 (k:Int))∧s9=.string ⟨(byB++bysS (bs.take k)).toArray⟩∧Hid (Below w4.heap.size w4 wr)) (fun _ s44 _=>bs.length - (intOf s44).toNat)
 case atStart=>exact ⟨0,Nat.zero_le _,rfl,rfl,HBE⟩
 case round=>
  obtain ⟨k,hk,rfl,rfl,HBr⟩:=hrel
  rename World=>wr
  clear HBE
  have HSZ:=Lib.hid (bysS_le bs hb200 HBS.out k)
  by_cases hlt:k < bs.length
  ·have hlt' : (k:Int) < (bs.length:Int):=by omega
   have hk0:(0:Int)≤(k:Int):=by omega
   obtain ⟨b,off,rfl,_,_,hcell⟩:=(HROW.out.below HBr.out).cell (by rw [List.length_map];omega)
   have hx:=hcell k (.int .i64 (bs[k])) (by simp [hlt])
   have HV:=Lib.hid (HBS.out bs[k] (List.getElem_mem hlt))
   have HTK:=Lib.hid (bysS_take bs k hlt)
   have HKr:=Lib.hid (HK4.out.later HBr.out)
   clear hcell
   generalize bs[k]=v at *
   have HI21:=Lib.hid (itoa21 (n:=v) (by have:=HV.out;unfold i64ok;omega))
   go_wp2_with fail
   refine (dsnum_c v (by have:=HV.out;unfold i64ok;omega) _ HKr.out).mono ?_
   rintro e w5 ⟨rfl,hb5⟩
   have HB5:=Lib.hid (HBr.out.trans (hb5.mono HBr.out.size))
   have HZ:=Lib.hid (show (byB++bysS (bs.take k)).length≤5000 from by have:=HSZ.out;simp [byB];omega)
   clear hb5 HBr HKr hx
   go_wp2
   ·exfalso;have:=HI21.out;simp at *;omega
   ·exfalso;have:=HI21.out;have:=HZ.out;simp at *;omega
   exact ⟨⟨k+1,by omega,by go_num,congrArg Value.string (ba_ext (by rw [HTK.out];simp)),HB5⟩,by simp [intOf];omega⟩
  ·obtain rfl:k=bs.length:=by omega
   have hltB:decide ((bs.length:Int) < (bs.length:Int))=false:=by simp
   have HZ:=Lib.hid (show (byB++bysS bs).length≤5000 from by have:=HSZ.out;rw [List.take_length] at this;simp [byB];omega)
   rw [List.take_length]
   have HSY:=Lib.hid (sayN_c (H4.out.later HBr.out) [⟨(byB++bysS bs).toArray⟩] #[.string ⟨(byB++bysS bs).toArray⟩] 9 rfl (byB++bysS bs) (by simp [saidL,Lib.join]) (by have:=HL.out;have:=HZ.out;have:=HT2.out;have:=strL_len tx;simp only [List.length_append,List.length_cons,List.length_nil] at *;have:textB.length=4:=rfl;omega) (by show 1≤1000;omega))
   clear HBr H4 HROW
   go_wp2_with fail
   refine HSY.out.mono ?_
   intro e w5 hq
   obtain ⟨⟨v,hu⟩,h5⟩:=hq
   subst hu
   have H5:=Lib.hid (show DsP _ base F g d (t++linesS [textB++32 :: strL tx,byB++bysS bs]) w5 from DsP.after HB3.out (h5.congr rfl (by simp [linesS])))
   clear h5 HSY
   go_wp2
   refine bodyPost_end (results_none rfl _ _ _) rfl ?_
   exact ⟨⟨_,rfl⟩,H5.out⟩
theorem dthen_c (h:DsAt w base F g d t) (ho:d.Ok) (n:Int) (hl:t.length≤80000000) (hk:LibK w) (hB:lowB≤base) :
 Calls Tryz.prog 55 #[.pointer (some ⟨g,0,none⟩),.int .i64 n] w fun e w'=>(∃ u,e=.returned u)∧DsP w base F g d (t++linesS (tellK d (.thn n)).2) w':=by
 by_cases hn:0≤n∧n≤d.lm.L.length
 ·have e:linesS (tellK d (.thn n)).2=linesS [textB++32 :: strL (txtL d.lm.L n.toNat),byB++bysS (bysL d.lm.L n.toNat)]:=by simp only [tellK];rw [if_pos hn]
  rw [e]
  have:=then_ok h ho n.toNat (by omega) hl hk hB
  rwa [show ((n.toNat:Nat):Int)=n by omega] at this
 ·have e:linesS (tellK d (.thn n)).2=codeL 5++[10]:=by simp only [tellK];rw [if_neg hn];rfl
  rw [e]
  exact then_no h ho n (by omega) hl hk
end
end Go.Proofs.YtneoeokfffnonaaGreatDoor
