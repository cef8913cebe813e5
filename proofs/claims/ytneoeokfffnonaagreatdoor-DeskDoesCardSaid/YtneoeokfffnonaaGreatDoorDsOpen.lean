/- A desk tells a writer's open deeds, and the log. -/
import Derived.Test.YtneoeokfffnonaaGreatDoorDsText
import Derived.Test.YtneoeokfffnonaaGreatDoorDeedL
set_option linter.unusedVariables false
set_option linter.unusedSimpArgs false
namespace Go.Proofs.YtneoeokfffnonaaGreatDoor
open Go.RowKit Go
theorem lineF_ok {u:Dd} (h:deedFault u=0):lineF u=(lineB u,0):=by unfold lineF;rw [if_pos h]
theorem said1 (L:Str):saidL [⟨L.toArray⟩]=L:=by simp [saidL,Lib.join]
theorem lines_take (l:List Dd) (k:Nat) (h:k < l.length):linesS ((l.take (k+1)).map lineB)=linesS ((l.take k).map lineB)++(lineB l[k]++[10]):=by
 rw [List.take_succ_eq_append_getElem h,List.map_append,linesS_app];rfl
theorem lines_le (l:List Dd) (hf:∀ u∈l,deedFault u=0) (hl:l.length≤1000) (k:Nat):(linesS ((l.take k).map lineB)).length≤201000:=by
 have:=linesS_len 200 ((l.take k).map lineB) (fun x hx=>by
  obtain ⟨u,hu,rfl⟩:=List.mem_map.1 hx
  exact line_len (hf u (List.mem_of_mem_take hu)))
 rw [List.length_map,List.length_take] at this
 have h2:(min k l.length) * (200+1)≤1000 * 201:=Nat.mul_le_mul (by omega) (by omega)
 omega
section
variable {w:World} {base:Nat} {F:Nat→Prop} {g:Nat} {d:DkM} {t:Str}
set_option maxRecDepth 100000 in
set_option maxHeartbeats 1000000 in
theorem open_none (h:DsAt w base F g d t) (x:Int) (hw:d.writer x=none) (hl:t.length≤80000000) (hk:LibK w) :
 Calls Tryz.prog 53 #[.pointer (some ⟨g,0,none⟩),.int .i64 x] w fun e w'=>(∃ u,e=.returned u)∧DsP w base F g d (t++(codeL 5++[10])) w':=by
 obtain ⟨gd,FD,gw,hc,hd,-⟩:=h.deskZ
 have HD:=Lib.hid hd
 have HH:=Lib.hid h
 have HK:=Lib.hid hk
 have HL:=Lib.hid hl
 have HP:=Lib.hid (DkM.ptr_none hw gw)
 clear hd h hk hl hw
 go_enter Tryz.func53,Tryz.ntmps53
 go_wp2_with fail
 refine (DWriter_c HD.out x).mono ?_
 rintro e w1 ⟨rfl,rfl⟩
 rw [HP.out]
 clear HD HP hc
 go_wp2_with fail
 refine (dsnum_c 5 (by unfold i64ok;omega) _ HK.out).mono ?_
 rintro e w3 ⟨rfl,hb3⟩
 have HSY:=Lib.hid (sayN_c (DsP.start HH.out hb3) [⟨#[110,111]⟩,⟨(Lib.itoa 5).toArray⟩] #[.string ⟨#[110,111]⟩,.string ⟨(Lib.itoa 5).toArray⟩] 9 rfl (codeL 5) said5 (by have:=HL.out;have:=code5_len;omega) (by show 2≤1000;omega))
 clear hb3 HH HK HL
 go_wp2_with fail
 refine HSY.out.mono ?_
 intro e w4 hq
 obtain ⟨⟨u,hu⟩,h4⟩:=hq
 subst hu
 have H4:=Lib.hid h4
 clear h4 HSY
 go_wp2
 refine bodyPost_ret (results_none rfl _ _ _) rfl ?_
 exact ⟨⟨_,rfl⟩,H4.out⟩
set_option maxRecDepth 100000 in
set_option maxHeartbeats 1000000 in
theorem open_some (h:DsAt w base F g d t) (ho:d.Ok) (hs:d.Sm 1000) (x:Int) {m:WM} (hw:d.writer x=some m) (hl:t.length≤80000000) (hk:LibK w) (hB:lowB≤base) :
 Calls Tryz.prog 53 #[.pointer (some ⟨g,0,none⟩),.int .i64 x] w fun e w'=>(∃ u,e=.returned u)∧DsP w base F g d (t++linesS (m.ds.map lineB++[endB])) w':=by
 obtain ⟨gd,FD,gw,hc,hd,-⟩:=h.deskZ
 obtain ⟨hx,hme,hW,tm,hin⟩:=ho.of_writer hw
 obtain ⟨FW,_,_,hwr,_⟩:=hd.wrZ (toNat_lt hx).1 hW
 have hfa:=ds_fault hin ho.lm
 have hol:=hs.writer hw
 have hdl:m.ds.length=m.opn.length:=by unfold WM.ds;rw [List.length_map]
 have hop:=WOpen_c hwr (by show m.opn.length≤1000000;omega)
 have HT:=Lib.hid (show Calls Tryz.prog 88 #[.pointer (some ⟨(gw x.toNat),0,none⟩)] w fun e w'=>∃ a' cap',e=.returned (.slice a' m.ds.length cap')∧OwnRow w' w.heap.size 122 7 a' m.ds.length cap' (flatD m.ds)∧Below w.heap.size w w' from by
  rw [hdl];exact hop)
 have HD:=Lib.hid hd
 have HH:=Lib.hid h
 have HL:=Lib.hid hl
 have HK:=Lib.hid hk
 have HB:=Lib.hid hB
 have HP:=Lib.hid (DkM.ptr_some hw gw)
 have hdn:m.ds.length≤1000:=by omega
 clear hd h hl hw ho hin hwr hW hme hx hk hB hs hop hol hdl
 generalize gw x.toNat=gx at *
 generalize m.ds=ds at *
 have HFA:=Lib.hid hfa
 clear hfa
 go_enter Tryz.func53,Tryz.ntmps53
 go_wp2_with fail
 refine (DWriter_c HD.out x).mono ?_
 rintro e w1 ⟨rfl,rfl⟩
 rw [HP.out]
 clear HD HP hc
 go_wp2_with fail
 refine HT.out.mono ?_
 rintro e w3 ⟨a',cap',rfl,hown,hb3⟩
 have HR:=Lib.hid (show ∀ W,Moves F w3 W→SlDd W a' cap' ds from fun W hW=>(hown.moves hW (fun k hk e=>by have:=(hown.base_le k hk).1;have:=(HH.out.foot k e).2;omega)).slDd)
 have H3:=Lib.hid (HH.out.later hb3)
 have HK3:=Lib.hid (HK.out.later hb3)
 have HB3:=Lib.hid hb3
 have HST:=Lib.hid (show DsP w3 base F g d (t++linesS ((ds.take 0).map lineB)) w3 from (DsP.start (HH.out.later hb3) (Below.refl _ _)).congr rfl (by simp [linesS]))
 clear hown hb3 HT HK
 go_wp2
 go_loopw [24] (fun s24 wr=>∃ (k:Nat),k≤ds.length∧s24=(.int .i64 (k:Int))∧Hid (DsP w3 base F g d (t++linesS ((ds.take k).map lineB)) wr)) (fun s24 _=>ds.length - (intOf s24).toNat)
 case atStart=>exact ⟨0,Nat.zero_le _,rfl,HST⟩
 case round=>
  obtain ⟨k,hk,rfl,HS⟩:=hrel
  rename World=>wr
  clear HST
  by_cases hlt:k < ds.length
  ·have hlt' : (k:Int) < (ds.length:Int):=by omega
   have hk0:(0:Int)≤(k:Int):=by omega
   obtain ⟨F1,q1,q2,q3⟩:=HS.out
   have HKr:=Lib.hid (HS.out.libK H3.out HB.out HK3.out)
   obtain ⟨b,off,rfl,hc⟩:=(HR.out wr q2).nth hlt
   obtain ⟨x0,x1,x2,x3,x4,x5,x6⟩:=hc
   have HU:=Lib.hid (HFA.out ds[k] (List.getElem_mem hlt))
   have HLT:=Lib.hid (lines_take ds k hlt)
   have HLE:=Lib.hid (lines_le ds HFA.out hdn k)
   clear q1 q2 q3
   generalize ds[k]=u at *
   have HOK:=Lib.hid (ok_of_fault HU.out)
   have HLF:=Lib.hid (lineF_ok HU.out)
   have hbo:=(Below.refl wr.heap.size wr).alloc (Nat.le_refl _) (.cells #[.int .i64 u.Kind,.int .i64 u.By,.int .i64 u.No,.int .i64 u.Seen,.int .i64 u.At,.int .i64 u.Many,.string u.Text] 122)
   have HKr2:=Lib.hid (HKr.out.later hbo)
   have HSo:=Lib.hid (HS.out.later hbo)
   clear hbo HKr HS
   go_wp2_with fail
   refine (Line_c u _ HOK.out HKr2.out).mono ?_
   rintro e w4 ⟨rfl,hb4⟩
   rw [HLF.out]
   have HSY:=Lib.hid (sayN_c (HSo.out.later hb4) [⟨(lineB u).toArray⟩] #[.string ⟨(lineB u).toArray⟩] 9 rfl (lineB u) (said1 _) (by have:=HL.out;have:=HLE.out;have:=line_len HU.out;rw [List.length_append];omega) (by show 1≤1000;omega))
   clear hb4 HSo HKr2 x0 x1 x2 x3 x4 x5 x6
   go_wp2_with fail
   refine HSY.out.mono ?_
   intro e w5 hq
   obtain ⟨⟨v,hu⟩,h5⟩:=hq
   subst hu
   have H5:=Lib.hid (show DsP w3 base F g d (t++linesS ((ds.take (k+1)).map lineB)) w5 from h5.congr rfl (by rw [HLT.out,List.append_assoc]))
   clear h5 HSY
   go_wp2
   exact ⟨⟨k+1,by omega,by go_num,H5⟩,by simp [intOf];omega⟩
  ·obtain rfl:k=ds.length:=by omega
   have hltB:decide ((ds.length:Int) < (ds.length:Int))=false:=by simp
   have HSE:=Lib.hid (show DsP w3 base F g d (t++linesS (ds.map lineB)) wr from HS.out.congr rfl (by rw [List.take_length]))
   have HLE:=Lib.hid (show (linesS (ds.map lineB)).length≤201000 from by have:=lines_le ds HFA.out hdn ds.length;rwa [List.take_length] at this)
   have HSY:=Lib.hid (sayN_c HSE.out [⟨#[101,110,100]⟩] #[.string ⟨#[101,110,100]⟩] 9 rfl endB rfl (by have:=HL.out;have:=HLE.out;rw [List.length_append];show _+3≤_;omega) (by show 1≤1000;omega))
   clear HS HSE HLE
   go_wp2_with fail
   refine HSY.out.mono ?_
   intro e w5 hq
   obtain ⟨⟨v,hu⟩,h5⟩:=hq
   subst hu
   have H5:=Lib.hid (show DsP _ base F g d (t++linesS (ds.map lineB++[endB])) w5 from DsP.after HB3.out (h5.congr rfl (by rw [linesS_app,List.append_assoc];rfl)))
   clear h5 HSY
   go_wp2
   refine bodyPost_end (results_none rfl _ _ _) rfl ?_
   exact ⟨⟨_,rfl⟩,H5.out⟩
theorem dopen_c (h:DsAt w base F g d t) (ho:d.Ok) (hs:d.Sm 1000) (x:Int) (hl:t.length≤80000000) (hk:LibK w) (hB:lowB≤base) :
 Calls Tryz.prog 53 #[.pointer (some ⟨g,0,none⟩),.int .i64 x] w fun e w'=>(∃ u,e=.returned u)∧DsP w base F g d (t++linesS (tellK d (.opn x)).2) w':=by
 cases hw:d.writer x with
 | none=>
  have e:linesS (tellK d (.opn x)).2=codeL 5++[10]:=by simp only [tellK,hw];rfl
  rw [e];exact open_none h x hw hl hk
 | some m=>
  have e:linesS (tellK d (.opn x)).2=linesS (m.ds.map lineB++[endB]):=by simp only [tellK,hw]
  rw [e];exact open_some h ho hs x hw hl hk hB
set_option maxRecDepth 100000 in
set_option maxHeartbeats 1000000 in
theorem dlog_c (h:DsAt w base F g d t) (ho:d.Ok) (hl:t.length≤80000000) (hk:LibK w) (hB:lowB≤base) :
 Calls Tryz.prog 54 #[.pointer (some ⟨g,0,none⟩)] w fun e w'=>(∃ u,e=.returned u)∧DsP w base F g d (t++linesS (tellK d .log).2) w':=by
 have hfa:=log_fault ho.lm
 have hn:=ho.lm.len
 have HH:=Lib.hid h
 have HL:=Lib.hid hl
 have HK:=Lib.hid hk
 have HB:=Lib.hid hB
 have HFA:=Lib.hid hfa
 have HST:=Lib.hid (show DsP w base F g d (t++linesS ((d.lm.L.take 0).map lineB)) w from (DsP.start h (Below.refl _ _)).congr rfl (by simp [linesS]))
 show Calls _ _ _ _ fun e w'=>_∧DsP w base F g d (t++linesS (d.lm.L.map lineB++[endB])) w'
 have HLG:=Lib.hid (show ∀ W,DsP w base F g d (t++linesS ((d.lm.L.take 0).map lineB)) W→True from fun _ _=>trivial)
 obtain ⟨ds,hds⟩:∃ ds,ds=d.lm.L:=⟨_,rfl⟩
 rw [← hds] at HST HFA hn ⊢
 have HDS:=Lib.hid hds
 clear hds h hl hk hB hfa ho HLG
 go_enter Tryz.func54,Tryz.ntmps54
 go_wp2
 go_loopw [2] (fun s2 wr=>∃ (k:Nat),k≤ds.length∧s2=(.int .i64 ((k:Int)+1))∧Hid (DsP w base F g d (t++linesS ((ds.take k).map lineB)) wr)) (fun s2 _=>ds.length+1 - (intOf s2).toNat)
 case atStart=>exact ⟨0,Nat.zero_le _,rfl,HST⟩
 case round=>
  obtain ⟨k,hk,rfl,HS⟩:=hrel
  rename World=>wr
  clear HST
  obtain ⟨F1,q1,q2,q3⟩:=HS.out
  have HKr:=Lib.hid (HS.out.libK HH.out HB.out HK.out)
  obtain ⟨gd,FD,gw,hc,hd,-⟩:=q1.deskZ
  obtain ⟨gl,FL,_,c0,hlog,_⟩:=hd.logZ
  have hln:(d.lm.L.length:Int)=(ds.length:Int):=by rw [HDS.out]
  have HLG:=Lib.hid hlog
  have hw1:IntKind.i64.wrap ((k:Int)+1+1)=(k:Int)+1+1:=by rw [IntKind.wrap_i64];omega
  clear q1 q2 q3 hlog hd
  by_cases hlt:k < ds.length
  ·have hltB:decide ((k:Int)+1≤(ds.length:Int))=true:=decide_eq_true (by omega)
   have HU:=Lib.hid (HFA.out ds[k] (List.getElem_mem hlt))
   have HLT:=Lib.hid (lines_take ds k hlt)
   have HLE:=Lib.hid (lines_le ds HFA.out (by omega) k)
   have HEQ:=Lib.hid (show ∀ (j:Nat) (hj:j < d.lm.L.length),j=k→d.lm.L[j]=ds[k] from fun j hj e=>by subst e;simp only [HDS.out])
   go_wp2_with fail
   refine (Len_c HLG.out).mono ?_
   rintro e w3 ⟨rfl,rfl⟩
   rw [hln]
   go_wp2_with fail
   refine (Deed_c HLG.out ((k:Int)+1)).mono ?_
   rintro e w4 ⟨hb4,h4⟩
   rcases h4 with ⟨rfl,h5⟩ | ⟨j,hj,e1,rfl⟩
   ·exfalso;rw [hln] at h5;omega
   ·have ej:j=k:=by omega
    rw [HEQ.out j hj ej]
    clear ej e1 hj j HEQ hln
    generalize ds[k]=u at *
    have HOK:=Lib.hid (ok_of_fault HU.out)
    have HLF:=Lib.hid (lineF_ok HU.out)
    have hbo:=(Below.refl w4.heap.size w4).alloc (Nat.le_refl _) (.cells #[.int .i64 u.Kind,.int .i64 u.By,.int .i64 u.No,.int .i64 u.Seen,.int .i64 u.At,.int .i64 u.Many,.string u.Text] 122)
    have HKr2:=Lib.hid ((HKr.out.later hb4).later hbo)
    have HSo:=Lib.hid ((HS.out.later hb4).later hbo)
    clear hbo HKr HS hb4 hc c0 HLG
    go_wp2_with fail
    refine (Line_c u _ HOK.out HKr2.out).mono ?_
    rintro e w5 ⟨rfl,hb5⟩
    rw [HLF.out]
    have HSY:=Lib.hid (sayN_c (HSo.out.later hb5) [⟨(lineB u).toArray⟩] #[.string ⟨(lineB u).toArray⟩] 9 rfl (lineB u) (said1 _) (by have:=HL.out;have:=HLE.out;have:=line_len HU.out;rw [List.length_append];omega) (by show 1≤1000;omega))
    clear hb5 HSo HKr2
    go_wp2_with fail
    refine HSY.out.mono ?_
    intro e w6 hq
    obtain ⟨⟨v,hu⟩,h6⟩:=hq
    subst hu
    have H6:=Lib.hid (show DsP w base F g d (t++linesS ((ds.take (k+1)).map lineB)) w6 from h6.congr rfl (by rw [HLT.out,List.append_assoc]))
    clear h6 HSY
    go_wp2
    exact ⟨⟨k+1,by omega,by go_num,H6⟩,by simp [intOf];omega⟩
  ·obtain rfl:k=ds.length:=by omega
   have hltB:decide ((ds.length:Int)+1≤(ds.length:Int))=false:=decide_eq_false (by omega)
   have HSE:=Lib.hid (show DsP w base F g d (t++linesS (ds.map lineB)) wr from HS.out.congr rfl (by rw [List.take_length]))
   have HLE:=Lib.hid (show (linesS (ds.map lineB)).length≤201000 from by have:=lines_le ds HFA.out (by omega) ds.length;rwa [List.take_length] at this)
   have HSY:=Lib.hid (sayN_c HSE.out [⟨#[101,110,100]⟩] #[.string ⟨#[101,110,100]⟩] 9 rfl endB rfl (by have:=HL.out;have:=HLE.out;rw [List.length_append];show _+3≤_;omega) (by show 1≤1000;omega))
   go_wp2_with fail
   refine (Len_c HLG.out).mono ?_
   rintro e w3 ⟨rfl,rfl⟩
   rw [hln]
   clear HS HSE HLE HLG hc c0
   go_wp2_with fail
   refine HSY.out.mono ?_
   intro e w5 hq
   obtain ⟨⟨v,hu⟩,h5⟩:=hq
   subst hu
   have H5:=Lib.hid (show DsP w base F g d (t++linesS (ds.map lineB++[endB])) w5 from h5.congr rfl (by rw [linesS_app,List.append_assoc];rfl))
   clear h5 HSY
   go_wp2
   refine bodyPost_end (results_none rfl _ _ _) rfl ?_
   exact ⟨⟨_,rfl⟩,H5.out⟩
end
end Go.Proofs.YtneoeokfffnonaaGreatDoor
