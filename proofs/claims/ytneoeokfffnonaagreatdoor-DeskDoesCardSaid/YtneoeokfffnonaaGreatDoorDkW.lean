/- Merged: DkW DkW2. -/
import Derived.Test.YtneoeokfffnonaaGreatDoorDkObj
import Derived.Test.YtneoeokfffnonaaGreatDoorWrDo
import Derived.Test.YtneoeokfffnonaaGreatDoorLogW3
set_option linter.unusedVariables false
set_option linter.unusedSimpArgs false
namespace Go.Proofs.YtneoeokfffnonaaGreatDoor
open Go.RowKit
section
variable {w:World} {base:Nat} {F:Nat→Prop} {g:Nat} {gw:Nat→Nat} {d:DkM}
theorem writer_nat {x:Int} (h:isWriter x=true):∃ j:Nat,j < 4∧x=(j:Int):=⟨x.toNat,(toNat_lt h).1,(toNat_lt h).2.symm⟩
theorem DWriter_c (h:DkAt w base F g gw d) (x:Int):Calls Tryz.prog 78 #[.pointer (some ⟨g,0,none⟩),.int .i64 x] w fun e w'=>e=.returned (d.ptr gw x)∧w'=w:=by
 obtain ⟨gl,FL,FW,r⟩:=h.rows
 cases hx:isWriter x
 ·have HP:=Lib.hid (show d.ptr gw x=.pointer none from DkM.ptr_none (by unfold DkM.writer;rw [hx];rfl) gw)
  clear r h
  go_enter Tryz.func78,Tryz.ntmps78
  go_wp2_with (go_at_call 125;refine (Writer_c _ _).mono ?_;rintro e w' ⟨rfl,rfl⟩)
  go_ret
  exact ⟨by rw [HP.out];rfl,rfl⟩
 ·obtain ⟨j,hj,rfl⟩:=writer_nat hx
  have HP:=Lib.hid (show d.ptr gw (j:Int)=d.ptrN gw j from by have:=DkM.ptr_N (d:=d) hx gw;simpa using this)
  have c:=r.cellW j hj
  have hj0:(0:Int)≤(j:Int):=by omega
  have hj4:(j:Int) < 4:=by omega
  clear r h
  go_enter Tryz.func78,Tryz.ntmps78
  go_wp2_with (go_at_call 125;refine (Writer_c _ _).mono ?_;rintro e w' ⟨rfl,rfl⟩)
  go_ret
  exact ⟨by rw [HP.out];rfl,rfl⟩
def DPost (w:World) (base:Nat) (F:Nat→Prop) (g:Nat) (gw:Nat→Nat) (d d' : DkM) (w' : World):Prop:=
 ∃ F' gw',DkAt w' base F' g gw' d'∧Moves F w w'∧Grows F w F'∧∀ j,d.W j≠none→gw' j=gw j
theorem DPost.same {w' : World} (h:DkAt w' base F g gw d) (hm:Moves F w w'):DPost w base F g gw d d w':=⟨F,gw,h,hm,fun _ hk=>.inl hk,fun _ _=>rfl⟩
theorem LogM.join_code {m:LogM} {x:Int} (h:(m.joinF x).2.2≠0):(m.joinF x).1=m:=by
 unfold LogM.joinF at *
 split
 ·rename_i h1
  rw [if_pos h1] at h
  split
  ·rfl
  ·rename_i h2;rw [if_neg h2] at h;exact absurd rfl h
 ·rfl
theorem LogM.Ok.fault {m:LogM} (h:m.Ok):listFault m.chars (m.L.length:Int)=0:=(lists_check m.L (by have:=h.len;omega) (fun j hj=>let d:=h.deeds j hj;⟨d.w,d.no,d.s1⟩) h.all).1
theorem LogM.Ok.shut {m:LogM} (h:m.Ok):∀ c∈m.chars,c.In≠1073741824:=by
 intro c hc
 have hc' : c∈pre m.L m.L.length:=by rw [pre_len];exact hc
 have g:=(h.lok.made m.L.length (Nat.le_refl _)).good c hc'
 have:=h.len
 have:=g.in2
 omega
def JoinPost (w:World) (base:Nat) (F:Nat→Prop) (g:Nat) (gw:Nat→Nat) (d:DkM) (x:Int) (e:Ending) (w' : World):Prop:=
 e=.returned (.int .i64 (d.lm.joinF x).2.2)∧DPost w base F g gw d (if (d.lm.joinF x).2.2=0 then d.set (d.lm.joinF x).1 x (some (WM.new d.lm x)) else d) w'
set_option maxRecDepth 100000 in
theorem Djoin_c (h:DkAt w base F g gw d) (ho:d.Ok) (x:Int):Calls Tryz.prog 77 #[.pointer (some ⟨g,0,none⟩),.int .i64 x] w (JoinPost w base F g gw d x):=by
 obtain ⟨gl,FL,hFL,c0,hlog,put⟩:=h.logZ
 have HO:=Lib.hid ho
 have HJ:=Lib.hid (ho.join x)
 have HLK:=Lib.hid ho.lm
 have HJO:=Lib.hid (ho.lm.join x)
 have HPut:=Lib.hid put
 have HD:=Lib.hid h
 clear put h ho
 go_enter Tryz.func77,Tryz.ntmps77
 go_wp2_with fail
 refine (Join_c hlog x HLK.out).mono ?_
 rintro e w1 ⟨rfl,hL1,hM1⟩
 obtain ⟨hD1,hm1,hg1⟩:=HPut.out w1 FL (d.lm.joinF x).1 hM1 hL1 (fun k hk=>.inl hk)
 have HD1:=Lib.hid hD1;have HM1:=Lib.hid hm1;have HG1:=Lib.hid hg1
 clear hlog hL1 hM1 hD1 hm1 hg1 HPut c0 hFL
 by_cases h0:(d.lm.joinF x).2.2=0
 case neg=>
  have HE:=Lib.hid (LogM.join_code h0)
  have HIF:=Lib.hid (show (if (d.lm.joinF x).2.2=0 then d.set (d.lm.joinF x).1 x (some (WM.new d.lm x)) else d)=d from if_neg h0)
  have hneB:((d.lm.joinF x).2.2 !=0)=true:=by simpa using h0
  have hneD:decide ((d.lm.joinF x).2.2=0)=false:=decide_eq_false h0
  clear h0
  have HD2:=Lib.hid (HD1.out.congr (show d.setL (d.lm.joinF x).1=d from by rw [HE.out];rfl))
  have HFIN:=Lib.hid (show JoinPost w base F g gw d x (.returned (.int .i64 (d.lm.joinF x).2.2)) w1 from ⟨rfl,by rw [HIF.out];exact ⟨_,gw,HD2.out,HM1.out,HG1.out,fun _ _=>rfl⟩⟩)
  clear HD1 HE HIF HJ HJO HD2
  generalize hcode:(d.lm.joinF x).2.2=code at *
  generalize (d.lm.joinF x).2.1=nx at *
  clear hcode
  go_wp2
  go_ret
  exact HFIN.out
 obtain ⟨hok,hx,hh⟩:=HJ.out h0
 have HIF:=Lib.hid (show (if (d.lm.joinF x).2.2=0 then d.set (d.lm.joinF x).1 x (some (WM.new d.lm x)) else d)=d.set (d.lm.joinF x).1 x (some (WM.new d.lm x)) from if_pos h0)
 have HC0:=Lib.hid h0
 rw [h0]
 have HNX:=Lib.hid (show (d.lm.joinF x).2.1=(d.lm.seat x).last+1∧(d.lm.joinF x).1.L=d.lm.L from by
  unfold LogM.joinF;rw [if_pos hx,if_neg (by rw [hh];simp)];exact ⟨rfl,rfl⟩)
 have HNN:=Lib.hid (show d.W x.toNat=none from by
  cases e:d.W x.toNat with
  | none=>rfl
  | some m=>
   have:=HO.out.here_of (w:=x) (m:=m) (by unfold DkM.writer;rw [if_pos hx];exact e)
   rw [hh] at this;cases this)
 have HCH:=Lib.hid (show (d.lm.joinF x).1.chars=d.lm.chars from by unfold LogM.chars;rw [HNX.out.2])
 have HLA:=Lib.hid (show 0≤(d.lm.seat x).last from by
  have h1:=HLK.out.last x hx
  have h3:=cntBy_nonneg x d.lm.L
  omega)
 clear h0 hok hh HJ
 obtain ⟨j,hj,rfl⟩:=writer_nat hx
 obtain ⟨lm1,hlm⟩:∃ lm1,lm1=(d.lm.joinF (j:Int)).1:=⟨_,rfl⟩
 rw [← hlm] at HD1 HNX HCH HJO
 have HLM:=Lib.hid hlm
 rw [HNX.out.1]
 clear hlm
 have hLL:lm1.L=d.lm.L:=HNX.out.2
 obtain ⟨nx,hnx⟩:∃ nx,nx=(d.lm.seat (j:Int)).last+1:=⟨_,rfl⟩
 rw [← hnx]
 have HNE:=Lib.hid hnx
 clear hnx
 go_upto_region 4 with fail
 obtain ⟨gl,FL,hFL,c0,hlog,put⟩:=HD1.out.logZ
 have C0:=later_cell c0
 have HLG:=Lib.hid (show LogAt w1 _ FL gl lm1 from hlog)
 have hlen:d.lm.L.length≤120:=HLK.out.len
 clear c0 hlog put hFL
 have hL:∀ q:Lt w1,Later w1 q.v:=fun q=>q.h
 have hj0:(0:Int)≤(j:Int):=by omega
 have hj4:(j:Int) < 4:=by omega
 refine wp_region_mixh [13,14] [18] [0,1,2,3,4,5,6,7,8,9,10,11,12,15,16,13,14,17,18] (by kernel_rfl) (by kernel_rfl) ?_
 iterate 8 (refine wpMixH_step rfl (fun K hK=>?_);go_simp;refine hK _ _ ?_;clear hK K)
 refine wpMixH_step rfl (fun K hK=>?_)
 go_simp
 refine ⟨_,fun p=>quietM_same p (Len_c (HLG.out.later (hL p))),hK _ _ ?_⟩
 clear hK K
 iterate 6 (refine wpMixH_step rfl (fun K hK=>?_);go_simp;refine hK _ _ ?_;clear hK K)
 refine wpMixH_step rfl (fun K hK=>?_)
 go_simp
 intro p
 refine (Chars_c (HLG.out.later (hL p)) HJO.out).mono ?_
 rintro e w2 ⟨aC,capC,rfl,hoC,hbC⟩
 refine ⟨_,rfl,hbC,hK _ _ ?_⟩
 clear hK K
 have hl2:Later w1 w2:=(hL p).trans hbC
 have HSC:=Lib.hid hoC.slCh
 have HNC:=Lib.hid hoC.nilcap
 clear hoC hbC p hL
 refine wpMixH_step rfl (fun K hK=>?_)
 go_simp
 intro p
 refine (WNew_c (j:Int) nx (d.lm.L.length:Int) aC capC lm1.chars p.v (HSC.out.below p.h) HNC.out (isWriter_nat hj) (by have:=HLA.out;have:=HNE.out;omega) (by omega) (by rw [← hLL];exact HJO.out.fault) HJO.out.shut).mono ?_
 rintro e w3 ⟨F2,g2,rfl,hW3,hb3⟩
 refine ⟨_,rfl,hb3,hK _ _ ?_⟩
 clear hK K
 have hl3:Later w1 w3:=(hl2.trans p.h).trans hb3
 have HW3:=Lib.hid (hW3.mono (show w1.heap.size≤p.v.heap.size from (hl2.trans p.h).size))
 clear hW3 hb3 p hl2 HSC HNC
 (refine wpMixH_step rfl (fun K hK=>?_);go_simp;refine hK _ _ ?_;clear hK K)
 refine wpMixH_step rfl (fun K hK=>?_)
 have HDp:=Lib.hid (fun (p:Lt w3)=>HD1.out.later (hl3.trans p.h))
 have HWp:=Lib.hid (fun (p:Lt w3)=>HW3.out.later p.h)
 go_simp
 intro p
 have HP3:=Lib.hid p.h
 have hfz:p.v.frozen? ⟨g,1+j,none⟩=false:=(HDp.out p).fz (1+j) (by omega)
 obtain ⟨_,_,_,rr⟩:=(HDp.out p).rows
 have hcell:=rr.cellW j hj
 have HWq:=Lib.hid (HWp.out p)
 have HLq:=Lib.hid (hl3.trans p.h)
 clear rr HDp HWp hl3
 go_simp
 refine hK _ _ ?_
 clear hK K hfz hcell
 obtain ⟨q1,q2,q3⟩:=HD1.out.comeW hj HLq.out (m:=WM.new d.lm (j:Int)) (F2:=F2) (g2:=g2) (by
  have h4:=HWq.out
  have e:(⟨(j:Int),(d.lm.L.length:Int),nx,lm1.chars,[],0⟩:WrV)=(WM.new d.lm (j:Int)).v:=by
   rw [HNE.out,HCH.out];rfl
  rw [← e];exact h4)
 refine wpMixH_nil ?_
 intro w5 hL5
 have HD5:=Lib.hid (q1.later hL5)
 have HM5:=Lib.hid ((HM1.out.trans q2 (fun k hk h=>by
  rcases HG1.out k h with h1 | h1
  ·exact h1
  ·omega)).trans (Moves.of_below (F:=F) hL5) (fun _ _ k=>k))
 have HG5:=Lib.hid (show Grows F w _ from fun k hk=>by
  rcases q3 k hk with h1 | h1
  ·exact HG1.out k h1
  ·exact .inr (Nat.le_trans HM1.out.size h1))
 clear q1 q2 q3 hL5
 have HFIN:=Lib.hid (show JoinPost w base F g gw d (j:Int) (.returned (.int .i64 0)) w5 from ⟨by rw [HC0.out],by
  rw [HIF.out]
  refine ⟨_,_,HD5.out.congr ?_,HM5.out,HG5.out,fun i hi=>if_neg fun e=>hi ?_⟩
  ·rw [DkM.set_eq,← HLM.out];simp only [Int.toNat_natCast]
  ·rw [e];have:=HNN.out;simpa using this⟩)
 clear HD5 HM5 HG5 HWq
 go_wp2
 go_ret
 exact HFIN.out
def DPost' (w:World) (base:Nat) (F:Nat→Prop) (g:Nat) (gw:Nat→Nat) (d' : DkM) (w' : World):Prop:=∃ F',DkAt w' base F' g gw d'∧Moves F w w'∧Grows F w F'
theorem DPost'.post {d' : DkM} {w' : World} (h:DPost' w base F g gw d' w'):DPost w base F g gw d d' w':=by
 obtain ⟨F',h1,h2,h3⟩:=h
 exact ⟨F',gw,h1,h2,h3,fun _ _=>rfl⟩
theorem DPost'.same {w' : World} (h:DkAt w' base F g gw d) (hm:Moves F w w'):DPost' w base F g gw d w':=⟨F,h,hm,fun _ hk=>.inl hk⟩
theorem Grows.trans {F F1 F2:Nat→Prop} {w w1:World} (h:Grows F w F1) (hs:w.heap.size≤w1.heap.size) (k:Grows F1 w1 F2):Grows F w F2:=fun i hi=>by
 rcases k i hi with h1 | h1
 ·exact h i h1
 ·exact .inr (Nat.le_trans hs h1)
theorem Moves.transG {F F1:Nat→Prop} {w w1 w2:World} (h:Moves F w w1) (hg:Grows F w F1) (k:Moves F1 w1 w2):Moves F w w2:=h.trans k fun i hi h1=>by
 rcases hg i h1 with h2 | h2
 ·exact h2
 ·omega
theorem DPost'.trans {d1 d2:DkM} {w1 w2:World} (h:DPost' w base F g gw d1 w1) (k:∀ F1,DkAt w1 base F1 g gw d1→DPost' w1 base F1 g gw d2 w2):DPost' w base F g gw d2 w2:=by
 obtain ⟨F1,h1,h2,h3⟩:=h
 obtain ⟨F2,k1,k2,k3⟩:=k F1 h1
 exact ⟨F2,k1,h2.transG h3 k2,h3.trans h2.size k3⟩
theorem Ddrop_c (h:DkAt w base F g gw d) (x:Int) (hx:isWriter x=true):Calls Tryz.prog 85 #[.pointer (some ⟨g,0,none⟩),.int .i64 x] w fun e w'=>(∃ v,e=.returned v)∧DPost' w base F g gw (d.drop x) w':=by
 obtain ⟨gl,FL,hFL,c0,hlog,put⟩:=h.logZ
 obtain ⟨j,hj,rfl⟩:=writer_nat hx
 have HPut:=Lib.hid put
 have hj0:(0:Int)≤(j:Int):=by omega
 have hj4:(j:Int) < 4:=by omega
 clear put h
 go_enter Tryz.func85,Tryz.ntmps85
 go_wp2_with fail
 refine (Leave_c hlog (j:Int)).mono ?_
 rintro e w1 ⟨rfl,hL1,hM1⟩
 obtain ⟨hD1,hm1,hg1⟩:=HPut.out w1 FL (d.lm.leaveF (j:Int)).1 hM1 hL1 (fun k hk=>.inl hk)
 have hfz:=hD1.fz (1+j) (by omega)
 obtain ⟨_,_,_,rr⟩:=hD1.rows
 have hcell:=rr.cellW j hj
 obtain ⟨q1,q2⟩:=hD1.goneW hj
 have HQ:=Lib.hid (show DPost' w base F g gw (d.drop (j:Int)) (w1.setCell ⟨g,1+j,none⟩ (.pointer none)) from ⟨_,q1.congr (by simp only [DkM.drop,DkM.set_eq,Int.toNat_natCast]),hm1.transG hg1 q2,hg1⟩)
 clear rr q1 q2 hD1 hm1 hg1 hL1 hM1 HPut hlog hFL c0
 generalize (d.lm.leaveF (j:Int)).2=code
 go_wp2
 refine bodyPost_end (results_none rfl _ _ _) rfl ?_
 exact ⟨⟨_,rfl⟩,HQ.out⟩
def leastTo (lm:LogM) (seen i:Nat):Int:=((lm.L.take i).drop seen).foldl (fun n d=>min n d.Seen) lm.least
theorem leastTo_start (lm:LogM) (seen:Nat):leastTo lm seen seen=lm.least:=by
 unfold leastTo;rw [List.drop_eq_nil_of_le (by rw [List.length_take];omega)];rfl
theorem leastTo_end (lm:LogM) (seen:Nat):leastTo lm seen lm.L.length=leastFor lm seen:=by unfold leastTo leastFor;rw [List.take_length]
theorem leastTo_step (lm:LogM) (seen i:Nat) (h:seen≤i) (hi:i < lm.L.length):leastTo lm seen (i+1)=min (leastTo lm seen i) lm.L[i].Seen:=by
 unfold leastTo
 rw [List.take_succ_eq_append_getElem hi,List.drop_append_of_le_length (by rw [List.length_take];omega),List.foldl_append];rfl
theorem Dleast_c (h:DkAt w base F g gw d) (ho:d.Ok) (x:Int) {m:WM} (hw:d.writer x=some m):Calls Tryz.prog 84 #[.pointer (some ⟨g,0,none⟩),.pointer (some ⟨(gw x.toNat),0,none⟩)] w fun e w'=>e=.returned (.int .i64 (leastFor d.lm m.seen))∧Below w.heap.size w w':=by
 obtain ⟨hx,hme,hW,t,hin⟩:=ho.of_writer hw
 have hsl:=hin.seen
 have hlen:=ho.lm.len
 obtain ⟨gl,FL,hFL,c0,hlog,_⟩:=h.logZ
 obtain ⟨FW,_,c1,hwr,_⟩:=h.wrZ (toNat_lt hx).1 hW
 have hglt:=h.lt
 have HLG:=Lib.hid hlog
 have HWR:=Lib.hid hwr
 have HLE:=Lib.hid (leastTo_end d.lm m.seen)
 have HLS:=Lib.hid (leastTo_start d.lm m.seen)
 have HST:=Lib.hid (leastTo_step d.lm m.seen)
 clear hlog hwr c1 hFL h ho hW hin hw
 generalize gw x.toNat=gx at *
 go_enter Tryz.func84,Tryz.ntmps84
 go_wp2_with fail
 refine (Least_c HLG.out).mono ?_
 rintro e w1 ⟨rfl,hb1⟩
 have hsn:IntKind.i64.wrap ((m.seen:Int)+1)=(m.seen:Int)+1:=by rw [IntKind.wrap_i64];omega
 have hvs:m.v.seen=(m.seen:Int):=rfl
 go_wp2_with fail
 refine (WSeen_c (HWR.out.later hb1)).mono ?_
 rintro e w2 ⟨rfl,rfl⟩
 rw [hvs]
 clear hvs
 go_wp2
 go_loopw [5,6] (fun s5 s6 wr=>∃ i:Nat,m.seen≤i∧i≤d.lm.L.length∧s6=(.int .i64 ((i:Int)+1))∧s5=(.int .i64 (leastTo d.lm m.seen i))∧Below w.heap.size w wr) (fun _ s6 _=>d.lm.L.length+1 - (intOf s6).toNat)
 case atStart=>exact ⟨m.seen,Nat.le_refl _,hsl,rfl,by rw [HLS.out],hb1⟩
 case round=>
  obtain ⟨i,hi1,hi2,rfl,rfl,hb⟩:=hrel
  clear hb1
  have c0r:=(hb.cell (p:=⟨g,0,none⟩) hglt).trans c0
  have HL:=Lib.hid (HLG.out.later hb)
  generalize hlo:leastTo d.lm m.seen i=n0 at *
  by_cases hlt:i < d.lm.L.length
  ·have hltB:decide ((i:Int)+1≤(d.lm.L.length:Int))=true:=decide_eq_true (by omega)
   have HS:=Lib.hid (HST.out i hi1 hlt)
   rw [hlo] at HS
   have hin:IntKind.i64.wrap ((i:Int)+1+1)=(i:Int)+1+1:=by rw [IntKind.wrap_i64];omega
   clear hlo
   go_wp2_with fail
   refine (Len_c HL.out).mono ?_
   rintro e w3 ⟨rfl,rfl⟩
   go_wp2_with fail
   refine (Deed_c HL.out ((i:Int)+1)).mono ?_
   rintro e w4 ⟨hb4,h4⟩
   rcases h4 with ⟨_,h5⟩ | ⟨k,hk,e1,rfl⟩
   ·exfalso;omega
   ·obtain rfl:k=i:=by omega
    generalize d.lm.L[k]=dd at *
    have hbx:=(hb.trans (hb4.mono hb.size)).alloc (Nat.le_trans hb.size hb4.size) (.cells #[.int .i64 dd.Kind,.int .i64 dd.By,.int .i64 dd.No,.int .i64 dd.Seen,.int .i64 dd.At,.int .i64 dd.Many,.string dd.Text] 122)
    clear hb hb4 c0r
    go_wp2
    exact ⟨⟨k+1,by omega,by omega,by go_num,by rw [HS.out];first | rfl | (simp;omega),hbx⟩,by simp [intOf];omega⟩
  ·obtain rfl:i=d.lm.L.length:=by omega
   have hltB:decide ((d.lm.L.length:Int)+1≤(d.lm.L.length:Int))=false:=decide_eq_false (by omega)
   go_wp2_with fail
   refine (Len_c HL.out).mono ?_
   rintro e w3 ⟨rfl,rfl⟩
   go_wp2
   go_ret
   exact ⟨by rw [← HLE.out,hlo];rfl,hb⟩
end
end Go.Proofs.YtneoeokfffnonaaGreatDoor
namespace Go.Proofs.YtneoeokfffnonaaGreatDoor
open Go.RowKit
section
variable {w:World} {base:Nat} {F:Nat→Prop} {g:Nat} {gw:Nat→Nat} {d:DkM}
theorem DkM.setW_same {j:Nat} {m:WM} (h:d.W j=some m):d.setW j (some m)=d:=by
 unfold DkM.setW
 have:(fun i=>if i=j then some m else d.W i)=d.W:=by
  funext i
  by_cases e:i=j
  ·subst e;rw [if_pos rfl,h]
  ·rw [if_neg e]
 rw [this]
theorem DkM.setW_setW (d:DkM) (j:Nat) (a b:Option WM):(d.setW j a).setW j b=d.setW j b:=by
 unfold DkM.setW
 congr 1
 funext i
 by_cases e:i=j
 ·simp only [if_pos e]
 ·simp only [if_neg e]
theorem fault_ok {u:Dd} (h:deedFault u=0):u.Text.size≤maxLen∧i64ok u.Many:=by
 rcases (deedFault_zero h).2.2.2.2.2.2.2 with ⟨_,h1,h2⟩ | ⟨_,h1,h2,h3⟩
 ·have:=(textOk_size h2).2
  exact ⟨by unfold maxLen;omega,by unfold i64ok;omega⟩
 ·exact ⟨by unfold maxLen;omega,by unfold i64ok;omega⟩
theorem LogM.take_code {m:LogM} {u:Dd} (h:(m.takeF u).2.2≠0):(m.takeF u).1=m:=by
 rcases m.takeF_cases u with ⟨_,e⟩ | ⟨_,_,e⟩ | ⟨_,_,_,e⟩ | ⟨_,_,_,_,_,e⟩ | ⟨_,_,_,_,_,_,e⟩ | ⟨_,_,_,_,_,_,e⟩
 all_goals first | (rw [e];done) | (rw [e] at h;exact absurd rfl h)
set_option maxRecDepth 100000 in
theorem Dsend_c (h:DkAt w base F g gw d) (ho:d.Ok) (x:Int) {m:WM} (hw:d.writer x=some m) (hos:m.opn.length≤1000000) :
 Calls Tryz.prog 81 #[.pointer (some ⟨g,0,none⟩),.pointer (some ⟨(gw x.toNat),0,none⟩)] w fun e w'=>e=.returned (.int .i64 (d.send m).2)∧DPost' w base F g gw (d.send m).1 w':=by
 obtain ⟨hx,hme,hW,t,hin⟩:=ho.of_writer hw
 obtain ⟨j,hj,rfl⟩:=writer_nat hx
 simp only [Int.toNat_natCast] at hW ⊢
 obtain ⟨FW,hFW,c1,hwr,put⟩:=h.wrZ hj hW
 have HWR:=Lib.hid hwr
 have HPut:=Lib.hid put
 have HO:=Lib.hid ho.lm
 have HIN:=Lib.hid hin
 have HSE:=Lib.hid (DkM.setW_same hW)
 clear put hwr h ho hw
 generalize hgx:gw j=gx at *
 go_enter Tryz.func81,Tryz.ntmps81
 go_wp2_with fail
 refine (WSend_c HWR.out hos).mono ?_
 rintro e w1 ⟨hB1,hM1,hcase⟩
 rcases hcase with ⟨hle,rfl,hA1⟩ | ⟨hlt,rfl,hA1⟩
 ·have hun:m.unsent=[]:=List.drop_eq_nil_of_le (by show m.ds.length≤m.ns;unfold WM.ds;rw [List.length_map];exact hle)
  have hse:d.send m=(d,5):=by unfold DkM.send;rw [hun]
  obtain ⟨q1,q2,q3⟩:=HPut.out w1 FW m hM1 hA1 (fun k hk=>.inl hk)
  have HQ:=Lib.hid (show ∀ o,DPost' w base F g gw (d.send m).1 (w1.alloc o) from fun o=>by
   rw [hse]
   have hb:=(Below.refl w1.heap.size w1).alloc (Nat.le_refl _) o
   exact ⟨_,(q1.congr HSE.out).later hb,q2.trans (Moves.of_below (F:=F) hb) (fun _ _ k=>k),q3⟩)
  have HC:=Lib.hid (show (d.send m).2=5 from by rw [hse])
  clear q1 q2 q3 hA1 hB1 hM1 hse hun HPut
  go_wp2
  go_ret
  exact ⟨by rw [HC.out];rfl,HQ.out _⟩
 ·have hlt' : m.ns < m.opn.length:=hlt
  have hltd:m.ns < m.ds.length:=by unfold WM.ds;rw [List.length_map];exact hlt'
  obtain ⟨u,hu⟩:∃ u,u=(m.v.os[m.v.ns]'hlt).d:=⟨_,rfl⟩
  rw [← hu]
  replace hu:u=(m.opn[m.ns]'hlt').d:=hu
  have hud:m.unsent=u :: m.ds.drop (m.ns+1):=by
   unfold WM.unsent;rw [List.drop_eq_getElem_cons hltd]
   congr 1
   rw [hu];simp [WM.ds]
  have hub:=HIN.out.us 0 (by rw [hud];simp)
  have e0:m.unsent[0]'(by rw [hud];simp)=u:=by simp only [hud];rfl
  rw [e0] at hub
  have HUF:=Lib.hid (fault_ok hub.f)
  have HUB:=Lib.hid (show u.By=(j:Int) from by rw [hub.b,hme])
  obtain ⟨q1,q2,q3⟩:=HPut.out w1 FW m.sendF hM1 hA1 (fun k hk=>.inl hk)
  have HSC:=Lib.hid (HIN.out.send_code HO.out u _ hud)
  have HSD:=Lib.hid (show d.send m=if (d.lm.takeF u).2.2=0 then (d.set (d.lm.takeF u).1 (j:Int) (some m.sendF),0) else (d.drop (j:Int),(d.lm.takeF u).2.2) from by
   unfold DkM.send;rw [hud,hme])
  have HD1:=Lib.hid q1;have HM1:=Lib.hid q2;have HG1:=Lib.hid q3
  clear q1 q2 q3 hA1 hB1 hM1 hud hub e0 hu HPut HIN hltd hlt' hlt HSE
  go_upto_region 4 with fail
  generalize hw2:w1.alloc _=w2
  have hw2' : w1.alloc (.cells #[.int .i64 u.Kind,.int .i64 u.By,.int .i64 u.No,.int .i64 u.Seen,.int .i64 u.At,.int .i64 u.Many,.string u.Text] 122)=w2:=hw2
  have hb2:Below w1.heap.size w1 w2:=by rw [← hw2'];exact (Below.refl w1.heap.size w1).alloc (Nat.le_refl _) _
  have HX2:=Lib.hid (show DdAt w2 w1.heap.size u from by rw [← hw2'];exact DdAt.new w1 u)
  clear hw2 hw2'
  obtain ⟨Y,hY⟩:∃ Y,Y=w1.heap.size:=⟨_,rfl⟩
  rw [← hY] at HX2 ⊢
  have HFY:=Lib.hid (fun k (hk:F k∨FW k)=>show k < Y from by rw [hY];exact (HD1.out.foot k hk).2)
  have HD2:=Lib.hid (HD1.out.later hb2)
  have HM2:=Lib.hid (HM1.out.trans (Moves.of_below (F:=F) hb2) (fun _ _ k=>k))
  have hYl:Y < w2.heap.size:=HX2.out.lt
  clear hY hb2 HD1 HM1
  obtain ⟨gl,FL,hFL,c0,hlog,put⟩:=HD2.out.logZ
  have HLG:=Lib.hid (show LogAt w2 _ FL gl d.lm from hlog)
  have HPut:=Lib.hid put
  have HFL:=Lib.hid hFL
  obtain ⟨_,d0,d1,d2,d3,d4,d5,d6⟩:=HX2.out
  have C0:=later_cell c0
  have D0:=later_cell d0
  have D1:=later_cell d1
  have D2:=later_cell d2
  have D3:=later_cell d3
  have D4:=later_cell d4
  have D5:=later_cell d5
  have D6:=later_cell d6
  clear c0 d0 d1 d2 d3 d4 d5 d6 hlog put hFL
  have hL:∀ q:Lt w2,Later w2 q.v:=fun q=>q.h
  refine wp_region_mixh [] [5] [0,1,2,3,4,5,6,7,8,9,10] (by kernel_rfl) (by kernel_rfl) ?_
  iterate 5 (refine wpMixH_step rfl (fun K hK=>?_);go_simp;refine hK _ _ ?_;clear hK K)
  refine wpMixH_step rfl (fun K hK=>?_)
  go_simp
  intro p
  refine (Take_c (HLG.out.later (hL p)) HO.out u HUF.out.1 HUF.out.2).mono ?_
  rintro e w3 ⟨rfl,F',hL3,hM3,hG3⟩
  refine ⟨_,rfl,hK _ _ ?_⟩
  clear hK K
  have hs:=(hL p).size
  have HML:=Lib.hid (show Moves FL w2 w3 from (Moves.of_below (F:=FL) (hL p)).trans hM3 (fun _ _ k=>k))
  have HGL:=Lib.hid (show Grows FL w2 F' from fun k hk=>by
   rcases hG3 k hk with h1 | h1
   ·exact .inl h1
   ·exact .inr (Nat.le_trans hs h1))
  obtain ⟨q1,q2,q3⟩:=HPut.out w3 F' (d.lm.takeF u).1 HML.out hL3 HGL.out
  have HD3:=Lib.hid q1;have HM3:=Lib.hid (HM2.out.transG HG1.out q2);have HG3:=Lib.hid (HG1.out.trans HM2.out.size q3)
  have HX3:=Lib.hid (HX2.out.of_block HML.out.size (HML.out.block Y hYl (fun e=>by have:=HFY.out Y (HFL.out Y e).1;omega)))
  clear q1 q2 q3 hL3 hM3 hG3 HML HGL HPut HLG HX2 HD2 HM2 hs p hL C0 D0 D1 D2 D3 D4 D5 D6
  iterate 5 (refine wpMixH_step rfl (fun K hK=>?_);go_simp;refine hK _ _ ?_;clear hK K)
  refine wpMixH_nil ?_
  intro w4 hL4
  have HD4:=Lib.hid (HD3.out.later hL4)
  have HM4:=Lib.hid (HM3.out.trans (Moves.of_below (F:=F) hL4) (fun _ _ k=>k))
  have HX4:=Lib.hid (HX3.out.later hL4)
  clear hL4 HD3 HM3 HX3
  by_cases h0:(d.lm.takeF u).2.2=0
  ·have HFIN:=Lib.hid (show (0:Int)=(d.send m).2∧DPost' w base F g gw (d.send m).1 w4 from by
    rw [HSD.out,if_pos h0]
    refine ⟨rfl,_,HD4.out.congr ?_,HM4.out,HG3.out⟩
    rw [DkM.set_eq];simp only [Int.toNat_natCast];rfl)
   rw [h0]
   clear HSC HSD h0 HD4 HM4 HG3
   generalize (d.lm.takeF u).2.1=nn
   go_wp2
   go_ret
   exact ⟨by rw [← HFIN.out.1];rfl,HFIN.out.2⟩
  ·have h9:(d.lm.takeF u).2.2=9:=by
    rcases HSC.out with h | h
    ·exact absurd h h0
    ·exact h
   have HTE:=Lib.hid (LogM.take_code h0)
   have HSD2:=Lib.hid (show d.send m=(d.drop (j:Int),9) from by rw [HSD.out,if_neg h0,h9])
   rw [h9]
   clear HSC HSD h0 h9
   generalize (d.lm.takeF u).2.1=nn
   obtain ⟨_,_,d1,_,_,_,_,_⟩:=HX4.out
   rw [HUB.out] at d1
   go_wp2_with fail
   refine (Ddrop_c HD4.out (j:Int) hx).mono ?_
   rintro e w5 ⟨⟨v,rfl⟩,F5,hD5,hM5,hG5⟩
   have HFIN:=Lib.hid (show (9:Int)=(d.send m).2∧DPost' w base F g gw (d.send m).1 w5 from by
    rw [HSD2.out]
    refine ⟨rfl,_,hD5.congr ?_,HM4.out.transG HG3.out hM5,HG3.out.trans HM4.out.size hG5⟩
    simp only [DkM.drop,DkM.set_eq,Int.toNat_natCast]
    show ((((d.setW j (some m.sendF)).setL (d.lm.takeF u).1).setL ((d.lm.takeF u).1.leaveF (j:Int)).1).setW j none)=_
    rw [HTE.out]
    exact DkM.setW_setW (d.setL (d.lm.leaveF (j:Int)).1) j _ _)
   clear hD5 hM5 hG5 HD4 HM4 HG3 HX4 d1
   go_wp2
   go_ret
   exact ⟨by rw [← HFIN.out.1];rfl,HFIN.out.2⟩
theorem doF_codeN (l:List Ch) (d:Dd) (n:Int) (hn1:1≤n):(doF l d n).2=mayDo l d:=by
 rcases doF_cases l d n with ⟨h1,e⟩ | ⟨_,hn,e⟩ | ⟨h1,hn,hk,e⟩ | ⟨h1,hn,hk2,e⟩
 ·rw [e]
 ·omega
 ·rw [e,h1]
 ·rw [e,h1]
theorem Deed_g {F:Nat→Prop} {m:LogM} (h:LogAt w base F g m) (n:Int):Calls Tryz.prog 90 #[.pointer (some ⟨g,0,none⟩),.int .i64 n] w fun e w'=>∃ dd b,e=.returned (.tuple #[.agg #[.int .i64 dd.Kind,.int .i64 dd.By,.int .i64 dd.No,.int .i64 dd.Seen,.int .i64 dd.At,.int .i64 dd.Many,.string dd.Text],.bool b])∧Below w.heap.size w w'∧
 (b=false∧dd=zD∧(n < 1∨(m.L.length:Int) < n)∨b=true∧∃ (k:Nat) (hk:k < m.L.length),n=(k:Int)+1∧dd=m.L[k]):=
 (Deed_c h n).mono fun e w' ⟨hb,hc⟩=>by
   rcases hc with ⟨rfl,h1⟩ | ⟨k,hk,h1,rfl⟩
   ·exact ⟨zD,false,rfl,hb,.inl ⟨rfl,rfl,h1⟩⟩
   ·exact ⟨m.L[k],true,rfl,hb,.inr ⟨rfl,k,hk,h1,rfl⟩⟩
set_option maxRecDepth 100000 in
set_option maxHeartbeats 800000 in
theorem Dhear_c (h:DkAt w base F g gw d) (ho:d.Ok) (x:Int) {m:WM} (hw:d.writer x=some m) (hos:m.opn.length≤1000000) :
 Calls Tryz.prog 82 #[.pointer (some ⟨g,0,none⟩),.int .i64 x,.pointer (some ⟨(gw x.toNat),0,none⟩)] w fun e w'=>e=.returned (.int .i64 (d.hear m).2)∧DPost' w base F g gw (d.hear m).1 w':=by
 obtain ⟨hx,hme,hW,t,hin⟩:=ho.of_writer hw
 obtain ⟨j,hj,rfl⟩:=writer_nat hx
 simp only [Int.toNat_natCast] at hW ⊢
 obtain ⟨FW,hFW,c1,hwr,put⟩:=h.wrZ hj hW
 obtain ⟨gl,FL,hFL,c0,hlog,_⟩:=h.logZ
 have HWR:=Lib.hid hwr
 have HPut:=Lib.hid put
 have HLG:=Lib.hid hlog
 have HO:=Lib.hid ho.lm
 have HIN:=Lib.hid hin
 have HSE:=Lib.hid (DkM.setW_same hW)
 have HD:=Lib.hid h
 have hsl:=hin.seen
 have hlen:=ho.lm.len
 have hglt:=h.lt
 have hsn:IntKind.i64.wrap ((m.seen:Int)+1)=(m.seen:Int)+1:=by rw [IntKind.wrap_i64];omega
 have hvs:m.v.seen=(m.seen:Int):=rfl
 have HOK:=Lib.hid ho;have HWx:=Lib.hid hw
 clear put hwr h ho hw hlog hFL hin
 generalize hgx:gw j=gx at *
 go_enter Tryz.func82,Tryz.ntmps82
 go_upto_region 1 with fail
 go_cut [7,8] (fun s7 s8 wx=>∃ (Y:Nat) (dd:Dd) (b:Bool),s7=(.pointer (some ⟨Y,0,none⟩))∧s8=.bool b∧Hid (DdAt wx Y dd)∧Hid (w.heap.size≤Y)∧Hid (Below w.heap.size w wx)∧
  Hid (b=false∧m.seen=d.lm.L.length∨b=true∧∃ (hk:m.seen < d.lm.L.length),dd=d.lm.L[m.seen]))
 case first=>
  have hB:w.heap.size≤w.heap.size:=Nat.le_refl _
  have C0:=MB.cellB (B:=w.heap.size) c0 hglt
  refine MB.wp_region_mixb w.heap.size [7,11,12] [] (.ops [0,1,2,3,4,5,6] (.fork 7 (.ops [8,9,10,11,12,13] .nil) 11 (.ops [7,8,9,10,12,13] .nil))) (by kernel_rfl) (by kernel_rfl) ?_
  iterate 5 (refine MB.wpMixF_step hB rfl (fun K hK=>?_);go_simp;refine hK _ _ ?_;clear hK K)
  refine MB.wpMixF_step hB rfl (fun K hK=>?_)
  go_simp
  refine ⟨_,fun p=>MB.quiet_same (WSeen_c (HWR.out.later p.h)),hK _ _ ?_⟩
  rw [hvs]
  clear hK K
  (refine MB.wpMixF_step hB rfl (fun K hK=>?_);go_simp;refine hK _ _ ?_;clear hK K)
  refine MB.wpMixF_fork ?_ ?_
  ·refine MB.wpCut_step rfl (fun K hK=>?_)
   go_simp
   intro p
   refine (Deed_g (HLG.out.later p.h) ((m.seen:Int)+1)).mono ?_
   rintro e w2 ⟨dd,b,rfl,hb2,h2⟩
   refine ⟨_,rfl,MB.Eff.of hb2,hK _ _ ?_⟩
   clear hK K
   have hw2:Below w.heap.size w w2:=Below.trans p.h (hb2.mono p.h.size)
   have hB:w.heap.size≤w2.heap.size:=hw2.size
   have H2:=Lib.hid h2
   clear hb2 p C0 h2
   iterate 3 (refine MB.wpMixF_step hB rfl (fun K hK=>?_);go_simp;refine hK _ _ ?_;clear hK K)
   refine MB.wpMixF_step hB rfl (fun K hK=>?_)
   go_simp
   intro p
   have hbp:=(Below.refl p.v.heap.size p.v).alloc (Nat.le_refl _) (.cells #[.int .i64 0,.int .i64 0,.int .i64 0,.int .i64 0,.int .i64 0,.int .i64 0,.string ⟨#[]⟩] 122)
   refine ⟨MB.Eff.of hbp,hK _ _ ?_⟩
   clear hK K
   have HX:=Lib.hid (show DdAt (p.v.alloc (.cells #[.int .i64 0,.int .i64 0,.int .i64 0,.int .i64 0,.int .i64 0,.int .i64 0,.string ⟨#[]⟩] 122)) p.v.heap.size zD from DdAt.new p.v zD)
   have HFX:=Lib.hid (show ∀ j,j < 7→(p.v.alloc (.cells #[.int .i64 0,.int .i64 0,.int .i64 0,.int .i64 0,.int .i64 0,.int .i64 0,.string ⟨#[]⟩] 122)).frozen? ⟨p.v.heap.size,j,none⟩=false from fun j _=>by simp)
   have hw3:Below w.heap.size w (p.v.alloc (.cells #[.int .i64 0,.int .i64 0,.int .i64 0,.int .i64 0,.int .i64 0,.int .i64 0,.string ⟨#[]⟩] 122)):=(hw2.trans (Below.mono p.h hB)).trans (hbp.mono (Nat.le_trans hB p.h.size))
   have HYW:=Lib.hid (show w.heap.size≤p.v.heap.size from Nat.le_trans hB p.h.size)
   generalize p.v.alloc (.cells #[.int .i64 0,.int .i64 0,.int .i64 0,.int .i64 0,.int .i64 0,.int .i64 0,.string ⟨#[]⟩] 122)=w3 at *
   generalize p.v.heap.size=Y at *
   clear hbp p hB hw2
   have hB:w.heap.size≤w3.heap.size:=hw3.size
   refine MB.wpMixF_step hB rfl (fun K hK=>?_)
   go_simp
   intro p
   have hXp:=HX.out.later p.h
   obtain ⟨dlt,d0,d1,d2,d3,d4,d5,d6⟩:=hXp
   have f0:=(Below.frozen p.h (p:=⟨Y,0,none⟩) HX.out.lt).trans (HFX.out 0 (by omega))
   have f1:=(Below.frozen p.h (p:=⟨Y,1,none⟩) HX.out.lt).trans (HFX.out 1 (by omega))
   have f2:=(Below.frozen p.h (p:=⟨Y,2,none⟩) HX.out.lt).trans (HFX.out 2 (by omega))
   have f3:=(Below.frozen p.h (p:=⟨Y,3,none⟩) HX.out.lt).trans (HFX.out 3 (by omega))
   have f4:=(Below.frozen p.h (p:=⟨Y,4,none⟩) HX.out.lt).trans (HFX.out 4 (by omega))
   have f5:=(Below.frozen p.h (p:=⟨Y,5,none⟩) HX.out.lt).trans (HFX.out 5 (by omega))
   have f6:=(Below.frozen p.h (p:=⟨Y,6,none⟩) HX.out.lt).trans (HFX.out 6 (by omega))
   go_simp
   change MB.Eff _ _ (putDd p.v Y dd)∧K _ (putDd p.v Y dd)
   have hbp:=putDd_below dd (Below.refl Y p.v) (Nat.le_refl _)
   refine ⟨fun _=>hbp.mono HYW.out,hK _ _ ?_⟩
   clear hK K
   have HX4:=Lib.hid ((HX.out.later p.h).putAll dd)
   have hw4:Below w.heap.size w (putDd p.v Y dd):=(hw3.trans (Below.mono p.h hB)).trans (hbp.mono HYW.out)
   generalize putDd p.v Y dd=w4 at *
   clear d0 d1 d2 d3 d4 d5 d6 dlt f0 f1 f2 f3 f4 f5 f6 hbp p hw3 HX HFX hB
   have hB:w.heap.size≤w4.heap.size:=hw4.size
   (refine MB.wpMixF_step hB rfl (fun K hK=>?_);go_simp;refine hK _ _ ?_;clear hK K)
   refine MB.wpMixF_nil ?_
   intro w5 hL5
   have HX5:=Lib.hid (HX4.out.later hL5)
   have hw5:=Lib.hid (hw4.trans (Below.mono hL5 hB))
   have HC5:=Lib.hid (show b=false∧m.seen=d.lm.L.length∨b=true∧∃ (hk:m.seen < d.lm.L.length),dd=d.lm.L[m.seen] from by
    rcases H2.out with ⟨e1,_,e2⟩ | ⟨e1,k,hk,e2,e3⟩
    ·exact .inl ⟨e1,by omega⟩
    ·obtain rfl:k=m.seen:=by omega
     exact .inr ⟨e1,hk,e3⟩)
   clear hL5 HX4 hw4 hB H2
   go_wp2
   go_meet
   exact ⟨Y,dd,b,rfl,rfl,HX5,HYW,hw5,HC5⟩
  ·have hw0:Below w.heap.size w w:=Below.refl _ _
   refine MB.wpCut_step rfl (fun K hK=>?_)
   go_simp
   intro p
   have hbp:=(Below.refl p.v.heap.size p.v).alloc (Nat.le_refl _) (.cells #[.int .i64 0,.int .i64 0,.int .i64 0,.int .i64 0,.int .i64 0,.int .i64 0,.string ⟨#[]⟩] 122)
   refine ⟨MB.Eff.of hbp,hK _ _ ?_⟩
   clear hK K
   have HX:=Lib.hid (show DdAt (p.v.alloc (.cells #[.int .i64 0,.int .i64 0,.int .i64 0,.int .i64 0,.int .i64 0,.int .i64 0,.string ⟨#[]⟩] 122)) p.v.heap.size zD from DdAt.new p.v zD)
   have HFX:=Lib.hid (show ∀ j,j < 7→(p.v.alloc (.cells #[.int .i64 0,.int .i64 0,.int .i64 0,.int .i64 0,.int .i64 0,.int .i64 0,.string ⟨#[]⟩] 122)).frozen? ⟨p.v.heap.size,j,none⟩=false from fun j _=>by simp)
   have hw3:Below w.heap.size w (p.v.alloc (.cells #[.int .i64 0,.int .i64 0,.int .i64 0,.int .i64 0,.int .i64 0,.int .i64 0,.string ⟨#[]⟩] 122)):=(hw0.trans (Below.mono p.h hB)).trans (hbp.mono (Nat.le_trans hB p.h.size))
   have HYW:=Lib.hid (show w.heap.size≤p.v.heap.size from Nat.le_trans hB p.h.size)
   generalize p.v.alloc (.cells #[.int .i64 0,.int .i64 0,.int .i64 0,.int .i64 0,.int .i64 0,.int .i64 0,.string ⟨#[]⟩] 122)=w3 at *
   generalize p.v.heap.size=Y at *
   clear hbp p hB hw0
   have hB:w.heap.size≤w3.heap.size:=hw3.size
   refine MB.wpMixF_step hB rfl (fun K hK=>?_)
   go_simp
   intro p
   refine (Deed_g (HLG.out.later (hw3.trans (Below.mono p.h hB))) ((m.seen:Int)+1)).mono ?_
   rintro e w2 ⟨dd,b,rfl,hb2,h2⟩
   refine ⟨_,rfl,MB.Eff.of hb2,hK _ _ ?_⟩
   clear hK K
   have hl2:Below w3.heap.size w3 w2:=Below.trans p.h (hb2.mono p.h.size)
   have hw2:Below w.heap.size w w2:=hw3.trans (hl2.mono hB)
   have HX2:=Lib.hid (HX.out.later hl2)
   have HFX2:=Lib.hid (fun j (hj:j < 7)=>(Below.frozen hl2 (p:=⟨Y,j,none⟩) HX.out.lt).trans (HFX.out j hj))
   have H2:=Lib.hid h2
   clear hb2 p C0 h2 hl2 hB HX HFX hw3
   have HX:=HX2;have HFX:=HFX2;have hw3:=hw2
   clear HX2 HFX2 hw2
   have hB:w.heap.size≤w2.heap.size:=hw3.size
   iterate 3 (refine MB.wpMixF_step hB rfl (fun K hK=>?_);go_simp;refine hK _ _ ?_;clear hK K)
   refine MB.wpMixF_step hB rfl (fun K hK=>?_)
   go_simp
   intro p
   have hXp:=HX.out.later p.h
   obtain ⟨dlt,d0,d1,d2,d3,d4,d5,d6⟩:=hXp
   have f0:=(Below.frozen p.h (p:=⟨Y,0,none⟩) HX.out.lt).trans (HFX.out 0 (by omega))
   have f1:=(Below.frozen p.h (p:=⟨Y,1,none⟩) HX.out.lt).trans (HFX.out 1 (by omega))
   have f2:=(Below.frozen p.h (p:=⟨Y,2,none⟩) HX.out.lt).trans (HFX.out 2 (by omega))
   have f3:=(Below.frozen p.h (p:=⟨Y,3,none⟩) HX.out.lt).trans (HFX.out 3 (by omega))
   have f4:=(Below.frozen p.h (p:=⟨Y,4,none⟩) HX.out.lt).trans (HFX.out 4 (by omega))
   have f5:=(Below.frozen p.h (p:=⟨Y,5,none⟩) HX.out.lt).trans (HFX.out 5 (by omega))
   have f6:=(Below.frozen p.h (p:=⟨Y,6,none⟩) HX.out.lt).trans (HFX.out 6 (by omega))
   go_simp
   change MB.Eff _ _ (putDd p.v Y dd)∧K _ (putDd p.v Y dd)
   have hbp:=putDd_below dd (Below.refl Y p.v) (Nat.le_refl _)
   refine ⟨fun _=>hbp.mono HYW.out,hK _ _ ?_⟩
   clear hK K
   have HX4:=Lib.hid ((HX.out.later p.h).putAll dd)
   have hw4:Below w.heap.size w (putDd p.v Y dd):=(hw3.trans (Below.mono p.h hB)).trans (hbp.mono HYW.out)
   generalize putDd p.v Y dd=w4 at *
   clear d0 d1 d2 d3 d4 d5 d6 dlt f0 f1 f2 f3 f4 f5 f6 hbp p hw3 HX HFX hB
   have hB:w.heap.size≤w4.heap.size:=hw4.size
   (refine MB.wpMixF_step hB rfl (fun K hK=>?_);go_simp;refine hK _ _ ?_;clear hK K)
   refine MB.wpMixF_nil ?_
   intro w5 hL5
   have HX5:=Lib.hid (HX4.out.later hL5)
   have hw5:=Lib.hid (hw4.trans (Below.mono hL5 hB))
   have HC5:=Lib.hid (show b=false∧m.seen=d.lm.L.length∨b=true∧∃ (hk:m.seen < d.lm.L.length),dd=d.lm.L[m.seen] from by
    rcases H2.out with ⟨e1,_,e2⟩ | ⟨e1,k,hk,e2,e3⟩
    ·exact .inl ⟨e1,by omega⟩
    ·obtain rfl:k=m.seen:=by omega
     exact .inr ⟨e1,hk,e3⟩)
   clear hL5 HX4 hw4 hB H2
   go_wp2
   go_meet
   exact ⟨Y,dd,b,rfl,rfl,HX5,HYW,hw5,HC5⟩
 case rest=>
  obtain ⟨Y,dd,b,rfl,rfl,HX,HYW,hwx,HC⟩:=hcut
  have HDx:=Lib.hid (HD.out.later hwx.out)
  have HMx:=Lib.hid (Moves.of_below (F:=F) hwx.out)
  rcases HC.out with ⟨rfl,hse⟩ | ⟨rfl,hlt,rfl⟩
  ·have hse2:d.hear m=(d,5):=by unfold DkM.hear;rw [List.getElem?_eq_none (by omega)]
   have HFIN:=Lib.hid (show (5:Int)=(d.hear m).2∧DPost' w base F g gw (d.hear m).1 wc from by
    rw [hse2];exact ⟨rfl,DPost'.same HDx.out HMx.out⟩)
   clear hse hse2
   go_wp2
   go_ret
   exact ⟨by rw [← HFIN.out.1];rfl,HFIN.out.2⟩
  ·have HDK:=Lib.hid (HO.out.deeds m.seen hlt)
   have HHE:=Lib.hid (HOK.out.hear HWx.out).2
   have hhe:d.hear m=if d.lm.L[m.seen].By≠m.me∧mayDo m.chars d.lm.L[m.seen]≠0 then (d.drop m.me,mayDo m.chars d.lm.L[m.seen]) else (d.set (d.lm.saysF m.me (m.hear d.lm.L[m.seen]).least).1 m.me (some (m.hear d.lm.L[m.seen])),0):=by
    unfold DkM.hear;rw [List.getElem?_eq_getElem hlt]
   have HHD:=Lib.hid hhe
   have HFO:=Lib.hid (fault_ok HDK.out.f)
   have HOO:=Lib.hid (fun hb h0=>(HIN.out.hearO HO.out hlt hb h0))
   have HOI:=Lib.hid (fun hb=>HIN.out.own_head hlt hb)
   have HOJ:=Lib.hid (fun hb o os hop=>(HIN.out.hearI HO.out hlt hb o os hop))
   have HCG:=Lib.hid (HIN.out.chars_gone HO.out)
   have HCL:=Lib.hid (HIN.out.chars_len HO.out)
   obtain ⟨u,hu⟩:∃ u,u=d.lm.L[m.seen]'hlt:=⟨_,rfl⟩
   rw [← hu] at HHD HFO HOO HOI HOJ HX
   obtain ⟨FW2,hFW2,c1x,hwrx,putx⟩:=HDx.out.wrZ hj hW
   have HPx:=Lib.hid putx
   have HWx2:=Lib.hid hwrx
   have hYl:Y < wc.heap.size:=HX.out.lt
   obtain ⟨_,d0,d1,d2,d3,d4,d5,d6⟩:=HX.out
   clear hhe putx hwrx hu c0 c1 c1x HPut HWR HLG hFW
   rw [hgx] at HPx HWx2
   go_wp2_with fail
   refine (WHear_c HWx2.out HCG.out (by have:=HCL.out;show m.chars.length≤1000;omega) hos (by show 0≤(m.seen:Int)∧(m.seen:Int)≤1000000;omega) u HFO.out.1 HFO.out.2).mono ?_
   rintro e w6 hp
   have HME:=Lib.hid hme
   rcases hp with ⟨hne,rfl,hm6,hcs⟩ | ⟨hby,hno,_,_,_⟩ | ⟨hby,o,os,hop,hod,rfl,hm6,hA6⟩
   ·
    rw [show (doF m.v.L u (m.v.seen+1)).2=mayDo m.chars u from doF_codeN _ _ _ (by rw [hvs];omega)] at hcs ⊢
    by_cases hc:mayDo m.chars u=0
    ·rcases hcs with ⟨h1,_⟩ | ⟨_,F',hA6,hG6⟩
     ·exact absurd hc h1
     have HMV:=Lib.hid (show (m.hear u).v={ m.v with L:=(doF m.v.L u (m.v.seen+1)).1,seen:=m.v.seen+1 } from by
      have e:m.hear u=m.hearO u:=by unfold WM.hear;exact if_neg hne
      have h2:=(HOO.out hne hc).2.2
      rw [e]
      unfold WM.v
      rw [h2]
      show (⟨m.me,((m.seen+1:Nat):Int),m.next,ap m.chars u ((m.seen:Int)+1),m.opn,m.ns⟩:WrV)=⟨m.me,(m.seen:Int)+1,m.next,(doF m.chars u ((m.seen:Int)+1)).1,m.opn,m.ns⟩
      rw [doF_ap hc (by omega)];simp)
     have HUN:=Lib.hid (show ∃ t,WIn d.lm (m.hear u) t from ⟨t,by
      have e:m.hear u=m.hearO u:=by unfold WM.hear;exact if_neg hne
      rw [e];exact (HOO.out hne hc).1⟩)
     rw [hc]
     have HHS:=Lib.hid (show d.hear m=(d.set (d.lm.saysF m.me (m.hear u).least).1 m.me (some (m.hear u)),0) from by rw [HHD.out,if_neg (fun h=>h.2 hc)])
     have HSY:=Lib.hid (show (d.lm.saysF m.me (m.hear u).least).2=0 from by
      obtain ⟨t',hin'⟩:=HUN.out
      have h1:=hin'.says.1
      rw [(WM.hear_seen m u).2] at h1;exact h1)
     obtain ⟨q1,q2,q3⟩:=HPx.out w6 F' (m.hear u) hm6 (by rw [HMV.out];exact hA6) hG6
     have HD6:=Lib.hid q1;have HM6:=Lib.hid (HMx.out.trans q2 (fun _ _ k=>k));have HG6:=Lib.hid (show Grows F w _ from fun k hk=>by
      rcases q3 k hk with h1 | h1
      ·exact .inl h1
      ·exact .inr (Nat.le_trans hwx.out.size h1))
     have HW6:=Lib.hid (show WrAt w6 _ _ gx (m.hear u).v from by rw [HMV.out];exact hA6)
     have HO6:=Lib.hid (show (m.hear u).v.os.length≤1000000 from Nat.le_trans (WM.hear_opn m u) hos)
     clear q1 q2 q3 hm6 hA6 hG6 HPx HX d0 d1 d2 d3 d4 d5 d6
     obtain ⟨gl6,FL6,hFL6,c06,hlog6,put6⟩:=HD6.out.logZ
     have HL6:=Lib.hid (show LogAt w6 _ FL6 gl6 d.lm from hlog6)
     have HP6:=Lib.hid put6
     have C06:=later_cell c06
     clear c06 hlog6 put6 hFL6
     have hL6:∀ q:Lt w6,Later w6 q.v:=fun q=>q.h
     go_upto_region 8 with fail
     refine wp_region_mixh [] [7] [0,1,2,3,4,5,6,7,8] (by kernel_rfl) (by kernel_rfl) ?_
     iterate 6 (refine wpMixH_step rfl (fun K hK=>?_);go_simp;refine hK _ _ ?_;clear hK K)
     refine wpMixH_step rfl (fun K hK=>?_)
     go_simp
     refine ⟨_,fun p=>quietM p (WLeast_c (HW6.out.later (hL6 p)) HO6.out),hK _ _ ?_⟩
     clear hK K
     refine wpMixH_step rfl (fun K hK=>?_)
     go_simp
     intro p
     rw [WM.v_least]
     refine (Says_c (HL6.out.later (hL6 p)) (j:Int) (m.hear u).least).mono ?_
     rintro e w7 ⟨rfl,hL7,hM7⟩
     refine ⟨_,rfl,hK _ _ ?_⟩
     clear hK K
     obtain ⟨q1,q2,q3⟩:=HP6.out w7 FL6 _ ((Moves.of_below (F:=FL6) (hL6 p)).trans hM7 (fun _ _ k=>k)) hL7 (fun k hk=>.inl hk)
     have HD7:=Lib.hid q1;have HM7:=Lib.hid (HM6.out.transG HG6.out q2);have HG7:=Lib.hid (HG6.out.trans HM6.out.size q3)
     clear q1 q2 q3 hL7 hM7 p hL6 C06 HL6 HP6
     (refine wpMixH_step rfl (fun K hK=>?_);go_simp;refine hK _ _ ?_;clear hK K)
     refine wpMixH_nil ?_
     intro w8 hL8
     have HFIN:=Lib.hid (show (d.lm.saysF (j:Int) (m.hear u).least).2=(d.hear m).2∧DPost' w base F g gw (d.hear m).1 w8 from by
      rw [HHS.out]
      refine ⟨by rw [← HME.out];exact HSY.out,_,(HD7.out.later hL8).congr ?_,HM7.out.trans (Moves.of_below (F:=F) hL8) (fun _ _ k=>k),HG7.out⟩
      rw [DkM.set_eq,HME.out];simp only [Int.toNat_natCast];rfl)
     clear hL8 HD7 HM7 HG7
     generalize (d.lm.saysF (j:Int) (m.hear u).least).2=code at *
     go_wp2
     go_ret
     exact ⟨by rw [← HFIN.out.1];rfl,HFIN.out.2⟩
    ·rcases hcs with ⟨_,hA6⟩ | ⟨h1,_⟩
     case inr=>exact absurd h1 hc
     have HHS:=Lib.hid (show d.hear m=(d.drop m.me,mayDo m.chars u) from by rw [HHD.out,if_pos ⟨hne,hc⟩])
     obtain ⟨q1,q2,q3⟩:=HPx.out w6 FW2 m hm6 hA6 (fun k hk=>.inl hk)
     have HD6:=Lib.hid (q1.congr HSE.out);have HM6:=Lib.hid (HMx.out.trans q2 (fun _ _ k=>k));have HG6:=Lib.hid (show Grows F w _ from fun k hk=>by
      rcases q3 k hk with h1 | h1
      ·exact .inl h1
      ·exact .inr (Nat.le_trans hwx.out.size h1))
     clear q1 q2 q3 hm6 hA6 HPx HX d0 d1 d2 d3 d4 d5 d6
     have hneB:(mayDo m.chars u !=0)=true:=by simpa using hc
     have hneD:decide (mayDo m.chars u=0)=false:=decide_eq_false hc
     clear hc
     generalize mayDo m.chars u=code at *
     go_wp2_with fail
     refine (Ddrop_c HD6.out (j:Int) hx).mono ?_
     rintro e w7 ⟨⟨v,rfl⟩,F7,hD7,hM7,hG7⟩
     have HFIN:=Lib.hid (show code=(d.hear m).2∧DPost' w base F g gw (d.hear m).1 w7 from by
      rw [HHS.out,HME.out]
      exact ⟨rfl,_,hD7,HM6.out.transG HG6.out hM7,HG6.out.trans HM6.out.size hG7⟩)
     clear hD7 hM7 hG7 HD6 HM6 HG6
     go_wp2
     go_ret
     exact ⟨by rw [← HFIN.out.1];rfl,HFIN.out.2⟩
   ·exfalso
    obtain ⟨o,os,hop,hod,_⟩:=HOI.out hby
    exact hno o (by show m.opn.head? = some o;rw [hop];rfl) hod
   ·have HMV:=Lib.hid (show (m.hear u).v={ m.v with L:=m.v.L.map (numC m.v.me u.No (m.v.seen+1) fun k=>decide (k∈o.took.map key)),os:=os,ns:=m.v.ns - 1,seen:=m.v.seen+1 } from by
     have e:m.hear u=m.hearI u:=by unfold WM.hear;exact if_pos hby
     have h2:=(HOJ.out hby o os hop).2.2.2.1
     rw [e]
     unfold WM.v
     rw [h2]
     show (⟨m.me,((m.seen+1:Nat):Int),m.next,m.chars.map (numsOf m u o),m.opn.tail,m.ns - 1⟩:WrV)=⟨m.me,(m.seen:Int)+1,m.next,m.chars.map (numC m.me u.No ((m.seen:Int)+1) fun k=>decide (k∈o.took.map key)),os,m.ns - 1⟩
     have ho:m.opn=o :: os:=hop
     rw [ho,Int.natCast_add];rfl)
    have HUN:=Lib.hid (show ∃ t,WIn d.lm (m.hear u) t from ⟨t,by
     have e:m.hear u=m.hearI u:=by unfold WM.hear;exact if_pos hby
     rw [e];exact (HOJ.out hby o os hop).1⟩)
    have HHS:=Lib.hid (show d.hear m=(d.set (d.lm.saysF m.me (m.hear u).least).1 m.me (some (m.hear u)),0) from by rw [HHD.out,if_neg (fun h=>h.1 hby)])
    have HSY:=Lib.hid (show (d.lm.saysF m.me (m.hear u).least).2=0 from by
     obtain ⟨t',hin'⟩:=HUN.out
     have h1:=hin'.says.1
     rw [(WM.hear_seen m u).2] at h1;exact h1)
    obtain ⟨q1,q2,q3⟩:=HPx.out w6 FW2 (m.hear u) hm6 (by rw [HMV.out];exact hA6) (fun k hk=>.inl hk)
    have HD6:=Lib.hid q1;have HM6:=Lib.hid (HMx.out.trans q2 (fun _ _ k=>k));have HG6:=Lib.hid (show Grows F w _ from fun k hk=>by
     rcases q3 k hk with h1 | h1
     ·exact .inl h1
     ·exact .inr (Nat.le_trans hwx.out.size h1))
    have HW6:=Lib.hid (show WrAt w6 _ _ gx (m.hear u).v from by rw [HMV.out];exact hA6)
    have HO6:=Lib.hid (show (m.hear u).v.os.length≤1000000 from Nat.le_trans (WM.hear_opn m u) hos)
    clear q1 q2 q3 hm6 hA6 HPx HX d0 d1 d2 d3 d4 d5 d6
    obtain ⟨gl6,FL6,hFL6,c06,hlog6,put6⟩:=HD6.out.logZ
    have HL6:=Lib.hid (show LogAt w6 _ FL6 gl6 d.lm from hlog6)
    have HP6:=Lib.hid put6
    have C06:=later_cell c06
    clear c06 hlog6 put6 hFL6
    have hL6:∀ q:Lt w6,Later w6 q.v:=fun q=>q.h
    go_upto_region 8 with fail
    refine wp_region_mixh [] [7] [0,1,2,3,4,5,6,7,8] (by kernel_rfl) (by kernel_rfl) ?_
    iterate 6 (refine wpMixH_step rfl (fun K hK=>?_);go_simp;refine hK _ _ ?_;clear hK K)
    refine wpMixH_step rfl (fun K hK=>?_)
    go_simp
    refine ⟨_,fun p=>quietM p (WLeast_c (HW6.out.later (hL6 p)) HO6.out),hK _ _ ?_⟩
    clear hK K
    refine wpMixH_step rfl (fun K hK=>?_)
    go_simp
    intro p
    rw [WM.v_least]
    refine (Says_c (HL6.out.later (hL6 p)) (j:Int) (m.hear u).least).mono ?_
    rintro e w7 ⟨rfl,hL7,hM7⟩
    refine ⟨_,rfl,hK _ _ ?_⟩
    clear hK K
    obtain ⟨q1,q2,q3⟩:=HP6.out w7 FL6 _ ((Moves.of_below (F:=FL6) (hL6 p)).trans hM7 (fun _ _ k=>k)) hL7 (fun k hk=>.inl hk)
    have HD7:=Lib.hid q1;have HM7:=Lib.hid (HM6.out.transG HG6.out q2);have HG7:=Lib.hid (HG6.out.trans HM6.out.size q3)
    clear q1 q2 q3 hL7 hM7 p hL6 C06 HL6 HP6
    (refine wpMixH_step rfl (fun K hK=>?_);go_simp;refine hK _ _ ?_;clear hK K)
    refine wpMixH_nil ?_
    intro w8 hL8
    have HFIN:=Lib.hid (show (d.lm.saysF (j:Int) (m.hear u).least).2=(d.hear m).2∧DPost' w base F g gw (d.hear m).1 w8 from by
     rw [HHS.out]
     refine ⟨by rw [← HME.out];exact HSY.out,_,(HD7.out.later hL8).congr ?_,HM7.out.trans (Moves.of_below (F:=F) hL8) (fun _ _ k=>k),HG7.out⟩
     rw [DkM.set_eq,HME.out];simp only [Int.toNat_natCast];rfl)
    clear hL8 HD7 HM7 HG7
    generalize (d.lm.saysF (j:Int) (m.hear u).least).2=code at *
    go_wp2
    go_ret
    exact ⟨by rw [← HFIN.out.1];rfl,HFIN.out.2⟩
end
end Go.Proofs.YtneoeokfffnonaaGreatDoor
