/- The document's desk: lines one behind the other. -/
import Derived.Test.YtneoeokfffnonaaGreatDoorRdLine
import Derived.Test.YtneoeokfffnonaaGreatDoorDsBeg
set_option linter.unusedVariables false
set_option linter.unusedSimpArgs false
namespace Go.Proofs.YtneoeokfffnonaaGreatDoor
open Go.RowKit Go
section
variable {w w' : World} {base:Nat} {F:Nat→Prop} {g:Nat} {d:DkM} {t:Str}
theorem rlineP_c {w1:World} (h:RdP w base F g d t w1) (ho:d.Ok) (hs:d.Sm 1000) (hl:t.length≤80000000) (hk:LibK w1) (hB:lowB≤base) (s:ByteArray) (hz:s.size≤9000) :
 Calls Tryz.prog 18 #[.pointer (some ⟨g,0,none⟩),.string s] w1 fun e w'=>(∃ u,e=.returned u)∧RdP w base F g (tellK d (askF s.data.toList)).1 (t++linesS (tellK d (askF s.data.toList)).2) w':=by
 obtain ⟨F1,k1,k2,k3⟩:=h
 refine (rline_c k1 ho hs hl hk hB s hz).mono ?_
 intro e w' hq
 obtain ⟨hu,F2,q1,q2,q3⟩:=hq
 exact ⟨hu,F2,q1,movesT k2 k3 q2,growsT k3 k2.size q3⟩
set_option maxRecDepth 100000 in
set_option maxHeartbeats 1000000 in
theorem rdGo_c (h:RdAt w base F g d t) (ho:d.Ok) {N:Nat} (hs:d.Sm N) (hN:N+150≤1000) (hk:LibK w) (hB:lowB≤base) (a:Option Addr) (cap:Nat) (xs:List ByteArray) (hx:∀ W,Moves F w W→SlO W a cap xs) (hz:∀ x∈xs,x.size≤9000) (hl150:xs.length≤150) :
 Calls Tryz.prog 10 #[.pointer (some ⟨g,0,none⟩),.slice a xs.length cap] w fun e w'=>e=.returned (.string ⟨(linesK d (xs.map (fun x:ByteArray=>x.data.toList))).2.toArray⟩)∧RdP w base F g (linesK d (xs.map (fun x:ByteArray=>x.data.toList))).1 (linesK d (xs.map (fun x:ByteArray=>x.data.toList))).2 w':=by
 obtain ⟨ht1,ht2⟩:=h.tell []
 have c0:=h.c0
 have f0:=h.fz 0
 have HST:=Lib.hid (show RdP w base F g d [] (w.setCell ⟨g,0,none⟩ (.string ⟨#[]⟩)) from RdS.post ⟨ht1,ht2⟩ h.fg)
 have HX:=Lib.hid hx
 have HH:=Lib.hid h
 have HK:=Lib.hid hk
 have HO:=Lib.hid ho
 have HS:=Lib.hid hs
 have HZ:=Lib.hid hz
 have HB:=Lib.hid hB
 obtain ⟨ys,hys⟩:∃ ys,ys=(xs.map (fun x:ByteArray=>x.data.toList)):=⟨_,rfl⟩
 have hyl:ys.length=xs.length:=by rw [hys,List.length_map]
 have HYS:=Lib.hid hys
 have HYL:=Lib.hid hyl
 have HL150:=Lib.hid (show ys.length≤150 from by rw [hyl];exact hl150)
 have HS0:=Lib.hid (show RdP w base F g (linesK d (ys.take 0)).1 (linesK d (ys.take 0)).2 (w.setCell ⟨g,0,none⟩ (.string ⟨#[]⟩)) from HST.out)
 rw [← hys]
 clear h ho hs hz hB hx hk hys hyl ht1 ht2 HST
 go_enter Tryz.func10,Tryz.ntmps10
 go_wp2
 clear c0 f0
 go_loopw [5] (fun s5 wq=>∃ k:Nat,k≤xs.length∧s5=(.int .i64 (k:Int))∧Hid (RdP w base F g (linesK d (ys.take k)).1 (linesK d (ys.take k)).2 wq)) (fun s5 _=>xs.length - (intOf s5).toNat)
 case atStart=>exact ⟨0,Nat.zero_le _,rfl,HS0⟩
 case round=>
  obtain ⟨k,hk,rfl,HP⟩:=hrel
  rename World=>wq
  clear HS0
  have HBQ:=Lib.hid (HP.out.bel HH.out)
  have hwk:IntKind.i64.wrap ((k:Int)+1)=(k:Int)+1:=by rw [IntKind.wrap_i64];omega
  by_cases hlt:k < xs.length
  ·obtain ⟨b,off,rfl,hc⟩:=(HX.out wq HP.out.mv).nth hlt
   have hlt' : (k:Int) < (xs.length:Int):=by omega
   have hk0:(0:Int)≤(k:Int):=by omega
   have HKY:=Lib.hid (show ∃ hj:k < ys.length,ys[k]=(xs[k]).data.toList from ⟨by rw [HYL.out];exact hlt,by simp only [HYS.out,List.getElem_map]⟩)
   have HXZ:=Lib.hid (HZ.out xs[k] (List.getElem_mem hlt))
   generalize xs[k]=x at *
   have HTK:=Lib.hid (show linesK d (ys.take (k+1))=((tellK (linesK d (ys.take k)).1 (askF x.data.toList)).1,(linesK d (ys.take k)).2++linesS (tellK (linesK d (ys.take k)).1 (askF x.data.toList)).2) from by
    obtain ⟨hj,e⟩:=HKY.out
    rw [linesK_take d ys k hj,e])
   have HTL:=Lib.hid (take_len ys k HO.out HS.out hN HL150.out)
   have HKq:=Lib.hid (HK.out.laterB HB.out HBQ.out)
   have HLN:=Lib.hid (rlineP_c HP.out HTL.out.1 HTL.out.2.1 HTL.out.2.2 HKq.out HB.out x HXZ.out)
   clear HKY HTL HKq HP HBQ HXZ
   go_wp2_with fail
   refine HLN.out.mono ?_
   rintro e w4 ⟨⟨u,rfl⟩,hp4⟩
   have HP4:=Lib.hid (show RdP w base F g (linesK d (ys.take (k+1))).1 (linesK d (ys.take (k+1))).2 w4 from hp4.congr (by rw [HTK.out]) (by rw [HTK.out]))
   clear hp4 HLN HTK
   go_wp2
   exact ⟨⟨k+1,by omega,by go_num,HP4⟩,by simp [intOf];omega⟩
  ·obtain rfl:k=xs.length:=by omega
   have hltB:decide ((xs.length:Int) < (xs.length:Int))=false:=by simp
   have HPE:=Lib.hid (show RdP w base F g (linesK d ys).1 (linesK d ys).2 wq from HP.out.congr (by rw [List.take_of_length_le (by rw [HYL.out];exact Nat.le_refl _)]) (by rw [List.take_of_length_le (by rw [HYL.out];exact Nat.le_refl _)]))
   have c0:wq.cell? ⟨g,0,none⟩=some (.string ⟨(linesK d ys).2.toArray⟩):=by
    obtain ⟨F1,k1,_,_⟩:=HPE.out
    exact k1.c0
   clear HP HBQ
   go_wp2
   go_ret
   exact ⟨rfl,HPE.out⟩
end
end Go.Proofs.YtneoeokfffnonaaGreatDoor
set_option linter.unusedVariables false
set_option linter.unusedSimpArgs false
namespace Go.Proofs.YtneoeokfffnonaaGreatDoor
open Go.RowKit Go
def LD (w0 wx:World) (b1 b2 g1 g2 Y:Nat) (va vb:Value) (d1 d2:DkM):Prop:=
 ∃ F1 F2 t,DsI wx b1 F1 g1 d1∧RdAt wx b2 F2 g2 d2 t∧(∀ k,F1 k→¬ F2 k)∧¬ F1 Y∧¬ F2 Y∧wx.cell? ⟨Y,0,none⟩=some va∧wx.cell? ⟨Y,1,none⟩=some vb∧Below w0.heap.size w0 wx
section
variable {w0 w1 w2:World} {b1 b2 g1 g2 Y:Nat} {va vb:Value} {d1 d2:DkM}
theorem LD.later (h:LD w0 w1 b1 b2 g1 g2 Y va vb d1 d2) (hl:Below w1.heap.size w1 w2):LD w0 w2 b1 b2 g1 g2 Y va vb d1 d2:=by
 obtain ⟨F1,F2,t,h1,h2,hd,n1,n2,c0,c1,hb⟩:=h
 have hY:Y < w1.heap.size:=World.block_lt_of_cell? w1 _ c0
 exact ⟨F1,F2,t,h1.later hl,h2.later hl,hd,n1,n2,(hl.cell (p:=⟨Y,0,none⟩) hY).trans c0,(hl.cell (p:=⟨Y,1,none⟩) hY).trans c1,hb.trans (hl.mono hb.size)⟩
theorem LD.bel (h:LD w0 w1 b1 b2 g1 g2 Y va vb d1 d2):Below w0.heap.size w0 w1:=by
 obtain ⟨F1,F2,t,h1,h2,hd,n1,n2,c0,c1,hb⟩:=h
 exact hb
theorem LD.do1 (h:LD w0 w1 b1 b2 g1 g2 Y va vb d1 d2) (ho:d1.Ok) {N:Nat} (hs:d1.Sm N) (hN:N+150≤1000) (hk:LibK w0) (hw:w0.heap.size≤b1) {a:Option Addr} {cap:Nat} {xs:List ByteArray} (hx:SlO w0 a cap xs) (hz:∀ x∈xs,x.size≤9000)
 {ys:List Str} (hy:(xs.map (fun x:ByteArray=>x.data.toList))=ys) {c k:Int} (hf:faultK ys=(c,k)) {S:ByteArray} (hS:S=⟨(saysK d1 ys).toArray⟩) {D:DkM} (hD:D=doK d1 ys) :
 Calls Tryz.prog 8 #[.pointer (some ⟨g1,0,none⟩),.slice a xs.length cap] w1 fun e w'=>e=.returned (.tuple #[.string S,.agg #[.int .i64 c,.int .i64 k]])∧LD w0 w' b1 b2 g1 g2 Y va vb D d2:=by
 obtain ⟨F1,F2,t,h1,h2,hd,n1,n2,c0,c1,hb⟩:=h
 have hlt:=hx.lt
 have hY:Y < w1.heap.size:=World.block_lt_of_cell? w1 _ c0
 have hsl:=hx.below hb
 have hc:=dsDo_c h1 ho hs hN (hk.later hb) (Nat.le_trans hk.low hw) a cap xs (fun W hW=>hsl.moves hW (fun ad e hne hF=>by have:=hlt ad e hne;have:=(h1.foot _ hF).1;omega)) hz
 rw [hy,hf,← hS,← hD] at hc
 refine hc.mono ?_
 rintro e w' ⟨he,F1',k1,km,kg⟩
 refine ⟨he,F1',F2,t,k1,h2.moves km (fun k hk e=>hd k e hk),fun k hk e=>?_,fun e=>?_,n2,(km.cell hY n1 0).trans c0,(km.cell hY n1 1).trans c1,hb.trans ((h1.bel km).mono hw)⟩
 ·rcases kg k hk with q | q
  ·exact hd k q e
  ·have:=(h2.foot k e).2;omega
 ·rcases kg Y e with q | q
  ·exact n1 q
  ·omega
theorem LD.do2 (h:LD w0 w1 b1 b2 g1 g2 Y va vb d1 d2) (ho:d2.Ok) {N:Nat} (hs:d2.Sm N) (hN:N+150≤1000) (hk:LibK w0) (hw:w0.heap.size≤b2) {a:Option Addr} {cap:Nat} {xs:List ByteArray} (hx:SlO w0 a cap xs) (hz:∀ x∈xs,x.size≤9000) (hl:xs.length≤150)
 {ys:List Str} (hy:(xs.map (fun x:ByteArray=>x.data.toList))=ys) {S:ByteArray} (hS:S=⟨(linesK d2 ys).2.toArray⟩) {D:DkM} (hD:D=(linesK d2 ys).1) :
 Calls Tryz.prog 10 #[.pointer (some ⟨g2,0,none⟩),.slice a xs.length cap] w1 fun e w'=>e=.returned (.string S)∧LD w0 w' b1 b2 g1 g2 Y va vb d1 D:=by
 obtain ⟨F1,F2,t,h1,h2,hd,n1,n2,c0,c1,hb⟩:=h
 have hlt:=hx.lt
 have hY:Y < w1.heap.size:=World.block_lt_of_cell? w1 _ c0
 have hsl:=hx.below hb
 have hc:=rdGo_c h2 ho hs hN (hk.later hb) (Nat.le_trans hk.low hw) a cap xs (fun W hW=>hsl.moves hW (fun ad e hne hF=>by have:=hlt ad e hne;have:=(h2.foot _ hF).1;omega)) hz hl
 rw [hy,← hS,← hD] at hc
 refine hc.mono ?_
 rintro e w' ⟨he,F2',k1,km,kg⟩
 refine ⟨he,F1,F2',_,h1.moves km (fun k hk e=>hd k hk e),k1,fun k hk e=>?_,n1,fun e=>?_,(km.cell hY n2 0).trans c0,(km.cell hY n2 1).trans c1,hb.trans ((km.below (fun k hk=>(h2.foot k hk).1) h2.base_le).mono hw)⟩
 ·rcases kg k e with q | q
  ·exact hd k hk q
  ·have:=(h1.foot k hk).2;omega
 ·rcases kg Y e with q | q
  ·exact n2 q
  ·omega
end
set_option maxRecDepth 100000 in
set_option maxHeartbeats 4000000 in
theorem DeskDoes_c (a:Option Addr) (cap:Nat) (l:List ByteArray) (b:Option Addr) (capb:Nat) (m:List ByteArray) (w:World) (hs:SlO w a cap l) (hok:(∀ s∈l,s.size≤140737488355328)∧(a=none→cap=0)) (ht:SlO w b capb m) (hokb:(∀ s∈m,s.size≤140737488355328)∧(b=none→capb=0)) (hk:LibK w) :
 Calls Tryz.prog 3 #[.slice a l.length cap,.slice b m.length capb] w fun e w'=>e=.returned (.bool true)∧Below w.heap.size w w':=by
 have HS:=Lib.hid hs
 have HT:=Lib.hid ht
 have HOK:=Lib.hid hok
 have HOKB:=Lib.hid hokb
 have HK:=Lib.hid hk
 clear hs hok hk ht hokb
 go_enter Tryz.func3,Tryz.ntmps3
 go_wp2_with fail
 refine (deskBegun_c w HK.out).mono ?_
 rintro e w1 ⟨rfl,hb1⟩
 have HB1:=Lib.hid hb1
 clear hb1
 by_cases hbig:200 < l.length
 case pos=>
  have hbB:decide ((200:Int) < (l.length:Int))=true:=decide_eq_true (by omega)
  go_wp2
  go_ret
  exact ⟨rfl,HB1.out⟩
 have hbB:decide ((200:Int) < (l.length:Int))=false:=decide_eq_false (by omega)
 by_cases hbig2:200 < m.length
 case pos=>
  have hbB2:decide ((200:Int) < (m.length:Int))=true:=decide_eq_true (by omega)
  go_wp2
  go_ret
  exact ⟨rfl,HB1.out⟩
 have hbB2:decide ((200:Int) < (m.length:Int))=false:=decide_eq_false (by omega)
 go_wp2_with fail
 refine (slow_c a cap l w1 (HS.out.below HB1.out) HOK.out.1).mono ?_
 rintro e w2 ⟨rfl,rfl⟩
 cases hsl:slowK 0 (l.map (fun x:ByteArray=>x.data.toList))
 case true=>
  go_wp2
  go_ret
  exact ⟨rfl,HB1.out⟩
 go_wp2_with fail
 refine (slow_c b capb m w2 (HT.out.below HB1.out) HOKB.out.1).mono ?_
 rintro e w3 ⟨rfl,rfl⟩
 cases hsm:slowK 0 (m.map (fun x:ByteArray=>x.data.toList))
 case true=>
  go_wp2
  go_ret
  exact ⟨rfl,HB1.out⟩
 have HZ:=Lib.hid (show (∀ x∈l,x.size≤9000)∧∀ x∈m,x.size≤9000 from ⟨fun x hx=>by
  have:=slowK_false _ 0 (Int.le_refl _) hsl x.data.toList (List.mem_map.2 ⟨x,hx,rfl⟩)
  rw [ba_len] at this;exact this,fun x hx=>by
  have:=slowK_false _ 0 (Int.le_refl _) hsm x.data.toList (List.mem_map.2 ⟨x,hx,rfl⟩)
  rw [ba_len] at this;exact this⟩)
 clear hsl hsm hbB hbB2
 go_wp2_with fail
 refine (dsNew_c w3).mono ?_
 rintro e w4 ⟨F1,g1,rfl,hI1,hb4⟩
 go_wp2_with fail
 refine (rdNew_c w4).mono ?_
 rintro e w5 ⟨F2,g2,rfl,hI2,hb5⟩
 have HW3:=Lib.hid (show w.heap.size≤w3.heap.size from HB1.out.size)
 have HW4:=Lib.hid (show w.heap.size≤w4.heap.size from Nat.le_trans HB1.out.size hb4.size)
 have hbo:=(Below.refl w5.heap.size w5).alloc (Nat.le_refl _) (.cells #[.slice a l.length cap,.slice b m.length capb] 22)
 have HLD:=Lib.hid (show LD w (w5.alloc (.cells #[.slice a l.length cap,.slice b m.length capb] 22)) w3.heap.size w4.heap.size g1 g2 w5.heap.size (.slice a l.length cap) (.slice b m.length capb) DkM.new DkM.new from by
  have hI5:=hI1.later hb5
  refine ⟨F1,F2,[],hI5.later hbo,hI2.later hbo,fun k h1 h2=>?_,fun e=>?_,fun e=>?_,by simp,by simp,?_⟩
  ·have:=(hI1.foot k h1).2;have:=(hI2.foot k h2).1;omega
  ·have:=(hI5.foot _ e).2;omega
  ·have:=(hI2.foot _ e).2;omega
  ·exact ((HB1.out.trans (hb4.mono HB1.out.size)).trans (hb5.mono (Nat.le_trans HB1.out.size hb4.size))).trans (hbo.mono (Nat.le_trans (Nat.le_trans HB1.out.size hb4.size) hb5.size)))
 clear hI1 hI2 hb4 hb5 hbo
 go_upto_region 8 with fail
 generalize hw6:w5.alloc _=w6
 have hw6' : w5.alloc (.cells #[.slice a l.length cap,.slice b m.length capb] 22)=w6:=hw6
 rw [hw6'] at HLD
 clear hw6 hw6'
 generalize w5.heap.size=Y at HLD ⊢
 have HN0:=Lib.hid (show DkM.new.Ok∧DkM.new.Sm (0 * 150) from ⟨DkM.new_ok,DkM.new_sm⟩)
 go_wp2
 go_loopw [8] (fun s8 wr=>∃ (i:Nat) (dM:DkM),i≤2∧s8=(.int .i64 (i:Int))∧Hid (dM.Ok∧dM.Sm (i * 150))∧Hid (LD w wr w3.heap.size w4.heap.size g1 g2 Y (.slice a l.length cap) (.slice b m.length capb) dM dM)) (fun s8 _=>2 - (intOf s8).toNat)
 case atStart=>exact ⟨0,DkM.new,by omega,rfl,HN0,HLD⟩
 case round=>
  obtain ⟨i,dM,hi,rfl,HOM,HL⟩:=hrel
  rename World=>wr
  clear HN0 HLD
  have hwi:IntKind.i64.wrap ((i:Int)+1)=(i:Int)+1:=by rw [IntKind.wrap_i64];omega
  by_cases hlt:i < 2
  ·have hlt' : (i:Int) < 2:=by omega
   have hi0:(0:Int)≤(i:Int):=by omega
   obtain ⟨a',cap',xs,HSEL,hxo,hxz⟩:∃ (a' : Option Addr) (cap' : Nat) (xs:List ByteArray),Hid (∀ W d1 d2,LD w W w3.heap.size w4.heap.size g1 g2 Y (.slice a l.length cap) (.slice b m.length capb) d1 d2→W.cell? ⟨Y,i,none⟩=some (.slice a' xs.length cap'))∧SlO w a' cap' xs∧∀ x∈xs,x.size≤9000:=by
    rcases (show i=0∨i=1 by omega) with rfl | rfl
    ·exact ⟨a,cap,l,Lib.hid (fun W d1 d2 h=>by obtain ⟨F1,F2,t,h1,h2,hd,n1,n2,c0,c1,hb⟩:=h;exact c0),HS.out,HZ.out.1⟩
    ·exact ⟨b,capb,m,Lib.hid (fun W d1 d2 h=>by obtain ⟨F1,F2,t,h1,h2,hd,n1,n2,c0,c1,hb⟩:=h;exact c1),HT.out,HZ.out.2⟩
   have HXO:=Lib.hid hxo
   have HXZ:=Lib.hid hxz
   obtain ⟨ys,hys⟩:∃ ys,ys=(xs.map (fun x:ByteArray=>x.data.toList)):=⟨_,rfl⟩
   obtain ⟨⟨c,k⟩,hf⟩:∃ p,faultK ys=p:=⟨_,rfl⟩
   obtain ⟨S,hS⟩:∃ S:ByteArray,S=⟨(saysK dM ys).toArray⟩:=⟨_,rfl⟩
   obtain ⟨D,hD⟩:∃ D,D=doK dM ys:=⟨_,rfl⟩
   have HYS:=Lib.hid hys.symm
   have HF:=Lib.hid hf
   have HSS:=Lib.hid hS
   have HDD:=Lib.hid hD
   have HDO:=Lib.hid (HL.out.do1 HOM.out.1 HOM.out.2 (by omega) HK.out HW3.out hxo hxz HYS.out hf hS hD)
   have hcel:=HSEL.out wr _ _ HL.out
   clear hxo hxz hys hf hS hD HL
   go_wp2_with fail
   refine HDO.out.mono ?_
   rintro e w7 ⟨rfl,hld⟩
   have hbo:=(Below.refl w7.heap.size w7).alloc (Nat.le_refl _) (.cells #[.int .i64 c,.int .i64 k] 31)
   have HL8:=Lib.hid (hld.later hbo)
   have x0:(w7.alloc (.cells #[.int .i64 c,.int .i64 k] 31)).cell? ⟨w7.heap.size,0,none⟩=some (.int .i64 c):=by simp
   have x1:(w7.alloc (.cells #[.int .i64 c,.int .i64 k] 31)).cell? ⟨w7.heap.size,1,none⟩=some (.int .i64 k):=by simp
   clear hld hbo HDO hcel
   go_upto_region 12 with fail
   generalize hw8:w7.alloc _=w8
   have hw8' : w7.alloc (.cells #[.int .i64 c,.int .i64 k] 31)=w8:=hw8
   rw [hw8'] at HL8 x0 x1
   clear hw8 hw8'
   generalize w7.heap.size=X1 at x0 x1 ⊢
   have hcel:=HSEL.out w8 _ _ HL8.out
   have HLF:=Lib.hid (LinesFault_c a' cap' xs w8 (HXO.out.below HL8.out.bel) HXZ.out)
   rw [HYS.out,HF.out] at HLF
   have HX0:=Lib.hid x0
   have HX1:=Lib.hid x1
   clear x0 x1
   go_wp2_with fail
   refine HLF.out.mono ?_
   rintro e w9 ⟨rfl,hb9⟩
   have hbo:=(Below.refl w9.heap.size w9).alloc (Nat.le_refl _) (.cells #[.int .i64 c,.int .i64 k] 31)
   have HL10:=Lib.hid ((HL8.out.later hb9).later hbo)
   have hXl:=World.block_lt_of_cell? w8 _ HX0.out
   have u0:=(hb9.cell (p:=⟨X1,0,none⟩) hXl).trans HX0.out
   have u1:=(hb9.cell (p:=⟨X1,1,none⟩) hXl).trans HX1.out
   have x0:=(hbo.cell (p:=⟨X1,0,none⟩) (World.block_lt_of_cell? w9 _ u0)).trans u0
   have x1:=(hbo.cell (p:=⟨X1,1,none⟩) (World.block_lt_of_cell? w9 _ u1)).trans u1
   have y0:(w9.alloc (.cells #[.int .i64 c,.int .i64 k] 31)).cell? ⟨w9.heap.size,0,none⟩=some (.int .i64 c):=by simp
   have y1:(w9.alloc (.cells #[.int .i64 c,.int .i64 k] 31)).cell? ⟨w9.heap.size,1,none⟩=some (.int .i64 k):=by simp
   clear hb9 hbo HLF HL8 HX0 HX1 hXl u0 u1 hcel
   go_upto_region 13 with fail
   generalize hw10:w9.alloc _=w10
   have hw10' : w9.alloc (.cells #[.int .i64 c,.int .i64 k] 31)=w10:=hw10
   rw [hw10'] at HL10 x0 x1 y0 y1
   clear hw10 hw10'
   generalize w9.heap.size=X2 at y0 y1 ⊢
   by_cases hc:c=0
   ·subst hc
    obtain ⟨hl150,_⟩:=faultK_zero.1 (show (faultK ys).1=0 from by rw [HF.out])
    have hxl:xs.length≤150:=by rw [← HYS.out,List.length_map] at hl150;exact hl150
    have HSE:=Lib.hid (show S=⟨(linesK dM ys).2.toArray⟩∧D=(linesK dM ys).1 from by
     rw [HSS.out,HDD.out];unfold saysK doK;rw [HF.out];exact ⟨by rw [if_pos rfl],if_pos rfl⟩)
    have HDO:=Lib.hid (HL10.out.do2 HOM.out.1 HOM.out.2 (by omega) HK.out HW4.out HXO.out HXZ.out hxl HYS.out HSE.out.1 HSE.out.2)
    have HDM:=Lib.hid (show D.Ok∧D.Sm ((i+1) * 150) from by
     rw [HSE.out.2]
     exact ⟨linesK_ok _ HOM.out.1,(linesK_sm _ HOM.out.2).mono (by omega)⟩)
    have hcel:=HSEL.out w10 _ _ HL10.out
    clear hl150 hxl
    go_wp2_with fail
    refine HDO.out.mono ?_
    rintro e w11 ⟨rfl,hld⟩
    have HL11:=Lib.hid hld
    clear hld HDO HL10 hcel x0 x1 y0 y1
    go_wp2
    exact ⟨⟨i+1,D,by omega,by go_num,HDM,HL11⟩,by simp [intOf];omega⟩
   ·have hcD:decide (c=0)=false:=decide_eq_false hc
    have hcN:(c !=0)=true:=by simpa using hc
    have hcE:(c==0)=false:=by simpa using hc
    have HSE:=Lib.hid (show S=⟨#[]⟩∧D=dM from by
     rw [HSS.out,HDD.out];unfold saysK doK;rw [HF.out];exact ⟨by rw [if_neg hc],if_neg hc⟩)
    have HDM:=Lib.hid (show dM.Ok∧dM.Sm ((i+1) * 150) from ⟨HOM.out.1,HOM.out.2.mono (by omega)⟩)
    obtain ⟨rfl,hDd⟩:=HSE.out
    rw [hDd] at HL10
    clear hc hDd HSE
    go_wp2
    exact ⟨⟨i+1,dM,by omega,by go_num,HDM,HL10⟩,by simp [intOf];omega⟩
  ·obtain rfl:i=2:=by omega
   have HBE:=Lib.hid HL.out.bel
   go_wp2
   go_ret
   exact ⟨rfl,HBE.out⟩
end Go.Proofs.YtneoeokfffnonaaGreatDoor
