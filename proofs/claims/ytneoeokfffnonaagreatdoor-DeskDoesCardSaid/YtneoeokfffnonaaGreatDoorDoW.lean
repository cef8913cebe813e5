/- Merged: DoW TakenW DoW2 DoW3 AllW SlDdW FoN DdPut. -/
import Derived.Test.YtneoeokfffnonaaGreatDoorFoldW
set_option linter.unusedVariables false
set_option linter.unusedSimpArgs false
namespace Go.Proofs.YtneoeokfffnonaaGreatDoor
open Go.RowKit
theorem behind_nonneg (seen by_:Int) (l:List Ch) (n:Int) (h0:0≤n) (h:n≤((vis seen by_ l).length:Int)):∃ b:Nat,behind seen by_ l n=(b:Int)∧b≤l.length:=by
 by_cases hz:n=0
 ·subst hz;exact ⟨0,by unfold behind;rw [if_pos rfl];rfl,Nat.zero_le _⟩
 ·obtain ⟨m,rfl⟩:=Int.eq_ofNat_of_zero_le h0
  obtain ⟨k,hk,he,_⟩:=behind_pos seen by_ l m (by omega) (by omega)
  exact ⟨k+1,by rw [he];omega,by omega⟩
set_option maxHeartbeats 1000000 in
theorem place_c (a:Option Addr) (cap:Nat) (l:List Ch) (d:Dd) (w:World) (hs:SlCh w a cap l) (hsz:l.length≤140737488355328) (h0:0≤d.At) (hat:d.At≤((vis d.Seen d.By l).length:Int)) :
 Calls Tryz.prog 167 #[.slice a l.length cap,.agg #[.int .i64 d.Kind,.int .i64 d.By,.int .i64 d.No,.int .i64 d.Seen,.int .i64 d.At,.int .i64 d.Many,.string d.Text]] w fun e w'=>e=.returned (.int .i64 ((putAt l d:Nat):Int))∧Below w.heap.size w w':=by
 have hb0:=(Below.refl w.heap.size w).alloc (Nat.le_refl _) (.cells #[.int .i64 d.Kind,.int .i64 d.By,.int .i64 d.No,.int .i64 d.Seen,.int .i64 d.At,.int .i64 d.Many,.string d.Text] 122)
 have hd0:=DdAt.new w d
 have hs0:=hs.below hb0
 have hv:=vis_le d.Seen d.By l
 have hlc:=hs.1
 obtain ⟨b,hbe,hbl⟩:=behind_nonneg d.Seen d.By l d.At h0 hat
 have Hf:=Lib.hid (show putAt l d=skip d.By l b by unfold putAt;rw [hbe];rfl)
 have HBE:=Lib.hid hbe;clear hbe hs
 go_enter Tryz.func167,Tryz.ntmps167
 go_upto_region 1 with fail
 generalize hw0:w.alloc (.cells #[.int .i64 d.Kind,.int .i64 d.By,.int .i64 d.No,.int .i64 d.Seen,.int .i64 d.At,.int .i64 d.Many,.string d.Text] 122)=w0 at *
 clear hw0
 obtain ⟨dlt,d0,d1,d2,d3,d4,d5,d6⟩:=hd0
 have hd0:DdAt w0 w.heap.size d:=⟨dlt,d0,d1,d2,d3,d4,d5,d6⟩
 go_wp2_with fail
 refine (Behind_c a cap l d.Seen d.By d.At _ hs0 hsz (by omega) (by omega)).mono ?_
 rintro e w1 ⟨rfl,hb1⟩
 rw [HBE.out]
 have hd1:=hd0.later hb1
 have hx1:=hb0.trans (hb1.mono hb0.size)
 have hs1:=hs0.below hb1
 clear hb1 hd0 d0 d1 d2 d3 d4 d5 d6 dlt hs0 hb0 HBE h0 hat
 go_wp2
 go_loopw [5] (fun s5 wr=>∃ k:Nat,k≤l.length∧s5=.int .i64 k∧Hid (skip d.By l k=skip d.By l b)∧Below w1.heap.size w1 wr) (fun s5 _=>l.length - (intOf s5).toNat)
 case atStart=>exact ⟨b,hbl,rfl,Lib.hid rfl,Below.refl _ _⟩
 case round=>
  obtain ⟨k,hk,rfl,HS,hb⟩:=hrel
  obtain ⟨dl,d0,d1,d2,d3,d4,d5,d6⟩:=hd1.later hb
  clear d0 d2 d3 d4 d5 d6
  have HX:=Lib.hid (hx1.trans (hb.mono hx1.size))
  by_cases hlt:k < l.length
  ·obtain ⟨bb,off,rfl,hc⟩:=hs1.nth hlt
   obtain ⟨q0,q1,q2,q3,q4,q5,q6⟩:=hc.below hb hc.lt
   clear q0 q2 q3 q5 q6 hc
   have HK:=Lib.hid (skip_step d.By l k hlt)
   have hlt' : (k:Int) < l.length:=by omega
   have hk0:(0:Int)≤(k:Int):=by omega
   have hltB:decide ((k:Int) < (l.length:Int))=true:=by simp;omega
   generalize hx:l[k]=x at *
   clear hx
   have hinc:IntKind.i64.wrap ((k:Int)+1)=(k:Int)+1:=by rw [IntKind.wrap_i64];omega
   cases h1:(x.In==1073741824)
   ·have HS2:=Lib.hid (show skip d.By l b=k by rw [← HS.out,HK.out,if_neg];unfold openOther;rw [h1];simp)
    clear HK HS
    go_upto_region 2 with fail
    go_quiet (fail)
    go_wp2
    go_ret
    exact ⟨by rw [Hf.out,HS2.out];rfl,bl_drewN HX.out _⟩
   ·cases h2:(x.By !=d.By)
    ·have HS2:=Lib.hid (show skip d.By l b=k by rw [← HS.out,HK.out,if_neg];unfold openOther;rw [h1,h2];simp)
     clear HK HS
     go_upto_region 2 with fail
     go_quiet (fail)
     go_wp2
     go_ret
     exact ⟨by rw [Hf.out,HS2.out];rfl,bl_drewN HX.out _⟩
    ·have HS2:=Lib.hid (show skip d.By l (k+1)=skip d.By l b by rw [← HS.out,HK.out,if_pos];unfold openOther;rw [h1,h2];rfl)
     clear HK HS
     go_upto_region 2 with fail
     go_quiet (fail)
     go_wp2
     exact ⟨⟨k+1,by omega,by go_num,HS2,bl_drewN hb _⟩,by simp [intOf];omega⟩
  ·obtain rfl:k=l.length:=by omega
   have HS2:=Lib.hid (show skip d.By l b=l.length by rw [← HS.out];exact skip_end _ _ _ (Nat.le_refl _))
   have hltB:decide ((l.length:Int) < (l.length:Int))=false:=by simp
   clear HS
   go_upto_region 2 with fail
   go_quiet (fail)
   go_wp2
   go_ret
   exact ⟨by rw [Hf.out,HS2.out];rfl,bl_drewN HX.out _⟩
end Go.Proofs.YtneoeokfffnonaaGreatDoor
namespace Go.Proofs.YtneoeokfffnonaaGreatDoor
open Go.RowKit
theorem idxV_snoc (l:List Nat) (k:Nat):idxV (l++[k])=idxV l++[.int .i64 (k:Int)]:=by simp [idxV]
set_option maxHeartbeats 1000000 in
theorem taken_c (a:Option Addr) (cap:Nat) (l:List Ch) (d:Dd) (w:World) (hs:SlCh w a cap l) (hsz:l.length≤140737488355) (hat:0≤d.At∧d.At≤1000) (hmany:0≤d.Many∧d.Many≤1000) :
 Calls Tryz.prog 169 #[.slice a l.length cap,.agg #[.int .i64 d.Kind,.int .i64 d.By,.int .i64 d.No,.int .i64 d.Seen,.int .i64 d.At,.int .i64 d.Many,.string d.Text]] w fun e w'=>∃ a' cap',e=.returned (.slice a' (takenTo l d l.length).length cap')∧
  OwnRow w' w.heap.size 3 1 a' (takenTo l d l.length).length cap' (idxV (takenTo l d l.length))∧Below w.heap.size w w':=by
 have hb0:=(Below.refl w.heap.size w).alloc (Nat.le_refl _) (.cells #[.int .i64 d.Kind,.int .i64 d.By,.int .i64 d.No,.int .i64 d.Seen,.int .i64 d.At,.int .i64 d.Many,.string d.Text] 122)
 have hd0:=DdAt.new w d
 have hs0:=hs.below hb0
 clear hs
 obtain ⟨hat1,hat2⟩:=hat
 obtain ⟨hm1,hm2⟩:=hmany
 go_enter Tryz.func169,Tryz.ntmps169
 go_upto_region 1 with fail
 generalize hw0:w.alloc (.cells #[.int .i64 d.Kind,.int .i64 d.By,.int .i64 d.No,.int .i64 d.Seen,.int .i64 d.At,.int .i64 d.Many,.string d.Text] 122)=w0 at *
 clear hw0
 go_wp2
 go_loopw [5,6,11] (fun s5 s6 s11 wr=>∃ (k:Nat) (a' : Option Addr) (cap' : Nat),k≤l.length∧s11=.int .i64 k∧s6=.int .i64 (cntTo l d k:Nat)∧s5=.slice a' (takenTo l d k).length cap'∧
  OwnRow wr w0.heap.size 3 1 a' (takenTo l d k).length cap' (idxV (takenTo l d k))∧Below w0.heap.size w0 wr) (fun _ _ s11 _=>l.length - (intOf s11).toNat)
 case atStart=>exact ⟨0,none,0,Nat.zero_le _,rfl,rfl,rfl,OwnRow.nil _ _ _ _ _,Below.refl _ _⟩
 case round=>
  obtain ⟨k,a',cap',hk,rfl,rfl,rfl,hown,hb⟩:=hrel
  by_cases hlt:k < l.length
  ·obtain ⟨dl,d0,d1,d2,d3,d4,d5,d6⟩:=hd0.later hb
   have hdk:DdAt wr w.heap.size d:=⟨dl,d0,d1,d2,d3,d4,d5,d6⟩
   obtain ⟨bb,off,rfl,hc⟩:=hs0.nth hlt
   obtain ⟨q0,q1,q2,q3,q4,q5,q6⟩:=hc.below hb hc.lt
   have HT:=Lib.hid (takenTo_snoc l d k)
   have HI:=Lib.hid (isTaken_at l d k hlt)
   have HN:=Lib.hid (cntTo_snoc l d k hlt)
   have hcl:=cntTo_le l d k
   have htl:=takenTo_le l d k
   have HO:=Lib.hid hown;clear hown
   generalize hx:l[k]=x at *
   clear hx
   go_wp2_with fail
   refine (Sees_c x _ _ _).mono ?_
   rintro e w2 ⟨rfl,hb2⟩
   have hz2:=hb2.size
   simp at hz2
   have hbx:Below wr.heap.size wr w2:=((Below.refl wr.heap.size wr).alloc (Nat.le_refl _) _).trans (hb2.mono (by simp))
   have hb02:Below w0.heap.size w0 w2:=hb.trans (hbx.mono hb.size)
   have HO2:=Lib.hid ((HO.out.alloc _).below hb2)
   have hd2:=hdk.later hbx
   obtain ⟨hc2,hf2⟩:=bcell hb2
   clear HO q0 q1 q2 q3 q4 q5 q6 hdk dl d0 d1 d2 d3 d4 d5 d6 hb2 hbx hc
   generalize cntTo l d k=N at *
   obtain ⟨dl,d0,d1,d2,d3,d4,d5,d6⟩:=hd2
   clear d0 d1 d2 d3 d6
   cases hsee:x.sees d.Seen d.By
   ·have HT2:=Lib.hid (show takenTo l d (k+1)=takenTo l d k by rw [HT.out,HI.out,hsee];simp)
    have HN2:=Lib.hid (show cntTo l d (k+1)=N by rw [HN.out,hsee];rfl)
    clear HT HI HN d4 d5
    go_wp2
    exact ⟨⟨k+1,a',cap',by omega,by go_num,by rw [HN2.out],by rw [HT2.out],by rw [HT2.out];exact HO2.out,hb02⟩,by simp [intOf];omega⟩
   ·have HN2:=Lib.hid (show cntTo l d (k+1)=N+1 by rw [HN.out,hsee];rfl)
    by_cases h1:d.At≤(N:Int)
    ·by_cases h2:(N:Int) < d.At+d.Many
     ·have HT2:=Lib.hid (show takenTo l d (k+1)=takenTo l d k++[k] by rw [HT.out,HI.out,hsee];simp [h1,h2])
      clear HT HI HN
      go_wp2_with (at_builtin;refine wpList_append_new rfl (.tmp 35) (.tmp 37) 71 rfl w0.heap.size 3 1 8 Tryz.underlying71 ti_int a' _ cap' _ rfl HO2.out 1 1 [.int .i64 (k:Int)] rfl rfl (one1 rfl) (by omega) hb02.size ?_)
      intro a3 cap3 w3 hown3 hb3 hz3 hg3
      have HO3:=Lib.hid (show OwnRow w3 w0.heap.size 3 1 a3 (takenTo l d (k+1)).length cap3 (idxV (takenTo l d (k+1))) by rw [HT2.out,idxV_snoc,List.length_append];exact hown3)
      clear hown3 HO2
      go_wp2
      exact ⟨⟨k+1,a3,cap3,by omega,by go_num,by rw [HN2.out];go_num,by rw [HT2.out];simp,HO3.out,hb02.trans hb3⟩,by simp [intOf];omega⟩
     ·have HT2:=Lib.hid (show takenTo l d (k+1)=takenTo l d k by rw [HT.out,HI.out,hsee];simp [h2])
      have h2' : decide ((N:Int) < d.At+d.Many)=false:=by simpa using h2
      clear HT HI HN
      go_wp2
      exact ⟨⟨k+1,a',cap',by omega,by go_num,by rw [HN2.out];go_num,by rw [HT2.out],by rw [HT2.out];exact HO2.out,hb02⟩,by simp [intOf];omega⟩
    ·have HT2:=Lib.hid (show takenTo l d (k+1)=takenTo l d k by rw [HT.out,HI.out,hsee];simp [h1])
     have h1' : decide (d.At≤(N:Int))=false:=by simpa using h1
     clear HT HI HN
     go_wp2
     exact ⟨⟨k+1,a',cap',by omega,by go_num,by rw [HN2.out];go_num,by rw [HT2.out],by rw [HT2.out];exact HO2.out,hb02⟩,by simp [intOf];omega⟩
  ·obtain rfl:k=l.length:=by omega
   have HE:=Lib.hid (hb0.trans (hb.mono hb0.size))
   have HO:=Lib.hid (hown.mono hb0.size);clear hown
   go_wp2
   go_ret
   exact ⟨a',cap',rfl,HO.out,HE.out⟩
end Go.Proofs.YtneoeokfffnonaaGreatDoor
namespace Go.Proofs.YtneoeokfffnonaaGreatDoor
open Go.RowKit
theorem size_int:(Tryz.prog.info? 3).map (·.size)=some 1:=by kernel_rfl
theorem Do_no (a:Option Addr) (cap:Nat) (l:List Ch) (d:Dd) (number:Int) (w:World) (hs:SlCh w a cap l) (hsz:l.length * 56≤140737488355328) (ht:d.Text.size≤maxLen) (hm:i64ok d.Many) (h:mayDo l d≠0∨number < 1) :
 Calls Tryz.prog 138 #[.slice a l.length cap,.agg #[.int .i64 d.Kind,.int .i64 d.By,.int .i64 d.No,.int .i64 d.Seen,.int .i64 d.At,.int .i64 d.Many,.string d.Text],.int .i64 number] w fun e w'=>e=.returned (.tuple #[.slice none 0 0,.int .i64 (doF l d number).2])∧Below w.heap.size w w':=by
 have hb0:=(Below.refl w.heap.size w).alloc (Nat.le_refl _) (.cells #[.int .i64 d.Kind,.int .i64 d.By,.int .i64 d.No,.int .i64 d.Seen,.int .i64 d.At,.int .i64 d.Many,.string d.Text] 122)
 have hd0:=DdAt.new w d
 have hs0:=hs.below hb0
 have hsz2:l.length≤140737488355328:=by omega
 clear hs
 by_cases hmay:mayDo l d=0
 ·have hn:number < 1:=by rcases h with h | h;exact absurd hmay h;exact h
  have Hf:=Lib.hid (show (doF l d number).2=1 by unfold doF;rw [if_pos hmay,if_pos hn])
  have HM:=Lib.hid hmay
  clear hmay h
  go_enter Tryz.func138,Tryz.ntmps138
  go_upto_region 1 with fail
  generalize hw0:w.alloc (.cells #[.int .i64 d.Kind,.int .i64 d.By,.int .i64 d.No,.int .i64 d.Seen,.int .i64 d.At,.int .i64 d.Many,.string d.Text] 122)=w0 at *
  clear hw0
  obtain ⟨dlt,d0,d1,d2,d3,d4,d5,d6⟩:=hd0
  go_wp2_with fail
  refine (May_c a cap l d _ hs0 hsz2 ht hm).mono ?_
  rintro e w1 ⟨rfl,hb1⟩
  rw [HM.out]
  have hx1:=hb0.trans (hb1.mono hb0.size)
  go_wp2
  go_ret2
  exact ⟨by rw [Hf.out];rfl,hx1⟩
 ·have Hf:=Lib.hid (show (doF l d number).2=mayDo l d by unfold doF;rw [if_neg hmay])
  have hne:(mayDo l d !=0)=true:=by simpa using hmay
  clear hmay h
  go_enter Tryz.func138,Tryz.ntmps138
  go_upto_region 1 with fail
  generalize hw0:w.alloc (.cells #[.int .i64 d.Kind,.int .i64 d.By,.int .i64 d.No,.int .i64 d.Seen,.int .i64 d.At,.int .i64 d.Many,.string d.Text] 122)=w0 at *
  clear hw0
  obtain ⟨dlt,d0,d1,d2,d3,d4,d5,d6⟩:=hd0
  go_wp2_with fail
  refine (May_c a cap l d _ hs0 hsz2 ht hm).mono ?_
  rintro e w1 ⟨rfl,hb1⟩
  have hx1:=hb0.trans (hb1.mono hb0.size)
  go_wp2
  go_ret2
  exact ⟨by rw [Hf.out];rfl,hx1⟩
set_option maxHeartbeats 1000000 in
theorem Do_put (a:Option Addr) (cap:Nat) (l:List Ch) (d:Dd) (number:Int) (w:World) (hs:SlCh w a cap l) (hnil:a=none→cap=0) (hmay:mayDo l d=0) (hn:1≤number) (hk:d.Kind=1) :
 Calls Tryz.prog 138 #[.slice a l.length cap,.agg #[.int .i64 d.Kind,.int .i64 d.By,.int .i64 d.No,.int .i64 d.Seen,.int .i64 d.At,.int .i64 d.Many,.string d.Text],.int .i64 number] w fun e w'=>∃ a' cap',e=.returned (.tuple #[.slice a' (doF l d number).1.length cap',.int .i64 (doF l d number).2])∧
  OwnRow w' w.heap.size 125 7 a' (doF l d number).1.length cap' (flat (doF l d number).1)∧Below w.heap.size w w':=by
 obtain ⟨hf,hcnt,hlen⟩:=mayDo_zero hmay
 obtain ⟨_,_,_,_,hse,hat,hat2,hq⟩:=deedFault_zero hf
 have hm0:d.Many=0:=by rcases hq with ⟨_,h,_⟩ | ⟨h,_⟩ <;> omega
 have hput:=putAt_le l d
 have hres:doF l d number=(l.take (putAt l d)++newOf d number++l.drop (putAt l d),0):=by
  rcases doF_cases l d number with ⟨h1,e⟩ | ⟨_,hn,e⟩ | ⟨h1,hn,hk,e⟩ | ⟨h1,hn,hk2,e⟩
  ·exact absurd hmay h1
  ·omega
  ·exact e
  ·omega
 have hrl:(l.take (putAt l d)++newOf d number++l.drop (putAt l d)).length=l.length+(newOf d number).length:=by
  simp only [List.length_append,List.length_take,List.length_drop];omega
 have hnl:=newOf_length d number
 have hb0:=(Below.refl w.heap.size w).alloc (Nat.le_refl _) (.cells #[.int .i64 d.Kind,.int .i64 d.By,.int .i64 d.No,.int .i64 d.Seen,.int .i64 d.At,.int .i64 d.Many,.string d.Text] 122)
 have hd0:=DdAt.new w d
 have hs0:=hs.below hb0
 have hkB:(d.Kind==1)=true:=by rw [hk];rfl
 have HMN:=Lib.hid (show i64ok d.Many by unfold i64ok;omega)
 have HR:=Lib.hid hres;have HRL:=Lib.hid hrl;have HM:=Lib.hid hmay;have HN:=Lib.hid hnil
 have hP:∀ W,SlCh W a cap l→Calls Tryz.prog 167 #[.slice a l.length cap,.agg #[.int .i64 d.Kind,.int .i64 d.By,.int .i64 d.No,.int .i64 d.Seen,.int .i64 d.At,.int .i64 d.Many,.string d.Text]] W fun e w'=>e=.returned (.int .i64 ((putAt l d:Nat):Int))∧Below W.heap.size W w':=fun W h=>place_c a cap l d W h (by omega) hat (by omega)
 have hW:∀ W,Calls Tryz.prog 168 #[.agg #[.int .i64 d.Kind,.int .i64 d.By,.int .i64 d.No,.int .i64 d.Seen,.int .i64 d.At,.int .i64 d.Many,.string d.Text],.int .i64 number] W fun e w'=>∃ a' cap',e=.returned (.slice a' (newOf d number).length cap')∧
  OwnRow w' W.heap.size 125 7 a' (newOf d number).length cap' (flat (newOf d number))∧Below W.heap.size W w':=fun W=>New_c d number W (by omega)
 have HP:=Lib.hid hP;have HW:=Lib.hid hW
 have hNS:(newOf d number).length≤200:=by omega
 clear hs hres hrl hmay hnil hP hW hcnt hf hse hat hat2 hq hm0 hnl hk
 generalize newOf d number=NW at *
 generalize putAt l d=at' at *
 go_enter Tryz.func138,Tryz.ntmps138
 go_upto_region 1 with fail
 generalize hw0:w.alloc (.cells #[.int .i64 d.Kind,.int .i64 d.By,.int .i64 d.No,.int .i64 d.Seen,.int .i64 d.At,.int .i64 d.Many,.string d.Text] 122)=w0 at *
 clear hw0
 obtain ⟨dlt,d0,d1,d2,d3,d4,d5,d6⟩:=hd0
 have hd0:DdAt w0 w.heap.size d:=⟨dlt,d0,d1,d2,d3,d4,d5,d6⟩
 go_wp2_with fail
 refine (May_c a cap l d _ hs0 (by omega) (by unfold maxLen;omega) HMN.out).mono ?_
 rintro e w1 ⟨rfl,hb1⟩
 rw [HM.out]
 have hd1:=hd0.later hb1
 have hx1:=hb0.trans (hb1.mono hb0.size)
 have hs1:=hs0.below hb1
 clear hb1 hd0 d0 d1 d2 d3 d4 d5 d6 dlt hs0 hb0 HM
 obtain ⟨dl,d0,d1,d2,d3,d4,d5,d6⟩:=hd1
 have hd1:DdAt w1 w.heap.size d:=⟨dl,d0,d1,d2,d3,d4,d5,d6⟩
 go_wp2_with fail
 refine (Clone_c a cap l _ hs1 (by omega) HN.out).mono ?_
 rintro e w2 ⟨a2,cap2,rfl,ho2,hb2⟩
 have hd2:=hd1.later hb2
 have hs2:=hs1.below hb2
 have hx2:=hx1.trans (hb2.mono hx1.size)
 have HO2:=Lib.hid ho2
 have hsz2:=hb2.size
 clear hb2 hd1 d0 d1 d2 d3 d4 d5 d6 hs1 HN ho2
 have hlt1:w.heap.size < w1.heap.size:=dl
 clear dl
 obtain ⟨dl,d0,d1,d2,d3,d4,d5,d6⟩:=hd2
 have hd2:DdAt w2 w.heap.size d:=⟨dl,d0,d1,d2,d3,d4,d5,d6⟩
 have HD2:=Lib.hid hd2;clear hd2
 have HS2:=Lib.hid hs2;clear hs2
 have HX2:=Lib.hid hx2;clear hx2
 go_upto_region 8 with fail
 go_region_held3 (fun w'=>w'.cell? ⟨w.heap.size,0,none⟩=some (.int .i64 d.Kind)∧w'.cell? ⟨w.heap.size,1,none⟩=some (.int .i64 d.By)∧w'.cell? ⟨w.heap.size,2,none⟩=some (.int .i64 d.No)∧w'.cell? ⟨w.heap.size,3,none⟩=some (.int .i64 d.Seen)∧w'.cell? ⟨w.heap.size,4,none⟩=some (.int .i64 d.At)∧w'.cell? ⟨w.heap.size,5,none⟩=some (.int .i64 d.Many)∧w'.cell? ⟨w.heap.size,6,none⟩=some (.string d.Text))
  (go_keep)
  (first
    | (go_at_call 167
       refine (HP.out _ ?_).mono ?_
       exact HS2.out.of_block fun _ _ _=>rfl
       rintro e w3 ⟨rfl,hb3⟩
       have hb23:Below w2.heap.size w2 w3:=(below_drew w2 _).trans hb3
       obtain ⟨_,e0,e1,e2,e3,e4,e5,e6⟩:=HD2.out.later hb23)
    | (go_at_call 168
       refine (HW.out _).mono ?_
       rintro e w4 ⟨a4,cap4,rfl,ho4,hb4⟩
       have hb34:Below w2.heap.size w2 w4:=hb23.trans (hb4.mono hb23.size)
       have HO4:=Lib.hid ho4
       obtain ⟨_,e0,e1,e2,e3,e4,e5,e6⟩:=HD2.out.later hb34)
    | (go_at_call 166
       refine (Insert_c a2 a4 cap2 cap4 l NW at' _ w1.heap.size _ (HO2.out.below hb34) HO4.out hput (by omega) (by have:=hb34.size;omega) (fun g hg he=>by
        have h1:=(HO2.out.base_le g hg).2
        have h2:=(HO4.out.base_le g he).1
        have h3:=hb23.size
        omega)).mono ?_
       rintro e w5 ⟨a5,cap5,rfl,ho5,hg5⟩
       have hb5:Below w1.heap.size w4 w5:=below_grownBy hg5 (by have:=hb34.size;omega) (fun k hk=>(HO2.out.base_le k hk).1)
       have HO5:=Lib.hid ho5
       obtain ⟨_,e0,e1,e2,e3,e4,e5,e6⟩:=(HD2.out.later hb34).of_block hb5.size (hb5.block w.heap.size hlt1)))
 have HE:=Lib.hid (show Below w.heap.size w w5 from (HX2.out.trans (hb34.mono HX2.out.size)).trans (hb5.mono (by omega)))
 go_wp2
 go_ret2
 refine ⟨a5,cap5,?_,?_,HE.out⟩
 ·rw [HR.out];show Ending.returned (.tuple #[.slice a5 (l.length+NW.length) cap5,_])=_;rw [HRL.out];rfl
 ·rw [HR.out];show OwnRow w5 w.heap.size 125 7 a5 (l.take at'++NW++l.drop at').length cap5 (flat (l.take at'++NW++l.drop at'));rw [HRL.out];exact HO5.out.mono (by omega)
end Go.Proofs.YtneoeokfffnonaaGreatDoor
namespace Go.Proofs.YtneoeokfffnonaaGreatDoor
open Go.RowKit
theorem idxV_get (T:List Nat) (j:Nat) (h:j < T.length):(idxV T)[j]? = some (.int .i64 (T[j]:Int)):=by
 unfold idxV;rw [List.getElem?_map,List.getElem?_eq_getElem h];rfl
theorem idxV_length (T:List Nat):(idxV T).length=T.length:=by simp [idxV]
set_option maxRecDepth 100000 in
set_option maxHeartbeats 4000000 in
theorem Do_take (a:Option Addr) (cap:Nat) (l:List Ch) (d:Dd) (number:Int) (w:World) (hs:SlCh w a cap l) (hnil:a=none→cap=0) (hG:∀ c∈l,i64ok c.Gone) (hmay:mayDo l d=0) (hn:1≤number) (hk:d.Kind=2) :
 Calls Tryz.prog 138 #[.slice a l.length cap,.agg #[.int .i64 d.Kind,.int .i64 d.By,.int .i64 d.No,.int .i64 d.Seen,.int .i64 d.At,.int .i64 d.Many,.string d.Text],.int .i64 number] w fun e w'=>∃ a' cap',e=.returned (.tuple #[.slice a' (doF l d number).1.length cap',.int .i64 (doF l d number).2])∧
  OwnRow w' w.heap.size 125 7 a' (doF l d number).1.length cap' (flat (doF l d number).1)∧Below w.heap.size w w':=by
 obtain ⟨hf,hcnt,hlen⟩:=mayDo_zero hmay
 obtain ⟨hw,_,_,_,hse,hat,hat2,hq⟩:=deedFault_zero hf
 have hm0:1≤d.Many∧d.Many≤200:=by rcases hq with ⟨h,_⟩ | ⟨_,h1,h2,_⟩ <;> omega
 have hres:doF l d number=(takeGo d.Seen d.By d.At (d.At+d.Many) number l 0,0):=by
  rcases doF_cases l d number with ⟨h1,e⟩ | ⟨_,hn,e⟩ | ⟨h1,hn,hk,e⟩ | ⟨h1,hn,hk2,e⟩
  ·exact absurd hmay h1
  ·omega
  ·omega
  ·exact e
 have hkB:(d.Kind==1)=false:=by rw [hk];rfl
 have hrl:=takeGo_length d.Seen d.By d.At (d.At+d.Many) number l 0
 have hall:=marked_all l d number
 have hb0:=(Below.refl w.heap.size w).alloc (Nat.le_refl _) (.cells #[.int .i64 d.Kind,.int .i64 d.By,.int .i64 d.No,.int .i64 d.Seen,.int .i64 d.At,.int .i64 d.Many,.string d.Text] 122)
 have hd0:=DdAt.new w d
 have hs0:=hs.below hb0
 have HR:=Lib.hid hres;have HRL:=Lib.hid hrl;have HM:=Lib.hid hmay;have HN:=Lib.hid hnil;have HALL:=Lib.hid hall
 have hT:∀ W,SlCh W a cap l→Calls Tryz.prog 169 #[.slice a l.length cap,.agg #[.int .i64 d.Kind,.int .i64 d.By,.int .i64 d.No,.int .i64 d.Seen,.int .i64 d.At,.int .i64 d.Many,.string d.Text]] W fun e w'=>∃ a' cap',e=.returned (.slice a' (takenTo l d l.length).length cap')∧
  OwnRow w' W.heap.size 3 1 a' (takenTo l d l.length).length cap' (idxV (takenTo l d l.length))∧Below W.heap.size W w':=fun W h=>taken_c a cap l d W h (by omega) (by omega) (by omega)
 have HT:=Lib.hid hT
 have HND:=Lib.hid (takenTo_nodup l d l.length)
 have HMEM:=Lib.hid (fun j (h:j < (takenTo l d l.length).length)=>takenTo_mem h)
 have hTL:=takenTo_le l d l.length
 have hll:l.length≤200:=by omega
 have HG:=Lib.hid hG
 have HW:=Lib.hid hw
 clear hs hres hrl hmay hnil hT hcnt hf hse hat hat2 hq hm0 hall hG hw hlen hk
 generalize takenTo l d l.length=T at *
 go_enter Tryz.func138,Tryz.ntmps138
 go_upto_region 1 with fail
 generalize hw0:w.alloc (.cells #[.int .i64 d.Kind,.int .i64 d.By,.int .i64 d.No,.int .i64 d.Seen,.int .i64 d.At,.int .i64 d.Many,.string d.Text] 122)=w0 at *
 clear hw0
 obtain ⟨dlt,d0,d1,d2,d3,d4,d5,d6⟩:=hd0
 have hd0:DdAt w0 w.heap.size d:=⟨dlt,d0,d1,d2,d3,d4,d5,d6⟩
 go_wp2_with fail
 refine (May_c a cap l d _ hs0 (by omega) (by have:=(mayDo_zero HM.out).2.2;unfold maxLen;omega) (by have:=deedFault_zero (mayDo_zero HM.out).1;unfold i64ok;omega)).mono ?_
 rintro e w1 ⟨rfl,hb1⟩
 rw [HM.out]
 have hd1:=hd0.later hb1
 have hx1:=hb0.trans (hb1.mono hb0.size)
 have hs1:=hs0.below hb1
 clear hb1 hd0 d0 d1 d2 d3 d4 d5 d6 dlt hs0 hb0 HM
 obtain ⟨dl,d0,d1,d2,d3,d4,d5,d6⟩:=hd1
 have hd1:DdAt w1 w.heap.size d:=⟨dl,d0,d1,d2,d3,d4,d5,d6⟩
 go_wp2_with fail
 refine (Clone_c a cap l _ hs1 (by omega) HN.out).mono ?_
 rintro e w2 ⟨a2,cap2,rfl,ho2,hb2⟩
 have hd2:=hd1.later hb2
 have hs2:=hs1.below hb2
 have hx2:=hx1.trans (hb2.mono hx1.size)
 have HO2:=Lib.hid ho2
 clear hd1 d0 d1 d2 d3 d4 d5 d6 hs1 HN ho2
 have hlt1:w.heap.size < w1.heap.size:=dl
 clear dl
 obtain ⟨dl,d0,d1,d2,d3,d4,d5,d6⟩:=hd2
 have hd2:DdAt w2 w.heap.size d:=⟨dl,d0,d1,d2,d3,d4,d5,d6⟩
 go_wp2_with fail
 refine (HT.out _ hs2).mono ?_
 rintro e w3 ⟨aT,capT,rfl,hoT,hb3⟩
 have hd3:=hd2.later hb3
 have hx3:=hx2.trans (hb3.mono hx2.size)
 have HO3:=Lib.hid (HO2.out.below hb3)
 have HOT:=Lib.hid hoT
 have hne:∀ q,ownB aT capT=some q→ownB a2 cap2≠some q:=fun q hq he=>by
  have h1:=(hoT.base_le q hq).1
  have h2:=(HO2.out.base_le q he).2
  omega
 have HNE:=Lib.hid hne
 have hsz3:=Nat.le_trans hb2.size hb3.size
 have hbase:∀ q,ownB a2 cap2=some q→w1.heap.size≤q:=fun q hq=>(HO2.out.base_le q hq).1
 have HBS:=Lib.hid hbase
 have HX3:=Lib.hid hx3
 have HD3:=Lib.hid hd3
 clear hd2 d0 d1 d2 d3 d4 d5 d6 dl hs2 HT hoT hne HO2 hb3 hb2 hx2 hx1 hbase hx3 hd3 hkB
 go_wp2
 go_loopw [11,37] (fun s11 s37 wr=>∃ j:Nat,j≤T.length∧s37=.int .i64 j∧Hid (OwnRow wr w1.heap.size 125 7 a2 l.length cap2 (flat (marked l d number T j)))∧Hid (w3.grownBy wr (ownB a2 cap2))) (fun _ s37 _=>T.length - (intOf s37).toNat)
 case atStart=>exact ⟨0,Nat.zero_le _,rfl,Lib.hid (by rw [marked_zero];exact HO3.out),Lib.hid (grownBy_refl _ _)⟩
 case round=>
  obtain ⟨j,hj,rfl,HO,HGR⟩:=hrel
  by_cases hlt:j < T.length
  ·obtain ⟨hil,htk⟩:=HMEM.out j hlt
   obtain ⟨hms,hmg⟩:=marked_step l d number T HND.out j hlt hil
   have hoTr:=HOT.out.of_block (w':=wr) (fun q hq _ hql=>HGR.out.block q hql (fun e=>HNE.out q hq e.symm))
   obtain ⟨gT,offT,haT,_,_,hcT⟩:=hoTr.cell (by rw [idxV_length];omega)
   have t0:=hcT j _ (idxV_get T j hlt)
   have hcapT:j < capT:=by have:=HOT.out.le;omega
   have hgl:=HG.out l[T[j]] (List.getElem_mem hil)
   rw [isTaken_at l d T[j] hil] at htk
   have hsee:l[T[j]].sees d.Seen d.By=true:=by
    cases h:l[T[j]].sees d.Seen d.By
    ·rw [h] at htk;cases htk
    ·rfl
   have hL:T[j] < (marked l d number T j).length:=by rw [marked_length];exact hil
   have hLe:(marked l d number T j)[T[j]]=l[T[j]]:=by
    rw [List.getElem?_eq_getElem hL] at hmg;exact Option.some.inj hmg
   have hor:=gone_or l[T[j]].Gone d.By HW.out (sees_took hsee) hgl
   obtain ⟨b,off,ha2,hc⟩:=(OwnRow.slCh (l:=marked l d number T j) (by rw [marked_length];exact HO.out)).nth hL
   rw [hLe] at hc
   have HMS:=Lib.hid hms
   have HLL:=Lib.hid (marked_length l d number T j)
   have HLE:=Lib.hid hLe
   have HL:=Lib.hid hL
   subst ha2
   subst haT
   have hcap0:cap2≠0:=by have:=HO.out.le;omega
   have hob:ownB (some ⟨b,off,none⟩) cap2=some b:=by simp [ownB,hcap0]
   have hbw:w1.heap.size≤b:=HBS.out b hob
   obtain ⟨_,_,d1,_,_,_,_,_⟩:=HD3.out.of_block (HGR.out.size) (HGR.out.block w.heap.size HD3.out.lt (by rw [hob];intro e;cases e;omega))
   have HOB:=Lib.hid hob
   generalize hLm:marked l d number T j=L at *
   generalize hi:T[j]=i at *
   generalize hx:l[i]=x at *
   have HOR:=Lib.hid hor
   clear hms hmg hoTr hcT hgl htk hsee hLe hor hLm hob hi
   obtain ⟨q0,q1,q2,q3,q4,q5,q6⟩:=hc
   have q5':=q5
   clear q0 q1 q2 q3 q4 q5
   have HO':=Lib.hid HO.out.drew
   have HGR':=Lib.hid (grownBy_trans HGR.out (show wr.grownBy wr.drew (ownB (some ⟨b,off,none⟩) cap2) from ⟨rfl,rfl,rfl,Nat.le_refl _,fun _ _ _=>rfl⟩))
   have hmark:mark d.By number x=⟨x.C,x.By,x.No,x.K,x.In,if number≠1073741824∧(x.Out=0∨number < x.Out) then number else x.Out,x.Gone+bitOf d.By⟩:=rfl
   have HMARK:=Lib.hid hmark;clear hmark
   have hi200:i < 200:=by omega
   have hil' : (i:Int) < l.length:=by omega
   have hic:(i:Int) < cap2:=by have:=HO.out.le;omega
   clear HO HGR
   rcases isWriter_cases HW.out with hb | hb | hb | hb
   all_goals
    have HOR2:=Lib.hid (show bits .or .i64 x.Gone (bitOf d.By)=x.Gone+bitOf d.By from HOR.out)
    rw [hb] at d1
    have HBY:=Lib.hid hb
    have HBO:=Lib.hid (show bitOf d.By=_ by rw [hb])
    clear hb HOR
    go_upto_region 12 with fail
    go_still_tail 11,(by kernel_rfl)
    change wpList _ _ _ _ _ wr.drew
    generalize wr.drew=wd at *
    refine wpList_store_own1 (cap:=cap2) (n:=l.length) (base:=w1.heap.size) rfl 3 (.tmp 51) (.tmp 49) rfl HO'.out rfl (i * 7+6) (.int .i64 (x.Gone+bitOf d.By)) _ rfl (by omega) (by rw [← HOR2.out,HBO.out];rfl) rfl size_int (by rw [flat_length,HLL.out];omega) rfl ?_
    intro w4 ho4 hg4
    have hLE:=HLE.out
    have HX1:=Lib.hid (flat_set_cell L i 6 hL (by omega) (.int .i64 (x.Gone+bitOf d.By)) ⟨x.C,x.By,x.No,x.K,x.In,x.Out,x.Gone+bitOf d.By⟩ (by rw [hLE];rfl))
    rw [HX1.out] at ho4
    have HO4:=Lib.hid ho4
    have HGR4:=Lib.hid (grownBy_trans HGR'.out (show wd.grownBy w4 (ownB (some ⟨b,off,none⟩) cap2) by rw [HOB.out];exact hg4))
    have hL4:i < (L.set i ⟨x.C,x.By,x.No,x.K,x.In,x.Out,x.Gone+bitOf d.By⟩).length:=by rw [List.length_set];exact hL
    obtain ⟨b4,off4,he4,hc4⟩:=(OwnRow.slCh (l:=L.set i ⟨x.C,x.By,x.No,x.K,x.In,x.Out,x.Gone+bitOf d.By⟩) (by rw [List.length_set,HLL.out];exact HO4.out)).nth hL4
    cases he4
    rw [List.getElem_set_self] at hc4
    obtain ⟨_,_,_,_,_,p5,_⟩:=hc4
    simp only at p5
    clear ho4 hg4 hLE q5' q6 HO' HGR' d1 t0 HOR2 HBY HBO HX1
    cases h1:(number !=1073741824)
    ·have HM2:=Lib.hid (show mark d.By number x=⟨x.C,x.By,x.No,x.K,x.In,x.Out,x.Gone+bitOf d.By⟩ by
      rw [HMARK.out,if_neg];intro h;simp only [bne_eq_false_iff_eq] at h1;exact h.1 h1)
     have HF:=Lib.hid (show OwnRow w4 w1.heap.size 125 7 (some ⟨b,off,none⟩) l.length cap2 (flat (marked l d number T (j+1))) by rw [HMS.out,HM2.out];exact HO4.out)
     clear HM2 HMARK HMS HO4
     go_wp2
     exact ⟨⟨j+1,by omega,by go_num,HF,HGR4⟩,by simp [intOf];omega⟩
    ·cases h2:(x.Out==0)
     ·by_cases h3:number < x.Out
      ·have HM2:=Lib.hid (show mark d.By number x=⟨x.C,x.By,x.No,x.K,x.In,number,x.Gone+bitOf d.By⟩ by
        rw [HMARK.out,if_pos];exact ⟨by simpa using h1,.inr h3⟩)
       have HX2:=Lib.hid (flat_set_cell (L.set i ⟨x.C,x.By,x.No,x.K,x.In,x.Out,x.Gone+bitOf d.By⟩) i 5 hL4 (by omega) (.int .i64 number) ⟨x.C,x.By,x.No,x.K,x.In,number,x.Gone+bitOf d.By⟩ (by rw [List.getElem_set_self];rfl))
       go_wp2_with (refine wpList_store_own1 (cap:=cap2) (n:=l.length) (base:=w1.heap.size) rfl 3 (.tmp 75) (.tmp 73) rfl HO4.out rfl (i * 7+5) (.int .i64 number) _ rfl (by omega) rfl rfl size_int (by rw [flat_length,List.length_set,HLL.out];omega) rfl ?_)
       intro w5 ho5 hg5
       rw [HX2.out,List.set_set] at ho5
       have HF:=Lib.hid (show OwnRow w5 w1.heap.size 125 7 (some ⟨b,off,none⟩) l.length cap2 (flat (marked l d number T (j+1))) by rw [HMS.out,HM2.out];exact ho5)
       have HG5:=Lib.hid (grownBy_trans HGR4.out (show w4.grownBy w5 (ownB (some ⟨b,off,none⟩) cap2) by rw [HOB.out];exact hg5))
       clear HM2 HMARK HMS HO4 ho5 hg5 HX2
       go_wp2
       exact ⟨⟨j+1,by omega,by go_num,HF,HG5⟩,by simp [intOf];omega⟩
      ·have HM2:=Lib.hid (show mark d.By number x=⟨x.C,x.By,x.No,x.K,x.In,x.Out,x.Gone+bitOf d.By⟩ by
        rw [HMARK.out,if_neg];intro h;rcases h.2 with h | h
        ·simp [h] at h2
        ·exact h3 h)
       have HF:=Lib.hid (show OwnRow w4 w1.heap.size 125 7 (some ⟨b,off,none⟩) l.length cap2 (flat (marked l d number T (j+1))) by rw [HMS.out,HM2.out];exact HO4.out)
       have h3' : decide (number < x.Out)=false:=by simpa using h3
       clear HM2 HMARK HMS HO4
       go_wp2
       exact ⟨⟨j+1,by omega,by go_num,HF,HGR4⟩,by simp [intOf];omega⟩
     ·have HM2:=Lib.hid (show mark d.By number x=⟨x.C,x.By,x.No,x.K,x.In,number,x.Gone+bitOf d.By⟩ by
       rw [HMARK.out,if_pos];exact ⟨by simpa using h1,.inl (by simpa using h2)⟩)
      have HX2:=Lib.hid (flat_set_cell (L.set i ⟨x.C,x.By,x.No,x.K,x.In,x.Out,x.Gone+bitOf d.By⟩) i 5 hL4 (by omega) (.int .i64 number) ⟨x.C,x.By,x.No,x.K,x.In,number,x.Gone+bitOf d.By⟩ (by rw [List.getElem_set_self];rfl))
      go_wp2_with (refine wpList_store_own1 (cap:=cap2) (n:=l.length) (base:=w1.heap.size) rfl 3 (.tmp 75) (.tmp 73) rfl HO4.out rfl (i * 7+5) (.int .i64 number) _ rfl (by omega) rfl rfl size_int (by rw [flat_length,List.length_set,HLL.out];omega) rfl ?_)
      intro w5 ho5 hg5
      rw [HX2.out,List.set_set] at ho5
      have HF:=Lib.hid (show OwnRow w5 w1.heap.size 125 7 (some ⟨b,off,none⟩) l.length cap2 (flat (marked l d number T (j+1))) by rw [HMS.out,HM2.out];exact ho5)
      have HG5:=Lib.hid (grownBy_trans HGR4.out (show w4.grownBy w5 (ownB (some ⟨b,off,none⟩) cap2) by rw [HOB.out];exact hg5))
      clear HM2 HMARK HMS HO4 ho5 hg5 HX2
      go_wp2
      exact ⟨⟨j+1,by omega,by go_num,HF,HG5⟩,by simp [intOf];omega⟩
  ·obtain rfl:j=T.length:=by omega
   have HE:=Lib.hid (HX3.out.trans (below_grownBy HGR.out (Nat.le_of_lt (Nat.lt_of_lt_of_le hlt1 hsz3)) (fun k hk=>by have:=HBS.out k hk;omega)))
   have HF:=Lib.hid (show OwnRow wr w1.heap.size 125 7 a2 l.length cap2 (flat (takeGo d.Seen d.By d.At (d.At+d.Many) number l 0)) by rw [← HALL.out];exact HO.out)
   clear HO HGR
   go_wp2
   go_ret2
   refine ⟨a2,cap2,?_,?_,HE.out⟩
   ·rw [HR.out];show Ending.returned (.tuple #[.slice a2 l.length cap2,_])=_;rw [HRL.out];rfl
   ·rw [HR.out];show OwnRow wr w.heap.size 125 7 a2 (takeGo d.Seen d.By d.At (d.At+d.Many) number l 0).length cap2 _;rw [HRL.out];exact HF.out.mono (by omega)
end Go.Proofs.YtneoeokfffnonaaGreatDoor
namespace Go.Proofs.YtneoeokfffnonaaGreatDoor
open Go.RowKit
def DAt (w:World) (b o:Nat) (d:Dd):Prop:=
 w.cell? ⟨b,o,none⟩=some (.int .i64 d.Kind)∧w.cell? ⟨b,o+1,none⟩=some (.int .i64 d.By)∧w.cell? ⟨b,o+2,none⟩=some (.int .i64 d.No)∧
 w.cell? ⟨b,o+3,none⟩=some (.int .i64 d.Seen)∧w.cell? ⟨b,o+4,none⟩=some (.int .i64 d.At)∧w.cell? ⟨b,o+5,none⟩=some (.int .i64 d.Many)∧
 w.cell? ⟨b,o+6,none⟩=some (.string d.Text)
def SlDd (w:World) (a:Option Addr) (cap:Nat) (l:List Dd):Prop:=
 l.length≤cap∧cap≤maxLen∧∀ i (h:i < l.length),∃ b off,a=some ⟨b,off,none⟩∧DAt w b (off+i * 7) l[i]
theorem DAt.lt {w:World} {b o:Nat} {c:Dd} (h:DAt w b o c):b < w.heap.size:=World.block_lt_of_cell? _ _ h.1
theorem DAt.of_block {w w' : World} {b o:Nat} {c:Dd} (h:DAt w b o c) (hb:w'.heap[b]? = w.heap[b]?):DAt w' b o c:=by
 have k:∀ o,w'.cell? ⟨b,o,none⟩=w.cell? ⟨b,o,none⟩:=fun o=>World.cell?_of_block (w:=w) hb
 unfold DAt at *
 simp only [k];exact h
theorem DAt.below {w w' : World} {b o:Nat} {c:Dd} (h:DAt w b o c) {B:Nat} (hb:Below B w w') (hB:b < B):DAt w' b o c:=h.of_block (hb.block b hB)
theorem SlDd.nth {w:World} {a:Option Addr} {cap:Nat} {l:List Dd} (h:SlDd w a cap l) {k:Nat} (hk:k < l.length):∃ b off,a=some ⟨b,off,none⟩∧DAt w b (off+k * 7) l[k]:=h.2.2 k hk
theorem SlDd.below {w w' : World} {a:Option Addr} {cap:Nat} {l:List Dd} (h:SlDd w a cap l) (hb:Below w.heap.size w w'):SlDd w' a cap l:=by
 refine ⟨h.1,h.2.1,fun i hi=>?_⟩
 obtain ⟨b,off,ha,hc⟩:=h.2.2 i hi
 exact ⟨b,off,ha,hc.below hb hc.lt⟩
theorem SlDd.of_block {w w' : World} {a:Option Addr} {cap:Nat} {l:List Dd} (h:SlDd w a cap l) (hb:∀ ad,a=some ad→ad.block < w.heap.size→w'.heap[ad.block]? = w.heap[ad.block]?):SlDd w' a cap l:=by
 refine ⟨h.1,h.2.1,fun i hi=>?_⟩
 obtain ⟨b,off,ha,hc⟩:=h.2.2 i hi
 exact ⟨b,off,ha,hc.of_block (hb _ ha hc.lt)⟩
theorem SlDd.nil (w:World):SlDd w none 0 []:=⟨by simp,by simp,fun i h=>by simp at h⟩
theorem SlDd.take {w:World} {a:Option Addr} {cap:Nat} {l:List Dd} (h:SlDd w a cap l) (k:Nat):SlDd w a cap (l.take k):=by
 refine ⟨by have:=h.1;simp;omega,h.2.1,fun i hi=>?_⟩
 have hi' : i < l.length:=by simp at hi;omega
 obtain ⟨b,off,ha,hc⟩:=h.2.2 i hi'
 exact ⟨b,off,ha,by simpa using hc⟩
theorem gone_add_ok (g b:Int) (hb:isWriter b=true) (h:took g b=false) (hg:i64ok g):i64ok (g+bitOf b):=by
 unfold i64ok at *
 rcases isWriter_cases hb with rfl | rfl | rfl | rfl
 ·rw [took_0] at h;simp [bitOf] at *;omega
 ·rw [took_1] at h;simp [bitOf] at *;omega
 ·rw [took_2] at h;simp [bitOf] at *;omega
 ·rw [took_3] at h;simp [bitOf] at *;omega
theorem doF_gone (l:List Ch) (d:Dd) (number:Int) (h:∀ c∈l,i64ok c.Gone):∀ c∈(doF l d number).1,i64ok c.Gone:=by
 intro c hc
 rcases doF_cases l d number with ⟨h1,e⟩ | ⟨_,hn,e⟩ | ⟨h1,hn,hk,e⟩ | ⟨h1,hn,hk2,e⟩
 ·rw [e] at hc;simp at hc
 ·rw [e] at hc;simp at hc
 ·rw [e] at hc
  simp only [List.mem_append] at hc
  rcases hc with (hc | hc) | hc
  ·exact h c (List.mem_of_mem_take hc)
  ·rw [(newOf_mem hc).2.2.2.2.1];unfold i64ok;omega
  ·exact h c (List.mem_of_mem_drop hc)
 ·rw [e] at hc
  have key:∀ (l:List Ch) (k:Int),(∀ c∈l,i64ok c.Gone)→∀ x∈takeGo d.Seen d.By d.At (d.At+d.Many) number l k,i64ok x.Gone:=by
   intro l
   induction l with
   | nil=>intro k _ x hx;simp [takeGo] at hx
   | cons c l ih=>
    intro k h x hx
    rw [takeGo] at hx
    have hc:=h c (by simp)
    have hl:=ih
    cases hs:c.sees d.Seen d.By
    ·rw [hs] at hx
     simp only [Bool.false_eq_true,if_false,List.mem_cons] at hx
     rcases hx with rfl | hx
     ·exact hc
     ·exact ih k (fun y hy=>h y (by simp [hy])) x hx
    ·rw [hs] at hx
     simp only [if_true,List.mem_cons] at hx
     rcases hx with rfl | hx
     ·split
      ·exact gone_add_ok _ _ (deedFault_zero (mayDo_zero h1).1).1 (sees_took hs) hc
      ·exact hc
     ·exact ih (k+1) (fun y hy=>h y (by simp [hy])) x hx
  exact key l 0 h c hc
theorem doF_len (l:List Ch) (d:Dd) (number:Int):(doF l d number).1.length≤200:=by
 rcases doF_cases l d number with ⟨h1,e⟩ | ⟨_,hn,e⟩ | ⟨h1,hn,hk,e⟩ | ⟨h1,hn,hk2,e⟩
 ·rw [e];simp
 ·rw [e];simp
 ·rw [e]
  have:=(mayDo_zero h1).2.2
  have:=putAt_le l d
  simp only [List.length_append,List.length_take,List.length_drop,newOf_length];omega
 ·rw [e]
  have:=(mayDo_zero h1).2.2
  simp only [takeGo_length];omega
theorem OwnRow.nilcap {w:World} {base:Nat} {e:TypeId} {size:Nat} {a:Option Addr} {n cap:Nat} {xs:List Value} (h:OwnRow w base e size a n cap xs):a=none→cap=0:=by
 intro ha
 rcases h.own with h0 | ⟨g,off,cur,he,_⟩
 ·exact h0
 ·rw [ha] at he;cases he
theorem Do_c (a:Option Addr) (cap:Nat) (l:List Ch) (d:Dd) (number:Int) (w:World) (hs:SlCh w a cap l) (hnil:a=none→cap=0) (hsz:l.length * 56≤140737488355328) (ht:d.Text.size≤maxLen) (hm:i64ok d.Many) (hG:∀ c∈l,i64ok c.Gone) :
 Calls Tryz.prog 138 #[.slice a l.length cap,.agg #[.int .i64 d.Kind,.int .i64 d.By,.int .i64 d.No,.int .i64 d.Seen,.int .i64 d.At,.int .i64 d.Many,.string d.Text],.int .i64 number] w fun e w'=>∃ a' cap',e=.returned (.tuple #[.slice a' (doF l d number).1.length cap',.int .i64 (doF l d number).2])∧
  OwnRow w' w.heap.size 125 7 a' (doF l d number).1.length cap' (flat (doF l d number).1)∧Below w.heap.size w w':=by
 by_cases h:mayDo l d=0∧1≤number
 ·obtain ⟨h1,h2⟩:=h
  rcases (deedFault_zero (mayDo_zero h1).1).2.2.2.2.2.2.2 with ⟨hk,_⟩ | ⟨hk,_⟩
  ·exact Do_put a cap l d number w hs hnil h1 h2 hk
  ·exact Do_take a cap l d number w hs hnil hG h1 h2 hk
 ·refine (Do_no a cap l d number w hs hsz ht hm (by omega)).mono ?_
  rintro e w' ⟨rfl,hb⟩
  have e1:(doF l d number).1=[]:=by
   rcases doF_cases l d number with ⟨h1,e⟩ | ⟨_,hn,e⟩ | ⟨h1,hn,hk,e⟩ | ⟨h1,hn,hk2,e⟩
   ·rw [e]
   ·rw [e]
   ·omega
   ·omega
  refine ⟨none,0,by rw [e1];rfl,by rw [e1];exact OwnRow.nil _ _ _ _ _,hb⟩
def Mid (ds:List Dd) (k:Nat) (L:List Ch):Prop:=allFrom [] 0 (ds.take k)=(L,0,0)∧L.length≤200∧∀ c∈L,i64ok c.Gone
theorem Mid.zero (ds:List Dd):Mid ds 0 []:=⟨rfl,by simp,fun c hc=>by simp at hc⟩
theorem Mid.step {ds:List Dd} {k:Nat} {L:List Ch} (h:Mid ds k L) (hk:k < ds.length) (h0:(doF L ds[k] ((k:Int)+1)).2=0):Mid ds (k+1) (doF L ds[k] ((k:Int)+1)).1:=by
 refine ⟨?_,doF_len _ _ _,doF_gone _ _ _ h.2.2⟩
 rw [List.take_succ_eq_append_getElem hk,allFrom_append,h.1]
 have hl:((ds.take k).length:Int)=k:=by simp;omega
 simp only [if_true,hl,Int.zero_add]
 rw [allFrom_cons,if_pos h0];rfl
theorem Mid.fail {ds:List Dd} {k:Nat} {L:List Ch} (h:Mid ds k L) (hk:k < ds.length) (h0:(doF L ds[k] ((k:Int)+1)).2≠0):allF ds=([],(doF L ds[k] ((k:Int)+1)).2,(k:Int)):=by
 have e:ds=ds.take k++ds[k] :: ds.drop (k+1):=by rw [← List.drop_eq_getElem_cons hk,List.take_append_drop]
 have hl:((ds.take k).length:Int)=k:=by simp;omega
 unfold allF
 conv=>lhs;rw [e]
 rw [allFrom_append,h.1]
 simp only [if_true,hl,Int.zero_add]
 rw [allFrom_cons,if_neg h0]
theorem Mid.done {ds:List Dd} {L:List Ch} (h:Mid ds ds.length L):allF ds=(L,0,0):=by
 have:=h.1;rw [List.take_length] at this;exact this
theorem Text_c (a:Option Addr) (cap:Nat) (l:List Ch) (w:World) (hs:SlCh w a cap l) (hsz:l.length≤140737488355328) :
 Calls Tryz.prog 87 #[.slice a l.length cap] w fun e w'=>e=.returned (.string (strOfNums (textF l)))∧Below w.heap.size w w':=by
 go_enter Tryz.func87,Tryz.ntmps87
 go_wp2_with fail
 refine (View_c a cap l _ _ _ hs hsz).mono ?_
 rintro e w1 ⟨a1,cap1,rfl,ho1,hb1⟩
 have hcv:=run_convert_row (P:=Tryz.prog) ho1 40 Tryz.underlying40 Tryz.underlying5 9 Tryz.underlying9
 go_wp2
 go_ret
 exact ⟨rfl,hb1⟩
end Go.Proofs.YtneoeokfffnonaaGreatDoor
namespace Go.Proofs.YtneoeokfffnonaaGreatDoor
open Go.RowKit
def flatD (l:List Dd):List Value:=l.flatMap Dd.cells
@[simp] theorem Dd.cells_length (c:Dd):c.cells.length=7:=rfl
theorem flatD_length (l:List Dd):(flatD l).length=l.length * 7:=by
 induction l with
 | nil=>rfl
 | cons c l ih=>simp only [flatD,List.flatMap_cons,List.length_append,Dd.cells_length,List.length_cons] at *;omega
theorem flatD_append (l m:List Dd):flatD (l++m)=flatD l++flatD m:=by simp [flatD]
theorem flatD_cons (c:Dd) (l:List Dd):flatD (c :: l)=c.cells++flatD l:=rfl
theorem flatD_get (l:List Dd):∀ (i:Nat) (h:i < l.length) (j:Nat),j < 7→(flatD l)[i * 7+j]? = l[i].cells[j]?:=by
 induction l with
 | nil=>intro i h;simp at h
 | cons c l ih=>
  intro i h j hj
  rw [flatD_cons]
  cases i with
  | zero=>rw [List.getElem?_append_left (by simp;omega)];simp
  | succ i=>
   rw [List.getElem?_append_right (by simp;omega)]
   have:=ih i (by simpa using h) j hj
   simp only [Dd.cells_length,List.getElem_cons_succ]
   rw [← this];congr 1;omega
theorem Dd.cells_one (c:Dd):∀ u∈c.cells,u.oneCell'=true:=by
 intro u hu;simp [Dd.cells] at hu;rcases hu with h | h | h | h | h | h | h <;> subst h <;> rfl
theorem flatD_one (l:List Dd):∀ u∈flatD l,u.oneCell'=true:=by
 intro u hu;simp only [flatD,List.mem_flatMap] at hu;obtain ⟨c,_,h⟩:=hu;exact c.cells_one u h
theorem OwnRow.slDd {w:World} {base:Nat} {e:TypeId} {a:Option Addr} {cap:Nat} {l:List Dd} (h:OwnRow w base e 7 a l.length cap (flatD l)):SlDd w a cap l:=by
 refine ⟨h.le,h.max,fun i hi=>?_⟩
 obtain ⟨g,off,ha,_,_,hc⟩:=h.cell (by rw [flatD_length];omega)
 refine ⟨g,off,ha,?_⟩
 have k:∀ j u,l[i].cells[j]? = some u→j < 7→w.cell? ⟨g,off+i * 7+j,none⟩=some u:=fun j u hu hj=>by
  rw [Nat.add_assoc];exact hc _ _ ((flatD_get l i hi j hj).trans hu)
 exact ⟨k 0 _ rfl (by omega),k 1 _ rfl (by omega),k 2 _ rfl (by omega),k 3 _ rfl (by omega),k 4 _ rfl (by omega),k 5 _ rfl (by omega),k 6 _ rfl (by omega)⟩
end Go.Proofs.YtneoeokfffnonaaGreatDoor
namespace Go.Proofs.YtneoeokfffnonaaGreatDoor
open Go.RowKit
end Go.Proofs.YtneoeokfffnonaaGreatDoor
namespace Go.Proofs.YtneoeokfffnonaaGreatDoor
open Go.RowKit
theorem DdAt.q0 {w:World} {b:Nat} {d:Dd} (h:DdAt w b d) (v:Int):DdAt (w.setCell ⟨b,0,none⟩ (.int .i64 v)) b { d with Kind:=v }:=by
 obtain ⟨lt,h0,h1,h2,h3,h4,h5,h6⟩:=h
 refine ⟨by simpa using lt,?_,?_,?_,?_,?_,?_,?_⟩
 ·exact World.cell?_setCell_same _ _ _ h0
 ·exact (World.cell?_setCell_other _ _ _ _ (by simp)).trans h1
 ·exact (World.cell?_setCell_other _ _ _ _ (by simp)).trans h2
 ·exact (World.cell?_setCell_other _ _ _ _ (by simp)).trans h3
 ·exact (World.cell?_setCell_other _ _ _ _ (by simp)).trans h4
 ·exact (World.cell?_setCell_other _ _ _ _ (by simp)).trans h5
 ·exact (World.cell?_setCell_other _ _ _ _ (by simp)).trans h6
theorem DdAt.q1 {w:World} {b:Nat} {d:Dd} (h:DdAt w b d) (v:Int):DdAt (w.setCell ⟨b,1,none⟩ (.int .i64 v)) b { d with By:=v }:=by
 obtain ⟨lt,h0,h1,h2,h3,h4,h5,h6⟩:=h
 refine ⟨by simpa using lt,?_,?_,?_,?_,?_,?_,?_⟩
 ·exact (World.cell?_setCell_other _ _ _ _ (by simp)).trans h0
 ·exact World.cell?_setCell_same _ _ _ h1
 ·exact (World.cell?_setCell_other _ _ _ _ (by simp)).trans h2
 ·exact (World.cell?_setCell_other _ _ _ _ (by simp)).trans h3
 ·exact (World.cell?_setCell_other _ _ _ _ (by simp)).trans h4
 ·exact (World.cell?_setCell_other _ _ _ _ (by simp)).trans h5
 ·exact (World.cell?_setCell_other _ _ _ _ (by simp)).trans h6
theorem DdAt.q2 {w:World} {b:Nat} {d:Dd} (h:DdAt w b d) (v:Int):DdAt (w.setCell ⟨b,2,none⟩ (.int .i64 v)) b { d with No:=v }:=by
 obtain ⟨lt,h0,h1,h2,h3,h4,h5,h6⟩:=h
 refine ⟨by simpa using lt,?_,?_,?_,?_,?_,?_,?_⟩
 ·exact (World.cell?_setCell_other _ _ _ _ (by simp)).trans h0
 ·exact (World.cell?_setCell_other _ _ _ _ (by simp)).trans h1
 ·exact World.cell?_setCell_same _ _ _ h2
 ·exact (World.cell?_setCell_other _ _ _ _ (by simp)).trans h3
 ·exact (World.cell?_setCell_other _ _ _ _ (by simp)).trans h4
 ·exact (World.cell?_setCell_other _ _ _ _ (by simp)).trans h5
 ·exact (World.cell?_setCell_other _ _ _ _ (by simp)).trans h6
theorem DdAt.q3 {w:World} {b:Nat} {d:Dd} (h:DdAt w b d) (v:Int):DdAt (w.setCell ⟨b,3,none⟩ (.int .i64 v)) b { d with Seen:=v }:=by
 obtain ⟨lt,h0,h1,h2,h3,h4,h5,h6⟩:=h
 refine ⟨by simpa using lt,?_,?_,?_,?_,?_,?_,?_⟩
 ·exact (World.cell?_setCell_other _ _ _ _ (by simp)).trans h0
 ·exact (World.cell?_setCell_other _ _ _ _ (by simp)).trans h1
 ·exact (World.cell?_setCell_other _ _ _ _ (by simp)).trans h2
 ·exact World.cell?_setCell_same _ _ _ h3
 ·exact (World.cell?_setCell_other _ _ _ _ (by simp)).trans h4
 ·exact (World.cell?_setCell_other _ _ _ _ (by simp)).trans h5
 ·exact (World.cell?_setCell_other _ _ _ _ (by simp)).trans h6
theorem DdAt.q4 {w:World} {b:Nat} {d:Dd} (h:DdAt w b d) (v:Int):DdAt (w.setCell ⟨b,4,none⟩ (.int .i64 v)) b { d with At:=v }:=by
 obtain ⟨lt,h0,h1,h2,h3,h4,h5,h6⟩:=h
 refine ⟨by simpa using lt,?_,?_,?_,?_,?_,?_,?_⟩
 ·exact (World.cell?_setCell_other _ _ _ _ (by simp)).trans h0
 ·exact (World.cell?_setCell_other _ _ _ _ (by simp)).trans h1
 ·exact (World.cell?_setCell_other _ _ _ _ (by simp)).trans h2
 ·exact (World.cell?_setCell_other _ _ _ _ (by simp)).trans h3
 ·exact World.cell?_setCell_same _ _ _ h4
 ·exact (World.cell?_setCell_other _ _ _ _ (by simp)).trans h5
 ·exact (World.cell?_setCell_other _ _ _ _ (by simp)).trans h6
theorem DdAt.q5 {w:World} {b:Nat} {d:Dd} (h:DdAt w b d) (v:Int):DdAt (w.setCell ⟨b,5,none⟩ (.int .i64 v)) b { d with Many:=v }:=by
 obtain ⟨lt,h0,h1,h2,h3,h4,h5,h6⟩:=h
 refine ⟨by simpa using lt,?_,?_,?_,?_,?_,?_,?_⟩
 ·exact (World.cell?_setCell_other _ _ _ _ (by simp)).trans h0
 ·exact (World.cell?_setCell_other _ _ _ _ (by simp)).trans h1
 ·exact (World.cell?_setCell_other _ _ _ _ (by simp)).trans h2
 ·exact (World.cell?_setCell_other _ _ _ _ (by simp)).trans h3
 ·exact (World.cell?_setCell_other _ _ _ _ (by simp)).trans h4
 ·exact World.cell?_setCell_same _ _ _ h5
 ·exact (World.cell?_setCell_other _ _ _ _ (by simp)).trans h6
theorem DdAt.q6 {w:World} {b:Nat} {d:Dd} (h:DdAt w b d) (v:ByteArray):DdAt (w.setCell ⟨b,6,none⟩ (.string v)) b { d with Text:=v }:=by
 obtain ⟨lt,h0,h1,h2,h3,h4,h5,h6⟩:=h
 refine ⟨by simpa using lt,?_,?_,?_,?_,?_,?_,?_⟩
 ·exact (World.cell?_setCell_other _ _ _ _ (by simp)).trans h0
 ·exact (World.cell?_setCell_other _ _ _ _ (by simp)).trans h1
 ·exact (World.cell?_setCell_other _ _ _ _ (by simp)).trans h2
 ·exact (World.cell?_setCell_other _ _ _ _ (by simp)).trans h3
 ·exact (World.cell?_setCell_other _ _ _ _ (by simp)).trans h4
 ·exact (World.cell?_setCell_other _ _ _ _ (by simp)).trans h5
 ·exact World.cell?_setCell_same _ _ _ h6
def putDd (w:World) (b:Nat) (e:Dd):World:=((((((w.setCell ⟨b,0,none⟩ (.int .i64 e.Kind)).setCell ⟨b,1,none⟩ (.int .i64 e.By)).setCell ⟨b,2,none⟩ (.int .i64 e.No)).setCell ⟨b,3,none⟩ (.int .i64 e.Seen)).setCell ⟨b,4,none⟩ (.int .i64 e.At)).setCell ⟨b,5,none⟩ (.int .i64 e.Many)).setCell ⟨b,6,none⟩ (.string e.Text)
theorem DdAt.putAll {w:World} {b:Nat} {d:Dd} (h:DdAt w b d) (e:Dd):DdAt (putDd w b e) b e:=(((((((h.q0 e.Kind).q1 e.By).q2 e.No).q3 e.Seen).q4 e.At).q5 e.Many).q6 e.Text)
theorem putDd_below {B:Nat} {w0 w:World} {b:Nat} (e:Dd) (h:Below B w0 w) (hb:B≤b):Below B w0 (putDd w b e):=(((((((h.setCell (p:=⟨b,0,none⟩) hb _).setCell (p:=⟨b,1,none⟩) hb _).setCell (p:=⟨b,2,none⟩) hb _).setCell (p:=⟨b,3,none⟩) hb _).setCell (p:=⟨b,4,none⟩) hb _).setCell (p:=⟨b,5,none⟩) hb _).setCell (p:=⟨b,6,none⟩) hb _)
def zD:Dd:=⟨0,0,0,0,0,0,⟨#[]⟩⟩
theorem Moves.above {F:Nat→Prop} {w w1 w2:World} (h:Moves F w w1) (hb:Below w.heap.size w1 w2):Moves F w w2:=
 ⟨hb.os.trans h.os,hb.tape.trans h.tape,hb.output.trans h.output,Nat.le_trans h.size hb.size,fun k hk hf=>(hb.block k hk).trans (h.block k hk hf)⟩
theorem putDd_moves (w:World) (b:Nat) (e:Dd):Moves (fun k=>k=b) w (putDd w b e):=(((((((Moves.setCell (F:=fun k=>k=b) w ⟨b,0,none⟩ _ rfl).trans (Moves.setCell (F:=fun k=>k=b) _ ⟨b,1,none⟩ _ rfl) (fun _ _ k=>k)).trans (Moves.setCell (F:=fun k=>k=b) _ ⟨b,2,none⟩ _ rfl) (fun _ _ k=>k)).trans (Moves.setCell (F:=fun k=>k=b) _ ⟨b,3,none⟩ _ rfl) (fun _ _ k=>k)).trans (Moves.setCell (F:=fun k=>k=b) _ ⟨b,4,none⟩ _ rfl) (fun _ _ k=>k)).trans (Moves.setCell (F:=fun k=>k=b) _ ⟨b,5,none⟩ _ rfl) (fun _ _ k=>k)).trans (Moves.setCell (F:=fun k=>k=b) _ ⟨b,6,none⟩ _ rfl) (fun _ _ k=>k))
theorem doF_code (l:List Ch) (d:Dd):(doF l d 1073741824).2=mayDo l d:=by
 rcases doF_cases l d 1073741824 with ⟨h1,e⟩ | ⟨_,hn,e⟩ | ⟨h1,hn,hk,e⟩ | ⟨h1,hn,hk2,e⟩
 ·rw [e]
 ·omega
 ·rw [e,h1]
 ·rw [e,h1]
end Go.Proofs.YtneoeokfffnonaaGreatDoor
