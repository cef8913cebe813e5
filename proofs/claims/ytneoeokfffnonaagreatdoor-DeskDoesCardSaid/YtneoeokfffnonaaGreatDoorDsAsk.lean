/- What a desk is asked for: a word, and numbers. -/
import Derived.Test.YtneoeokfffnonaaGreatDoorDsOpen
import Derived.Test.YtneoeokfffnonaaGreatDoorDsThen
set_option linter.unusedVariables false
set_option linter.unusedSimpArgs false
namespace Go.Proofs.YtneoeokfffnonaaGreatDoor
open Go.RowKit Go
def s8:Obj:=.cells #[.string ⟨#[]⟩,.string ⟨#[106,111,105,110]⟩,.string ⟨#[]⟩,.string ⟨#[]⟩,.string ⟨#[115,101,110,100]⟩,.string ⟨#[104,101,97,114]⟩,.string ⟨#[99,108,101,97,114]⟩,.string ⟨#[108,101,97,118,101]⟩] 9
def stepsB:List ByteArray:=[⟨#[]⟩,⟨#[106,111,105,110]⟩,⟨#[]⟩,⟨#[]⟩,⟨#[115,101,110,100]⟩,⟨#[104,101,97,114]⟩,⟨#[99,108,101,97,114]⟩,⟨#[108,101,97,118,101]⟩]
theorem idx_c (w:World) (vs:Array Value) (ty:TypeId) (hvs:vs=(stepsB.map Value.string).toArray) (x:ByteArray):Calls Tryz.prog 50 #[.slice (some ⟨w.heap.size,0,none⟩) 8 8,.string x] (w.alloc (.cells vs ty)) fun e w'=>e=.returned (.int .i64 (Lib.idxOfS stepsB x))∧w'=w.alloc (.cells vs ty):=by
 have h:=Tryz.slices_Index_string w.heap.size 0 8 8 stepsB x (w.alloc (.cells vs ty)) (by decide) (by omega) (fun j hj=>by
  rw [World.cell?_alloc_new,hvs,Nat.zero_add]
  have hj8:j < 8:=hj
  rcases (show j=0∨j=1∨j=2∨j=3∨j=4∨j=5∨j=6∨j=7 by omega) with rfl | rfl | rfl | rfl | rfl | rfl | rfl | rfl <;> rfl)
 have e:stepsB.take 8=stepsB:=rfl
 rw [e] at h
 exact h
theorem ne_list {W:ByteArray} {l:List UInt8} (h:W≠⟨l.toArray⟩):(W.toList==l)=false:=by
 rw [beq_eq_false_iff_ne]
 intro e
 rw [ByteArray.toList_eq] at e
 exact h (ba_ext e)
theorem ba_lit {x:ByteArray} {l:Str} (h:x.data.toList=l):x=⟨l.toArray⟩:=ba_ext (by rw [h])
theorem idx_step (W:ByteArray):(∃ k,stepK W.data.toList=some k∧Lib.idxOfS stepsB W=k∧0 < k)∨(stepK W.data.toList=none∧Lib.idxOfS stepsB W≤0):=by
 by_cases h1:W.data.toList=joinB
 ·left
  have e:=ba_lit h1
  refine ⟨1,by unfold stepK;simp [h1,joinB,sendB,hearB,clearB,leaveB],by rw [e];exact of_decide_eq_true (by kernel_rfl),by omega⟩
 by_cases h4:W.data.toList=sendB
 ·left
  have e:=ba_lit h4
  refine ⟨4,by unfold stepK;simp [h4,joinB,sendB,hearB,clearB,leaveB],by rw [e];exact of_decide_eq_true (by kernel_rfl),by omega⟩
 by_cases h5:W.data.toList=hearB
 ·left
  have e:=ba_lit h5
  refine ⟨5,by unfold stepK;simp [h5,joinB,sendB,hearB,clearB,leaveB],by rw [e];exact of_decide_eq_true (by kernel_rfl),by omega⟩
 by_cases h6:W.data.toList=clearB
 ·left
  have e:=ba_lit h6
  refine ⟨6,by unfold stepK;simp [h6,joinB,sendB,hearB,clearB,leaveB],by rw [e];exact of_decide_eq_true (by kernel_rfl),by omega⟩
 by_cases h7:W.data.toList=leaveB
 ·left
  have e:=ba_lit h7
  refine ⟨7,by unfold stepK;simp [h7,joinB,sendB,hearB,clearB,leaveB],by rw [e];exact of_decide_eq_true (by kernel_rfl),by omega⟩
 right
 refine ⟨by unfold stepK;simp [h1,h4,h5,h6,h7],?_⟩
 have hn:∀ l:Str,W.data.toList≠l→(⟨l.toArray⟩:ByteArray)≠W:=fun l h e=>h (by rw [← e])
 have n1:=hn _ h1
 have n4:=hn _ h4
 have n5:=hn _ h5
 have n6:=hn _ h6
 have n7:=hn _ h7
 unfold joinB at n1;unfold sendB at n4;unfold hearB at n5;unfold clearB at n6;unfold leaveB at n7
 by_cases h0:(⟨#[]⟩:ByteArray)=W
 ·subst h0;exact of_decide_eq_true (by kernel_rfl)
 ·have e:Lib.idxOfS stepsB W=-1:=by
   unfold Lib.idxOfS stepsB
   simp only [Lib.idxFromS]
   simp [h0,n1,n4,n5,n6,n7]
  omega
section
variable {w:World} {base:Nat} {F:Nat→Prop} {g:Nat} {d:DkM} {t:Str}
set_option maxRecDepth 100000 in
set_option maxHeartbeats 1000000 in
theorem ask_text1 (h:DsAt w base F g d t) (ho:d.Ok) (hs:d.Sm 1000) (hl:t.length≤80000000) (hk:LibK w) (hB:lowB≤base) {b off cap:Nat} {v:Int} (hr:w.cell? ⟨b,off,none⟩=some (.int .i64 v)) :
 Calls Tryz.prog 27 #[.pointer (some ⟨g,0,none⟩),.string ⟨#[116,101,120,116]⟩,.slice (some ⟨b,off,none⟩) 1 cap] w fun e w'=>e=.returned (.bool true)∧DsP w base F g (tellK d (.text v)).1 (t++linesS (tellK d (.text v)).2) w':=by
 have hb0:=(Below.refl w.heap.size w).alloc (Nat.le_refl _) s8
 have hr0:=(hb0.cell (p:=⟨b,off,none⟩) (World.block_lt_of_cell? w _ hr)).trans hr
 have HC:=Lib.hid ((dtext_c (h.later hb0) ho v (by omega) (hk.later hb0)).mono (fun e w' hq=>(⟨hq.1,DsP.after hb0 hq.2⟩:(∃ u,e=.returned u)∧DsP w base F g d (t++linesS (tellK d (.text v)).2) w')))
 have HI:=Lib.hid (show Lib.idxOfS stepsB ⟨#[116,101,120,116]⟩=-1 from of_decide_eq_true (by kernel_rfl))
 clear h ho hs hl hk hB hr hb0
 go_enter Tryz.func27,Tryz.ntmps27
 go_wp2_with fail
 refine (idx_c w _ _ rfl _).mono ?_
 rintro e w1 ⟨rfl,rfl⟩
 rw [HI.out]
 generalize hw0:w.alloc _=w0
 have hw0' : w.alloc s8=w0:=hw0
 rw [hw0'] at hr0 HC
 clear hw0 hw0'
 go_wp2_with fail
 refine HC.out.mono ?_
 rintro e w2 ⟨⟨u,rfl⟩,hp⟩
 have HP:=Lib.hid hp
 clear hp HC
 go_wp2
 go_ret
 exact ⟨rfl,HP.out⟩
set_option maxRecDepth 100000 in
set_option maxHeartbeats 1000000 in
theorem ask_open (h:DsAt w base F g d t) (ho:d.Ok) (hs:d.Sm 1000) (hl:t.length≤80000000) (hk:LibK w) (hB:lowB≤base) {b off cap:Nat} {v:Int} (hr:w.cell? ⟨b,off,none⟩=some (.int .i64 v)) :
 Calls Tryz.prog 27 #[.pointer (some ⟨g,0,none⟩),.string ⟨#[111,112,101,110]⟩,.slice (some ⟨b,off,none⟩) 1 cap] w fun e w'=>e=.returned (.bool true)∧DsP w base F g (tellK d (.opn v)).1 (t++linesS (tellK d (.opn v)).2) w':=by
 have hb0:=(Below.refl w.heap.size w).alloc (Nat.le_refl _) s8
 have hr0:=(hb0.cell (p:=⟨b,off,none⟩) (World.block_lt_of_cell? w _ hr)).trans hr
 have HC:=Lib.hid ((dopen_c (h.later hb0) ho hs v hl (hk.later hb0) hB).mono (fun e w' hq=>(⟨hq.1,DsP.after hb0 hq.2⟩:(∃ u,e=.returned u)∧DsP w base F g d (t++linesS (tellK d (.opn v)).2) w')))
 have HI:=Lib.hid (show Lib.idxOfS stepsB ⟨#[111,112,101,110]⟩=-1 from of_decide_eq_true (by kernel_rfl))
 clear h ho hs hl hk hB hr hb0
 go_enter Tryz.func27,Tryz.ntmps27
 go_wp2_with fail
 refine (idx_c w _ _ rfl _).mono ?_
 rintro e w1 ⟨rfl,rfl⟩
 rw [HI.out]
 generalize hw0:w.alloc _=w0
 have hw0' : w.alloc s8=w0:=hw0
 rw [hw0'] at hr0 HC
 clear hw0 hw0'
 go_wp2_with fail
 refine HC.out.mono ?_
 rintro e w2 ⟨⟨u,rfl⟩,hp⟩
 have HP:=Lib.hid hp
 clear hp HC
 go_wp2
 go_ret
 exact ⟨rfl,HP.out⟩
set_option maxRecDepth 100000 in
set_option maxHeartbeats 1000000 in
theorem ask_then (h:DsAt w base F g d t) (ho:d.Ok) (hs:d.Sm 1000) (hl:t.length≤80000000) (hk:LibK w) (hB:lowB≤base) {b off cap:Nat} {v:Int} (hr:w.cell? ⟨b,off,none⟩=some (.int .i64 v)) :
 Calls Tryz.prog 27 #[.pointer (some ⟨g,0,none⟩),.string ⟨#[116,104,101,110]⟩,.slice (some ⟨b,off,none⟩) 1 cap] w fun e w'=>e=.returned (.bool true)∧DsP w base F g (tellK d (.thn v)).1 (t++linesS (tellK d (.thn v)).2) w':=by
 have hb0:=(Below.refl w.heap.size w).alloc (Nat.le_refl _) s8
 have hr0:=(hb0.cell (p:=⟨b,off,none⟩) (World.block_lt_of_cell? w _ hr)).trans hr
 have HC:=Lib.hid ((dthen_c (h.later hb0) ho v hl (hk.later hb0) hB).mono (fun e w' hq=>(⟨hq.1,DsP.after hb0 hq.2⟩:(∃ u,e=.returned u)∧DsP w base F g d (t++linesS (tellK d (.thn v)).2) w')))
 have HI:=Lib.hid (show Lib.idxOfS stepsB ⟨#[116,104,101,110]⟩=-1 from of_decide_eq_true (by kernel_rfl))
 clear h ho hs hl hk hB hr hb0
 go_enter Tryz.func27,Tryz.ntmps27
 go_wp2_with fail
 refine (idx_c w _ _ rfl _).mono ?_
 rintro e w1 ⟨rfl,rfl⟩
 rw [HI.out]
 generalize hw0:w.alloc _=w0
 have hw0' : w.alloc s8=w0:=hw0
 rw [hw0'] at hr0 HC
 clear hw0 hw0'
 go_wp2_with fail
 refine HC.out.mono ?_
 rintro e w2 ⟨⟨u,rfl⟩,hp⟩
 have HP:=Lib.hid hp
 clear hp HC
 go_wp2
 go_ret
 exact ⟨rfl,HP.out⟩
set_option maxRecDepth 100000 in
set_option maxHeartbeats 1000000 in
theorem ask_log (h:DsAt w base F g d t) (ho:d.Ok) (hs:d.Sm 1000) (hl:t.length≤80000000) (hk:LibK w) (hB:lowB≤base) {a:Option Addr} {cap:Nat} :
 Calls Tryz.prog 27 #[.pointer (some ⟨g,0,none⟩),.string ⟨#[108,111,103]⟩,.slice a 0 cap] w fun e w'=>e=.returned (.bool true)∧DsP w base F g (tellK d (.log)).1 (t++linesS (tellK d (.log)).2) w':=by
 have hb0:=(Below.refl w.heap.size w).alloc (Nat.le_refl _) s8
 have HC:=Lib.hid ((dlog_c (h.later hb0) ho hl (hk.later hb0) hB).mono (fun e w' hq=>(⟨hq.1,DsP.after hb0 hq.2⟩:(∃ u,e=.returned u)∧DsP w base F g d (t++linesS (tellK d .log).2) w')))
 have HI:=Lib.hid (show Lib.idxOfS stepsB ⟨#[108,111,103]⟩=-1 from of_decide_eq_true (by kernel_rfl))
 clear h ho hs hl hk hB hb0
 go_enter Tryz.func27,Tryz.ntmps27
 go_wp2_with fail
 refine (idx_c w _ _ rfl _).mono ?_
 rintro e w1 ⟨rfl,rfl⟩
 rw [HI.out]
 generalize hw0:w.alloc _=w0
 have hw0' : w.alloc s8=w0:=hw0
 rw [hw0'] at HC
 clear hw0 hw0'
 go_wp2_with fail
 refine HC.out.mono ?_
 rintro e w2 ⟨⟨u,rfl⟩,hp⟩
 have HP:=Lib.hid hp
 clear hp HC
 go_wp2
 go_ret
 exact ⟨rfl,HP.out⟩
set_option maxRecDepth 100000 in
set_option maxHeartbeats 1000000 in
theorem ask_all (h:DsAt w base F g d t) (ho:d.Ok) (hs:d.Sm 1000) (hl:t.length≤80000000) (hk:LibK w) (hB:lowB≤base) {a:Option Addr} {cap:Nat} :
 Calls Tryz.prog 27 #[.pointer (some ⟨g,0,none⟩),.string ⟨#[116,101,120,116]⟩,.slice a 0 cap] w fun e w'=>e=.returned (.bool true)∧DsP w base F g (tellK d (.all)).1 (t++linesS (tellK d (.all)).2) w':=by
 have hb0:=(Below.refl w.heap.size w).alloc (Nat.le_refl _) s8
 obtain ⟨gd,FD,gw,hc,hd,-⟩:=(h.later hb0).deskZ
 obtain ⟨gl,FL,_,c0,hlog,_⟩:=hd.logZ
 have HT:=Lib.hid (LText_c hlog ho.lm)
 have HH:=Lib.hid (DsP.start h hb0)
 have HL:=Lib.hid hl
 have HV:=Lib.hid (show d.lm.view.length≤1000 from by
  unfold LogM.view textF
  rw [viewN_length]
  have h1:(allF d.lm.L).1.length≤200:=by rw [← pre_len];exact (ho.lm.lok.made _ (Nat.le_refl _)).max
  exact Nat.le_trans (Nat.le_trans (List.length_filter_le _ _) h1) (by omega))
 have HI:=Lib.hid (show Lib.idxOfS stepsB ⟨#[116,101,120,116]⟩=-1 from of_decide_eq_true (by kernel_rfl))
 clear h ho hs hl hk hB hb0 hd hlog
 go_enter Tryz.func27,Tryz.ntmps27
 go_wp2_with fail
 refine (idx_c w _ _ rfl _).mono ?_
 rintro e w1 ⟨rfl,rfl⟩
 rw [HI.out]
 generalize hw0:w.alloc _=w0
 have hw0' : w.alloc s8=w0:=hw0
 rw [hw0'] at HT HH hc c0
 clear hw0 hw0'
 go_wp2_with fail
 refine HT.out.mono ?_
 rintro e w2 ⟨rfl,hb2⟩
 have HSY:=Lib.hid (sayN_c (HH.out.later hb2) [⟨#[116,101,120,116]⟩,strOfNums d.lm.view] #[.string ⟨#[116,101,120,116]⟩,.string (strOfNums d.lm.view)] 9 rfl (textB++32 :: strL d.lm.view) (by simp [saidL,Lib.join,textB,strL]) (by have:=HL.out;have:=HV.out;have:=strL_len d.lm.view;simp [textB];omega) (by show 2≤1000;omega))
 clear hb2 HT HH HV HL hc c0
 go_wp2_with fail
 refine HSY.out.mono ?_
 intro e w3 hq
 obtain ⟨⟨u,hu⟩,h3⟩:=hq
 subst hu
 have H3:=Lib.hid h3
 clear h3 HSY
 go_wp2
 go_ret
 exact ⟨rfl,H3.out⟩
set_option maxRecDepth 100000 in
set_option maxHeartbeats 1000000 in
theorem ask_settle (h:DsAt w base F g d t) (ho:d.Ok) (hs:d.Sm 1000) (hl:t.length≤80000000) (hk:LibK w) (hB:lowB≤base) {a:Option Addr} {cap:Nat} :
 Calls Tryz.prog 27 #[.pointer (some ⟨g,0,none⟩),.string ⟨#[115,101,116,116,108,101]⟩,.slice a 0 cap] w fun e w'=>e=.returned (.bool true)∧DsP w base F g (tellK d (.settle)).1 (t++linesS (tellK d (.settle)).2) w':=by
 have hb0:=(Below.refl w.heap.size w).alloc (Nat.le_refl _) s8
 obtain ⟨gd,FD,gw,hc,hd,hz⟩:=(h.later hb0).deskZ
 have HT:=Lib.hid ((Settle_c hd ho hs).mono (fun e w' hq=>(by
  obtain ⟨hv,F',gw',k1,k2,k3⟩:=hq
  exact ⟨hv,DsP.after hb0 (hz w' F' gw' _ k1 k2 k3)⟩:(∃ v,e=.returned v)∧DsP w base F g (settle d) t w')))
 have HL:=Lib.hid hl
 have HI:=Lib.hid (show Lib.idxOfS stepsB ⟨#[115,101,116,116,108,101]⟩=-1 from of_decide_eq_true (by kernel_rfl))
 clear h ho hs hl hk hB hb0 hd hz
 go_enter Tryz.func27,Tryz.ntmps27
 go_wp2_with fail
 refine (idx_c w _ _ rfl _).mono ?_
 rintro e w1 ⟨rfl,rfl⟩
 rw [HI.out]
 generalize hw0:w.alloc _=w0
 have hw0' : w.alloc s8=w0:=hw0
 rw [hw0'] at HT hc
 clear hw0 hw0'
 go_wp2_with fail
 refine HT.out.mono ?_
 rintro e w2 ⟨⟨u,rfl⟩,hp⟩
 have HSY:=Lib.hid (sayN_c hp [⟨#[111,107]⟩] #[.string ⟨#[111,107]⟩] 9 rfl okB rfl (by have:=HL.out;show t.length+2≤_;omega) (by show 1≤1000;omega))
 clear hp HT hc
 go_wp2_with fail
 refine HSY.out.mono ?_
 intro e w3 hq
 obtain ⟨⟨u,hu⟩,h3⟩:=hq
 subst hu
 have H3:=Lib.hid h3
 clear h3 HSY
 go_wp2
 go_ret
 exact ⟨rfl,H3.out⟩
set_option maxRecDepth 100000 in
set_option maxHeartbeats 1000000 in
theorem ask_step (h:DsAt w base F g d t) (ho:d.Ok) (hs:d.Sm 1000) (hl:t.length≤80000000) (hk:LibK w) (hB:lowB≤base) (W:ByteArray) (k:Int) (hW:Lib.idxOfS stepsB W=k) (hk0:0 < k) {b off cap:Nat} {v:Int} (hr:w.cell? ⟨b,off,none⟩=some (.int .i64 v)) :
 Calls Tryz.prog 27 #[.pointer (some ⟨g,0,none⟩),.string W,.slice (some ⟨b,off,none⟩) 1 cap] w fun e w'=>e=.returned (.bool true)∧DsP w base F g (tellK d (.step ⟨k,v,0,0,⟨#[]⟩⟩)).1 (t++linesS (tellK d (.step ⟨k,v,0,0,⟨#[]⟩⟩)).2) w':=by
 have hb0:=(Below.refl w.heap.size w).alloc (Nat.le_refl _) s8
 have hr0:=(hb0.cell (p:=⟨b,off,none⟩) (World.block_lt_of_cell? w _ hr)).trans hr
 have HC:=Lib.hid ((do_c (h.later hb0) ho hs ⟨k,v,0,0,⟨#[]⟩⟩ ⟨by unfold i64ok;show (_:Int)≤0∧(0:Int) < _;omega,Nat.zero_le _⟩ (by omega) (hk.later hb0) hB).mono (fun e w' hq=>(⟨hq.1,DsP.after hb0 hq.2⟩:(∃ u,e=.returned u)∧DsP w base F g (tellK d (.step ⟨k,v,0,0,⟨#[]⟩⟩)).1 (t++linesS (tellK d (.step ⟨k,v,0,0,⟨#[]⟩⟩)).2) w')))
 have HI:=Lib.hid hW
 clear h ho hs hl hk hB hr hb0 hW
 go_enter Tryz.func27,Tryz.ntmps27
 go_wp2_with fail
 refine (idx_c w _ _ rfl _).mono ?_
 rintro e w1 ⟨rfl,rfl⟩
 rw [HI.out]
 generalize hw0:w.alloc _=w0
 have hw0' : w.alloc s8=w0:=hw0
 rw [hw0'] at hr0 HC
 clear hw0 hw0'
 go_wp2_with fail
 refine HC.out.mono ?_
 rintro e w2 ⟨⟨u,rfl⟩,hp⟩
 have HP:=Lib.hid hp
 clear hp HC
 go_wp2
 go_ret
 exact ⟨rfl,HP.out⟩
set_option maxRecDepth 100000 in
set_option maxHeartbeats 1000000 in
theorem ask_take (h:DsAt w base F g d t) (ho:d.Ok) (hs:d.Sm 1000) (hl:t.length≤80000000) (hk:LibK w) (hB:lowB≤base) {b off cap:Nat} {v0 v1 v2:Int} (h64:i64ok v2) (r0:w.cell? ⟨b,off,none⟩=some (.int .i64 v0)) (r1:w.cell? ⟨b,off+1,none⟩=some (.int .i64 v1)) (r2:w.cell? ⟨b,off+2,none⟩=some (.int .i64 v2)) :
 Calls Tryz.prog 27 #[.pointer (some ⟨g,0,none⟩),.string ⟨#[116,97,107,101]⟩,.slice (some ⟨b,off,none⟩) 3 cap] w fun e w'=>e=.returned (.bool true)∧DsP w base F g (tellK d (.step ⟨3,v0,v1,v2,⟨#[]⟩⟩)).1 (t++linesS (tellK d (.step ⟨3,v0,v1,v2,⟨#[]⟩⟩)).2) w':=by
 have hb0:=(Below.refl w.heap.size w).alloc (Nat.le_refl _) s8
 have hr0:=(hb0.cell (p:=⟨b,off,none⟩) (World.block_lt_of_cell? w _ r0)).trans r0
 have hr1:=(hb0.cell (p:=⟨b,off+1,none⟩) (World.block_lt_of_cell? w _ r1)).trans r1
 have hr2:=(hb0.cell (p:=⟨b,off+2,none⟩) (World.block_lt_of_cell? w _ r2)).trans r2
 have HC:=Lib.hid (fun (W:World) (hW:Later w W)=>(do_c (h.later hW) ho hs ⟨3,v0,v1,v2,⟨#[]⟩⟩ ⟨h64,Nat.zero_le _⟩ (by omega) (hk.later hW) hB).mono (fun e w' hq=>(⟨hq.1,DsP.after hW hq.2⟩:(∃ u,e=.returned u)∧DsP w base F g (tellK d (.step ⟨3,v0,v1,v2,⟨#[]⟩⟩)).1 (t++linesS (tellK d (.step ⟨3,v0,v1,v2,⟨#[]⟩⟩)).2) w')))
 have HB0:=Lib.hid hb0
 have HI:=Lib.hid (show Lib.idxOfS stepsB ⟨#[116,97,107,101]⟩=-1 from of_decide_eq_true (by kernel_rfl))
 clear h ho hs hl hk hB r0 r1 r2 hb0
 go_enter Tryz.func27,Tryz.ntmps27
 go_wp2_with fail
 refine (idx_c w _ _ rfl _).mono ?_
 rintro e w1 ⟨rfl,rfl⟩
 rw [HI.out]
 generalize hw0:w.alloc _=w0
 have hw0' : w.alloc s8=w0:=hw0
 rw [hw0'] at hr0 hr1 hr2 HB0
 clear hw0 hw0'
 go_upto_region 8 with fail
 have X0:=later_cell hr0
 have X1:=later_cell hr1
 have X2:=later_cell hr2
 have hL:∀ q:Lt w0,Later w0 q.v:=fun q=>q.h
 clear hr0 hr1 hr2
 refine wp_region_x [] [11] [0,1,2,3,4,5,6,7,8,9,10,11] (by kernel_rfl) (by kernel_rfl) ?_
 iterate 11 (refine wpX_step rfl (fun K hK=>?_);go_simp;refine hK _ _ ?_;clear hK K)
 refine wpX_step rfl (fun K hK=>?_)
 go_simp
 intro p
 refine (HC.out p.v (HB0.out.trans ((hL p).mono HB0.out.size))).mono ?_
 rintro e w2 ⟨⟨u,rfl⟩,hp⟩
 refine ⟨_,rfl,hK _ _ ?_⟩
 clear hK K
 have HP:=Lib.hid hp
 clear hp p hL X0 X1 X2
 refine wpX_nil ?_
 intro w3 hL3
 have HP3:=Lib.hid (HP.out.later hL3)
 clear HP hL3
 go_wp2
 go_ret
 exact ⟨rfl,HP3.out⟩
set_option maxRecDepth 100000 in
set_option maxHeartbeats 1000000 in
theorem ask_least (h:DsAt w base F g d t) (ho:d.Ok) (hs:d.Sm 1000) (hl:t.length≤80000000) (hk:LibK w) (hB:lowB≤base) {a:Option Addr} {cap:Nat} :
 Calls Tryz.prog 27 #[.pointer (some ⟨g,0,none⟩),.string ⟨#[108,101,97,115,116]⟩,.slice a 0 cap] w fun e w'=>e=.returned (.bool true)∧DsP w base F g (tellK d (.least)).1 (t++linesS (tellK d (.least)).2) w':=by
 have hb0:=(Below.refl w.heap.size w).alloc (Nat.le_refl _) s8
 obtain ⟨gd,FD,gw,hc,hd,-⟩:=(h.later hb0).deskZ
 obtain ⟨gl,FL,_,c0,hlog,_⟩:=hd.logZ
 have hm0:=ho.lm.least0
 have hm1:=d.lm.least_le
 have hm2:=ho.lm.len
 have HLG:=Lib.hid hlog
 have HH:=Lib.hid (DsP.start h hb0)
 have HK:=Lib.hid (hk.later hb0)
 have HL:=Lib.hid hl
 have HN:=Lib.hid (show i64ok d.lm.least∧i64ok (d.lm.L.length:Int) from by unfold i64ok;omega)
 have H21:=Lib.hid (show (Lib.itoa d.lm.least).length≤21∧(Lib.itoa (d.lm.L.length:Int)).length≤21 from ⟨itoa21 HN.out.1,itoa21 HN.out.2⟩)
 show Calls _ _ _ _ fun e w'=>_∧DsP w base F g d (t++linesS [leastB++32 :: (Lib.itoa d.lm.least++32 :: Lib.itoa (d.lm.L.length:Int))]) w'
 have HI:=Lib.hid (show Lib.idxOfS stepsB ⟨#[108,101,97,115,116]⟩=-1 from of_decide_eq_true (by kernel_rfl))
 clear h ho hs hl hk hB hb0 hd hlog hm0 hm1 hm2
 go_enter Tryz.func27,Tryz.ntmps27
 go_wp2_with fail
 refine (idx_c w _ _ rfl _).mono ?_
 rintro e w1 ⟨rfl,rfl⟩
 rw [HI.out]
 generalize hw0:w.alloc _=w0
 have hw0' : w.alloc s8=w0:=hw0
 rw [hw0'] at HLG HH HK hc c0
 clear hw0 hw0'
 go_upto_region 23 with fail
 have X0:=later_cell hc
 have X1:=later_cell c0
 have hL:∀ q:Lt w0,Later w0 q.v:=fun q=>q.h
 clear hc c0
 refine wp_region_x [19] [20] [0,1,2,3,4,5,6,7,8,9,10,11,12,13,14,15,16,17,18,19,20] (by kernel_rfl) (by kernel_rfl) ?_
 iterate 8 (refine wpX_step rfl (fun K hK=>?_);go_simp;refine hK _ _ ?_;clear hK K)
 refine wpX_step rfl (fun K hK=>?_)
 go_simp
 refine ⟨_,fun p=>quietM p (Least_c (HLG.out.later (hL p))),hK _ _ ?_⟩
 clear hK K
 refine wpX_step rfl (fun K hK=>?_)
 go_simp
 refine ⟨_,fun p=>quietM p (dsnum_c d.lm.least HN.out.1 p.v (HK.out.later (hL p))),hK _ _ ?_⟩
 clear hK K
 iterate 7 (refine wpX_step rfl (fun K hK=>?_);go_simp;refine hK _ _ ?_;clear hK K)
 refine wpX_step rfl (fun K hK=>?_)
 go_simp
 refine ⟨_,fun p=>quietM p ((Len_c (HLG.out.later (hL p))).mono (fun e w' q=>(⟨q.1,by rw [q.2];exact Below.refl _ _⟩:e=.returned (.int .i64 (d.lm.L.length:Int))∧Below p.v.heap.size p.v w'))),hK _ _ ?_⟩
 clear hK K
 refine wpX_step rfl (fun K hK=>?_)
 go_simp
 refine ⟨_,fun p=>quietM p (dsnum_c (d.lm.L.length:Int) HN.out.2 p.v (HK.out.later (hL p))),hK _ _ ?_⟩
 clear hK K
 refine wpX_step rfl (fun K hK=>?_)
 go_simp
 intro p
 refine hK _ _ ?_
 clear hK K
 have HHp:=Lib.hid (HH.out.later (hL p))
 obtain ⟨L1,hL1⟩:∃ L1:Str,L1=leastB++32 :: (Lib.itoa d.lm.least++32 :: Lib.itoa (d.lm.L.length:Int)):=⟨_,rfl⟩
 have HSL:=Lib.hid (SlS.new p.v [⟨#[108,101,97,115,116]⟩,⟨(Lib.itoa d.lm.least).toArray⟩,⟨(Lib.itoa (d.lm.L.length:Int)).toArray⟩] #[.string ⟨#[108,101,97,115,116]⟩,.string ⟨(Lib.itoa d.lm.least).toArray⟩,.string ⟨(Lib.itoa (d.lm.L.length:Int)).toArray⟩] 9 rfl)
 have HSA:=Lib.hid (show saidL [⟨#[108,101,97,115,116]⟩,⟨(Lib.itoa d.lm.least).toArray⟩,⟨(Lib.itoa (d.lm.L.length:Int)).toArray⟩]=L1 from by rw [hL1];simp [saidL,Lib.join,leastB])
 have HLE:=Lib.hid (show t.length+L1.length≤100000000 from by have:=HL.out;have:=H21.out;rw [hL1];simp [leastB];omega)
 have HL1:=Lib.hid hL1
 clear hL1
 have HS2:=Lib.hid (HHp.out.later ((Below.refl p.v.heap.size p.v).alloc (Nat.le_refl _) (.cells #[.string ⟨#[108,101,97,115,116]⟩,.string ⟨(Lib.itoa d.lm.least).toArray⟩,.string ⟨(Lib.itoa (d.lm.L.length:Int)).toArray⟩] 9)))
 generalize hw2:p.v.alloc _=w2
 have hw2' : p.v.alloc (.cells #[.string ⟨#[108,101,97,115,116]⟩,.string ⟨(Lib.itoa d.lm.least).toArray⟩,.string ⟨(Lib.itoa (d.lm.L.length:Int)).toArray⟩] 9)=w2:=hw2
 rw [hw2'] at HSL HS2
 clear hw2 hw2' HHp
 generalize p.v.heap.size=Y at HSL ⊢
 clear X0 X1 hL p
 refine wpX_step rfl (fun K hK=>?_)
 go_simp
 intro p
 have HHq:=Lib.hid (HS2.out.later p.h)
 have HSq:=Lib.hid (HSL.out.later p.h)
 refine (sayP_c HHq.out HSq.out L1 HSA.out HLE.out (by show 3≤1000;omega)).mono ?_
 intro e w3 hq
 obtain ⟨⟨u,hu⟩,h3⟩:=hq
 subst hu
 refine ⟨_,rfl,hK _ _ ?_⟩
 clear hK K
 have H3:=Lib.hid (show DsP w base F g d (t++linesS [L1]) w3 from h3)
 clear h3 HHq HSq p
 refine wpX_nil ?_
 intro w4 hL4
 have H4:=Lib.hid (H3.out.later hL4)
 clear H3 hL4
 go_wp2
 go_ret
 exact ⟨rfl,by rw [← HL1.out];exact H4.out⟩
set_option maxRecDepth 100000 in
set_option maxHeartbeats 1000000 in
theorem ask_no_take (h:DsAt w base F g d t) {a:Option Addr} {n cap:Nat} (n3:((n:Int)==3)=false) :
 Calls Tryz.prog 27 #[.pointer (some ⟨g,0,none⟩),.string ⟨#[116,97,107,101]⟩,.slice a n cap] w fun e w'=>e=.returned (.bool false)∧DsP w base F g d t w':=by
 have hb0:=(Below.refl w.heap.size w).alloc (Nat.le_refl _) s8
 have HH:=Lib.hid (DsP.start h hb0)
 have HI:=Lib.hid (show Lib.idxOfS stepsB ⟨#[116,97,107,101]⟩=-1 from of_decide_eq_true (by kernel_rfl))
 clear h hb0
 go_enter Tryz.func27,Tryz.ntmps27
 go_wp2_with fail
 refine (idx_c w _ _ rfl _).mono ?_
 rintro e w1 ⟨rfl,rfl⟩
 rw [HI.out]
 generalize hw0:w.alloc _=w0
 have hw0' : w.alloc s8=w0:=hw0
 rw [hw0'] at HH
 clear hw0 hw0'
 go_wp2
 go_ret
 exact ⟨rfl,HH.out⟩
set_option maxRecDepth 100000 in
set_option maxHeartbeats 1000000 in
theorem ask_no_text (h:DsAt w base F g d t) {a:Option Addr} {n cap:Nat} (n1:((n:Int)==1)=false) (n0:((n:Int)==0)=false) :
 Calls Tryz.prog 27 #[.pointer (some ⟨g,0,none⟩),.string ⟨#[116,101,120,116]⟩,.slice a n cap] w fun e w'=>e=.returned (.bool false)∧DsP w base F g d t w':=by
 have hb0:=(Below.refl w.heap.size w).alloc (Nat.le_refl _) s8
 have HH:=Lib.hid (DsP.start h hb0)
 have HI:=Lib.hid (show Lib.idxOfS stepsB ⟨#[116,101,120,116]⟩=-1 from of_decide_eq_true (by kernel_rfl))
 clear h hb0
 go_enter Tryz.func27,Tryz.ntmps27
 go_wp2_with fail
 refine (idx_c w _ _ rfl _).mono ?_
 rintro e w1 ⟨rfl,rfl⟩
 rw [HI.out]
 generalize hw0:w.alloc _=w0
 have hw0' : w.alloc s8=w0:=hw0
 rw [hw0'] at HH
 clear hw0 hw0'
 go_wp2
 go_ret
 exact ⟨rfl,HH.out⟩
set_option maxRecDepth 100000 in
set_option maxHeartbeats 1000000 in
theorem ask_no_open (h:DsAt w base F g d t) {a:Option Addr} {n cap:Nat} (n1:((n:Int)==1)=false) :
 Calls Tryz.prog 27 #[.pointer (some ⟨g,0,none⟩),.string ⟨#[111,112,101,110]⟩,.slice a n cap] w fun e w'=>e=.returned (.bool false)∧DsP w base F g d t w':=by
 have hb0:=(Below.refl w.heap.size w).alloc (Nat.le_refl _) s8
 have HH:=Lib.hid (DsP.start h hb0)
 have HI:=Lib.hid (show Lib.idxOfS stepsB ⟨#[111,112,101,110]⟩=-1 from of_decide_eq_true (by kernel_rfl))
 clear h hb0
 go_enter Tryz.func27,Tryz.ntmps27
 go_wp2_with fail
 refine (idx_c w _ _ rfl _).mono ?_
 rintro e w1 ⟨rfl,rfl⟩
 rw [HI.out]
 generalize hw0:w.alloc _=w0
 have hw0' : w.alloc s8=w0:=hw0
 rw [hw0'] at HH
 clear hw0 hw0'
 go_wp2
 go_ret
 exact ⟨rfl,HH.out⟩
set_option maxRecDepth 100000 in
set_option maxHeartbeats 1000000 in
theorem ask_no_log (h:DsAt w base F g d t) {a:Option Addr} {n cap:Nat} (n0:((n:Int)==0)=false) :
 Calls Tryz.prog 27 #[.pointer (some ⟨g,0,none⟩),.string ⟨#[108,111,103]⟩,.slice a n cap] w fun e w'=>e=.returned (.bool false)∧DsP w base F g d t w':=by
 have hb0:=(Below.refl w.heap.size w).alloc (Nat.le_refl _) s8
 have HH:=Lib.hid (DsP.start h hb0)
 have HI:=Lib.hid (show Lib.idxOfS stepsB ⟨#[108,111,103]⟩=-1 from of_decide_eq_true (by kernel_rfl))
 clear h hb0
 go_enter Tryz.func27,Tryz.ntmps27
 go_wp2_with fail
 refine (idx_c w _ _ rfl _).mono ?_
 rintro e w1 ⟨rfl,rfl⟩
 rw [HI.out]
 generalize hw0:w.alloc _=w0
 have hw0' : w.alloc s8=w0:=hw0
 rw [hw0'] at HH
 clear hw0 hw0'
 go_wp2
 go_ret
 exact ⟨rfl,HH.out⟩
set_option maxRecDepth 100000 in
set_option maxHeartbeats 1000000 in
theorem ask_no_then (h:DsAt w base F g d t) {a:Option Addr} {n cap:Nat} (n1:((n:Int)==1)=false) :
 Calls Tryz.prog 27 #[.pointer (some ⟨g,0,none⟩),.string ⟨#[116,104,101,110]⟩,.slice a n cap] w fun e w'=>e=.returned (.bool false)∧DsP w base F g d t w':=by
 have hb0:=(Below.refl w.heap.size w).alloc (Nat.le_refl _) s8
 have HH:=Lib.hid (DsP.start h hb0)
 have HI:=Lib.hid (show Lib.idxOfS stepsB ⟨#[116,104,101,110]⟩=-1 from of_decide_eq_true (by kernel_rfl))
 clear h hb0
 go_enter Tryz.func27,Tryz.ntmps27
 go_wp2_with fail
 refine (idx_c w _ _ rfl _).mono ?_
 rintro e w1 ⟨rfl,rfl⟩
 rw [HI.out]
 generalize hw0:w.alloc _=w0
 have hw0' : w.alloc s8=w0:=hw0
 rw [hw0'] at HH
 clear hw0 hw0'
 go_wp2
 go_ret
 exact ⟨rfl,HH.out⟩
set_option maxRecDepth 100000 in
set_option maxHeartbeats 1000000 in
theorem ask_no_settle (h:DsAt w base F g d t) {a:Option Addr} {n cap:Nat} (n0:((n:Int)==0)=false) :
 Calls Tryz.prog 27 #[.pointer (some ⟨g,0,none⟩),.string ⟨#[115,101,116,116,108,101]⟩,.slice a n cap] w fun e w'=>e=.returned (.bool false)∧DsP w base F g d t w':=by
 have hb0:=(Below.refl w.heap.size w).alloc (Nat.le_refl _) s8
 have HH:=Lib.hid (DsP.start h hb0)
 have HI:=Lib.hid (show Lib.idxOfS stepsB ⟨#[115,101,116,116,108,101]⟩=-1 from of_decide_eq_true (by kernel_rfl))
 clear h hb0
 go_enter Tryz.func27,Tryz.ntmps27
 go_wp2_with fail
 refine (idx_c w _ _ rfl _).mono ?_
 rintro e w1 ⟨rfl,rfl⟩
 rw [HI.out]
 generalize hw0:w.alloc _=w0
 have hw0' : w.alloc s8=w0:=hw0
 rw [hw0'] at HH
 clear hw0 hw0'
 go_wp2
 go_ret
 exact ⟨rfl,HH.out⟩
set_option maxRecDepth 100000 in
set_option maxHeartbeats 1000000 in
theorem ask_no_least (h:DsAt w base F g d t) {a:Option Addr} {n cap:Nat} (n0:((n:Int)==0)=false) :
 Calls Tryz.prog 27 #[.pointer (some ⟨g,0,none⟩),.string ⟨#[108,101,97,115,116]⟩,.slice a n cap] w fun e w'=>e=.returned (.bool false)∧DsP w base F g d t w':=by
 have hb0:=(Below.refl w.heap.size w).alloc (Nat.le_refl _) s8
 have HH:=Lib.hid (DsP.start h hb0)
 have HI:=Lib.hid (show Lib.idxOfS stepsB ⟨#[108,101,97,115,116]⟩=-1 from of_decide_eq_true (by kernel_rfl))
 clear h hb0
 go_enter Tryz.func27,Tryz.ntmps27
 go_wp2_with fail
 refine (idx_c w _ _ rfl _).mono ?_
 rintro e w1 ⟨rfl,rfl⟩
 rw [HI.out]
 generalize hw0:w.alloc _=w0
 have hw0' : w.alloc s8=w0:=hw0
 rw [hw0'] at HH
 clear hw0 hw0'
 go_wp2
 go_ret
 exact ⟨rfl,HH.out⟩
set_option maxRecDepth 100000 in
set_option maxHeartbeats 1000000 in
theorem ask_no_join (h:DsAt w base F g d t) {a:Option Addr} {n cap:Nat} (n1:((n:Int)==1)=false) :
 Calls Tryz.prog 27 #[.pointer (some ⟨g,0,none⟩),.string ⟨#[106,111,105,110]⟩,.slice a n cap] w fun e w'=>e=.returned (.bool false)∧DsP w base F g d t w':=by
 have hb0:=(Below.refl w.heap.size w).alloc (Nat.le_refl _) s8
 have HH:=Lib.hid (DsP.start h hb0)
 have HI:=Lib.hid (show Lib.idxOfS stepsB ⟨#[106,111,105,110]⟩=1 from of_decide_eq_true (by kernel_rfl))
 clear h hb0
 go_enter Tryz.func27,Tryz.ntmps27
 go_wp2_with fail
 refine (idx_c w _ _ rfl _).mono ?_
 rintro e w1 ⟨rfl,rfl⟩
 rw [HI.out]
 generalize hw0:w.alloc _=w0
 have hw0' : w.alloc s8=w0:=hw0
 rw [hw0'] at HH
 clear hw0 hw0'
 go_wp2
 go_ret
 exact ⟨rfl,HH.out⟩
set_option maxRecDepth 100000 in
set_option maxHeartbeats 1000000 in
theorem ask_no_send (h:DsAt w base F g d t) {a:Option Addr} {n cap:Nat} (n1:((n:Int)==1)=false) :
 Calls Tryz.prog 27 #[.pointer (some ⟨g,0,none⟩),.string ⟨#[115,101,110,100]⟩,.slice a n cap] w fun e w'=>e=.returned (.bool false)∧DsP w base F g d t w':=by
 have hb0:=(Below.refl w.heap.size w).alloc (Nat.le_refl _) s8
 have HH:=Lib.hid (DsP.start h hb0)
 have HI:=Lib.hid (show Lib.idxOfS stepsB ⟨#[115,101,110,100]⟩=4 from of_decide_eq_true (by kernel_rfl))
 clear h hb0
 go_enter Tryz.func27,Tryz.ntmps27
 go_wp2_with fail
 refine (idx_c w _ _ rfl _).mono ?_
 rintro e w1 ⟨rfl,rfl⟩
 rw [HI.out]
 generalize hw0:w.alloc _=w0
 have hw0' : w.alloc s8=w0:=hw0
 rw [hw0'] at HH
 clear hw0 hw0'
 go_wp2
 go_ret
 exact ⟨rfl,HH.out⟩
set_option maxRecDepth 100000 in
set_option maxHeartbeats 1000000 in
theorem ask_no_hear (h:DsAt w base F g d t) {a:Option Addr} {n cap:Nat} (n1:((n:Int)==1)=false) :
 Calls Tryz.prog 27 #[.pointer (some ⟨g,0,none⟩),.string ⟨#[104,101,97,114]⟩,.slice a n cap] w fun e w'=>e=.returned (.bool false)∧DsP w base F g d t w':=by
 have hb0:=(Below.refl w.heap.size w).alloc (Nat.le_refl _) s8
 have HH:=Lib.hid (DsP.start h hb0)
 have HI:=Lib.hid (show Lib.idxOfS stepsB ⟨#[104,101,97,114]⟩=5 from of_decide_eq_true (by kernel_rfl))
 clear h hb0
 go_enter Tryz.func27,Tryz.ntmps27
 go_wp2_with fail
 refine (idx_c w _ _ rfl _).mono ?_
 rintro e w1 ⟨rfl,rfl⟩
 rw [HI.out]
 generalize hw0:w.alloc _=w0
 have hw0' : w.alloc s8=w0:=hw0
 rw [hw0'] at HH
 clear hw0 hw0'
 go_wp2
 go_ret
 exact ⟨rfl,HH.out⟩
set_option maxRecDepth 100000 in
set_option maxHeartbeats 1000000 in
theorem ask_no_clear (h:DsAt w base F g d t) {a:Option Addr} {n cap:Nat} (n1:((n:Int)==1)=false) :
 Calls Tryz.prog 27 #[.pointer (some ⟨g,0,none⟩),.string ⟨#[99,108,101,97,114]⟩,.slice a n cap] w fun e w'=>e=.returned (.bool false)∧DsP w base F g d t w':=by
 have hb0:=(Below.refl w.heap.size w).alloc (Nat.le_refl _) s8
 have HH:=Lib.hid (DsP.start h hb0)
 have HI:=Lib.hid (show Lib.idxOfS stepsB ⟨#[99,108,101,97,114]⟩=6 from of_decide_eq_true (by kernel_rfl))
 clear h hb0
 go_enter Tryz.func27,Tryz.ntmps27
 go_wp2_with fail
 refine (idx_c w _ _ rfl _).mono ?_
 rintro e w1 ⟨rfl,rfl⟩
 rw [HI.out]
 generalize hw0:w.alloc _=w0
 have hw0' : w.alloc s8=w0:=hw0
 rw [hw0'] at HH
 clear hw0 hw0'
 go_wp2
 go_ret
 exact ⟨rfl,HH.out⟩
set_option maxRecDepth 100000 in
set_option maxHeartbeats 1000000 in
theorem ask_no_leave (h:DsAt w base F g d t) {a:Option Addr} {n cap:Nat} (n1:((n:Int)==1)=false) :
 Calls Tryz.prog 27 #[.pointer (some ⟨g,0,none⟩),.string ⟨#[108,101,97,118,101]⟩,.slice a n cap] w fun e w'=>e=.returned (.bool false)∧DsP w base F g d t w':=by
 have hb0:=(Below.refl w.heap.size w).alloc (Nat.le_refl _) s8
 have HH:=Lib.hid (DsP.start h hb0)
 have HI:=Lib.hid (show Lib.idxOfS stepsB ⟨#[108,101,97,118,101]⟩=7 from of_decide_eq_true (by kernel_rfl))
 clear h hb0
 go_enter Tryz.func27,Tryz.ntmps27
 go_wp2_with fail
 refine (idx_c w _ _ rfl _).mono ?_
 rintro e w1 ⟨rfl,rfl⟩
 rw [HI.out]
 generalize hw0:w.alloc _=w0
 have hw0' : w.alloc s8=w0:=hw0
 rw [hw0'] at HH
 clear hw0 hw0'
 go_wp2
 go_ret
 exact ⟨rfl,HH.out⟩
set_option maxRecDepth 100000 in
set_option maxHeartbeats 1000000 in
theorem ask_no_other (h:DsAt w base F g d t) (W:ByteArray) {a:Option Addr} {n cap:Nat} (hx:Lib.idxOfS stepsB W≤0) (e0:W≠⟨#[116,97,107,101]⟩) (e1:W≠⟨#[116,101,120,116]⟩) (e2:W≠⟨#[111,112,101,110]⟩) (e3:W≠⟨#[108,111,103]⟩) (e4:W≠⟨#[116,104,101,110]⟩) (e5:W≠⟨#[115,101,116,116,108,101]⟩) (e6:W≠⟨#[108,101,97,115,116]⟩) :
 Calls Tryz.prog 27 #[.pointer (some ⟨g,0,none⟩),.string W,.slice a n cap] w fun e w'=>e=.returned (.bool false)∧DsP w base F g d t w':=by
 have hb0:=(Below.refl w.heap.size w).alloc (Nat.le_refl _) s8
 have HH:=Lib.hid (DsP.start h hb0)
 obtain ⟨x,hxe⟩:∃ x,Lib.idxOfS stepsB W=x:=⟨_,rfl⟩
 have HI:=Lib.hid hxe
 have hx0:decide (0 < x)=false:=decide_eq_false (by omega)
 have hx1:decide (x > 0)=false:=decide_eq_false (by omega)
 have q0:(W.toList==[116,97,107,101])=false:=ne_list e0
 have q1:(W.toList==[116,101,120,116])=false:=ne_list e1
 have q2:(W.toList==[111,112,101,110])=false:=ne_list e2
 have q3:(W.toList==[108,111,103])=false:=ne_list e3
 have q4:(W.toList==[116,104,101,110])=false:=ne_list e4
 have q5:(W.toList==[115,101,116,116,108,101])=false:=ne_list e5
 have q6:(W.toList==[108,101,97,115,116])=false:=ne_list e6
 clear hx hxe
 clear h hb0
 go_enter Tryz.func27,Tryz.ntmps27
 go_wp2_with fail
 refine (idx_c w _ _ rfl _).mono ?_
 rintro e w1 ⟨rfl,rfl⟩
 rw [HI.out]
 generalize hw0:w.alloc _=w0
 have hw0' : w.alloc s8=w0:=hw0
 rw [hw0'] at HH
 clear hw0 hw0'
 go_wp2
 go_ret
 exact ⟨rfl,HH.out⟩
theorem row_cell {a:Option Addr} {B0 n cap:Nat} {ns:List Int} (hr:OwnRow w B0 3 1 a n cap (ns.map (Value.int .i64))) (h0:0 < ns.length):∃ b off,a=some ⟨b,off,none⟩∧∀ j v,ns[j]? = some v→w.cell? ⟨b,off+j,none⟩=some (.int .i64 v):=by
 obtain ⟨b,off,e,_,_,hc⟩:=hr.cell (by rw [List.length_map];exact h0)
 exact ⟨b,off,e,fun j v hv=>hc j _ (by rw [List.getElem?_map,hv];rfl)⟩
theorem len_dec {n:Nat} (m:Int) (h:(n:Int)≠m):((n:Int)==m)=false:=by simpa using h
def AskPost (w:World) (base:Nat) (F:Nat→Prop) (g:Nat) (d:DkM) (t:Str) (x:Ask) (e:Ending) (w' : World):Prop:=
 (e=.returned (.bool true)∧DsP w base F g (tellK d x).1 (t++linesS (tellK d x).2) w')∨(e=.returned (.bool false)∧x=.what∧DsP w base F g d t w')
theorem AskPost.yes {x:Ask} {e:Ending} {w' : World} (h:e=.returned (.bool true)∧DsP w base F g (tellK d x).1 (t++linesS (tellK d x).2) w'):AskPost w base F g d t x e w':=.inl h
theorem AskPost.no {e:Ending} {w' : World} (h:e=.returned (.bool false)∧DsP w base F g d t w'):AskPost w base F g d t .what e w':=.inr ⟨h.1,rfl,h.2⟩
theorem step_word {W:Str} {k:Int} (h:stepK W=some k):W=joinB∨W=sendB∨W=hearB∨W=clearB∨W=leaveB:=by
 unfold stepK at h
 repeat' split at h
 all_goals first | (cases h;done) | simp_all
theorem what_step {W:Str} {k:Int} (h:stepK W=some k) (ns:List Int) (hn:ns.length≠1):askN W ns=.what:=by
 unfold askN
 rw [h]
 have hd:W≠takeB∧W≠textB∧W≠openB∧W≠logB∧W≠thenB∧W≠settleB∧W≠leastB:=by
  rcases step_word h with rfl | rfl | rfl | rfl | rfl <;> decide
 obtain ⟨d1,d2,d3,d4,d5,d6,d7⟩:=hd
 match ns,hn with
 | [],_=>simp [d1,d2,d3,d4,d5,d6,d7]
 | a :: b :: l,_=>simp [d1,d2,d3,d4,d5,d6,d7]
theorem ask_words (h:DsAt w base F g d t) {W:ByteArray} {k:Int} (hW:stepK W.data.toList=some k) {a:Option Addr} {n cap:Nat} (hn:n≠1) :
 Calls Tryz.prog 27 #[.pointer (some ⟨g,0,none⟩),.string W,.slice a n cap] w (AskPost w base F g d t .what):=by
 have n1:((n:Int)==1)=false:=len_dec 1 (by omega)
 rcases step_word hW with e | e | e | e | e
 ·obtain rfl:W=⟨#[106,111,105,110]⟩:=ba_lit e
  exact (ask_no_join h n1).mono fun e w' q=>.no q
 ·obtain rfl:W=⟨#[115,101,110,100]⟩:=ba_lit e
  exact (ask_no_send h n1).mono fun e w' q=>.no q
 ·obtain rfl:W=⟨#[104,101,97,114]⟩:=ba_lit e
  exact (ask_no_hear h n1).mono fun e w' q=>.no q
 ·obtain rfl:W=⟨#[99,108,101,97,114]⟩:=ba_lit e
  exact (ask_no_clear h n1).mono fun e w' q=>.no q
 ·obtain rfl:W=⟨#[108,101,97,118,101]⟩:=ba_lit e
  exact (ask_no_leave h n1).mono fun e w' q=>.no q
theorem ask_c (h:DsAt w base F g d t) (ho:d.Ok) (hs:d.Sm 1000) (hl:t.length≤80000000) (hk:LibK w) (hB:lowB≤base) (W:ByteArray) (ns:List Int) (hns:∀ k∈ns,i64ok k) {B0 cap:Nat} {a:Option Addr} (hr:OwnRow w B0 3 1 a ns.length cap (ns.map (Value.int .i64))) :
 Calls Tryz.prog 27 #[.pointer (some ⟨g,0,none⟩),.string W,.slice a ns.length cap] w (AskPost w base F g d t (askN W.data.toList ns)):=by
 rcases idx_step W with ⟨k,h1,h2,h3⟩ | ⟨h1,h2⟩
 ·match ns,hns,hr with
  | [v],hns,hr=>
   have e:askN W.data.toList [v]=.step ⟨k,v,0,0,⟨#[]⟩⟩:=by unfold askN;rw [h1]
   rw [e]
   obtain ⟨b,off,rfl,hc⟩:=row_cell hr (by simp)
   exact (ask_step h ho hs hl hk hB W k h2 h3 (hc 0 v rfl)).mono fun e w' q=>.yes q
  | [],hns,hr=>rw [what_step h1 _ (by simp)];exact ask_words h h1 (by simp)
  | a1 :: a2 :: l,hns,hr=>rw [what_step h1 _ (by simp)];exact ask_words h h1 (by simp)
 ·have none_of:∀ ns:List Int,askN W.data.toList ns=(if W.data.toList=takeB then (match ns with | [a,b,c]=>.step ⟨3,a,b,c,⟨#[]⟩⟩ | _=>.what)
   else if W.data.toList=textB then (match ns with | [a]=>.text a | []=>.all | _=>.what)
   else if W.data.toList=openB then (match ns with | [a]=>.opn a | _=>.what)
   else if W.data.toList=logB then (match ns with | []=>.log | _=>.what)
   else if W.data.toList=thenB then (match ns with | [a]=>.thn a | _=>.what)
   else if W.data.toList=settleB then (match ns with | []=>.settle | _=>.what)
   else if W.data.toList=leastB then (match ns with | []=>.least | _=>.what)
   else .what):=fun ns=>by unfold askN;rw [h1];rcases ns with _ | ⟨a1,_ | ⟨a2,l⟩⟩ <;> rfl
  rw [none_of]
  clear none_of h1
  by_cases e0:W.data.toList=takeB
  ·rw [if_pos e0]
   obtain rfl:W=⟨#[116,97,107,101]⟩:=ba_lit e0
   match ns,hns,hr with
   | [v0,v1,v2],hns,hr=>
    obtain ⟨b,off,rfl,hc⟩:=row_cell hr (by simp)
    exact (ask_take h ho hs hl hk hB (hns v2 (by simp)) (hc 0 v0 rfl) (hc 1 v1 rfl) (hc 2 v2 rfl)).mono fun e w' q=>.yes q
   | [],hns,hr=>exact (ask_no_take h (len_dec 3 (by simp only [List.length_cons,List.length_nil];omega))).mono fun e w' q=>.no q
   | [a1],hns,hr=>exact (ask_no_take h (len_dec 3 (by simp only [List.length_cons,List.length_nil];omega))).mono fun e w' q=>.no q
   | [a1,a2],hns,hr=>exact (ask_no_take h (len_dec 3 (by simp only [List.length_cons,List.length_nil];omega))).mono fun e w' q=>.no q
   | a1 :: a2 :: a3 :: a4 :: l,hns,hr=>exact (ask_no_take h (len_dec 3 (by simp only [List.length_cons,List.length_nil];omega))).mono fun e w' q=>.no q
  rw [if_neg e0]
  by_cases e1:W.data.toList=textB
  ·rw [if_pos e1]
   obtain rfl:W=⟨#[116,101,120,116]⟩:=ba_lit e1
   match ns,hns,hr with
   | [v],hns,hr=>
    obtain ⟨b,off,rfl,hc⟩:=row_cell hr (by simp)
    exact (ask_text1 h ho hs hl hk hB (hc 0 v rfl)).mono fun e w' q=>.yes q
   | [],hns,hr=>exact (ask_all h ho hs hl hk hB).mono fun e w' q=>.yes q
   | a1 :: a2 :: l,hns,hr=>exact (ask_no_text h (len_dec 1 (by simp only [List.length_cons,List.length_nil];omega)) (len_dec 0 (by simp only [List.length_cons,List.length_nil];omega))).mono fun e w' q=>.no q
  rw [if_neg e1]
  by_cases e2:W.data.toList=openB
  ·rw [if_pos e2]
   obtain rfl:W=⟨#[111,112,101,110]⟩:=ba_lit e2
   match ns,hns,hr with
   | [v],hns,hr=>
    obtain ⟨b,off,rfl,hc⟩:=row_cell hr (by simp)
    exact (ask_open h ho hs hl hk hB (hc 0 v rfl)).mono fun e w' q=>.yes q
   | [],hns,hr=>exact (ask_no_open h (len_dec 1 (by simp only [List.length_cons,List.length_nil];omega))).mono fun e w' q=>.no q
   | a1 :: a2 :: l,hns,hr=>exact (ask_no_open h (len_dec 1 (by simp only [List.length_cons,List.length_nil];omega))).mono fun e w' q=>.no q
  rw [if_neg e2]
  by_cases e3:W.data.toList=logB
  ·rw [if_pos e3]
   obtain rfl:W=⟨#[108,111,103]⟩:=ba_lit e3
   match ns,hns,hr with
   | [],hns,hr=>
    exact (ask_log h ho hs hl hk hB).mono fun e w' q=>.yes q
   | a1 :: l,hns,hr=>exact (ask_no_log h (len_dec 0 (by simp only [List.length_cons,List.length_nil];omega))).mono fun e w' q=>.no q
  rw [if_neg e3]
  by_cases e4:W.data.toList=thenB
  ·rw [if_pos e4]
   obtain rfl:W=⟨#[116,104,101,110]⟩:=ba_lit e4
   match ns,hns,hr with
   | [v],hns,hr=>
    obtain ⟨b,off,rfl,hc⟩:=row_cell hr (by simp)
    exact (ask_then h ho hs hl hk hB (hc 0 v rfl)).mono fun e w' q=>.yes q
   | [],hns,hr=>exact (ask_no_then h (len_dec 1 (by simp only [List.length_cons,List.length_nil];omega))).mono fun e w' q=>.no q
   | a1 :: a2 :: l,hns,hr=>exact (ask_no_then h (len_dec 1 (by simp only [List.length_cons,List.length_nil];omega))).mono fun e w' q=>.no q
  rw [if_neg e4]
  by_cases e5:W.data.toList=settleB
  ·rw [if_pos e5]
   obtain rfl:W=⟨#[115,101,116,116,108,101]⟩:=ba_lit e5
   match ns,hns,hr with
   | [],hns,hr=>
    exact (ask_settle h ho hs hl hk hB).mono fun e w' q=>.yes q
   | a1 :: l,hns,hr=>exact (ask_no_settle h (len_dec 0 (by simp only [List.length_cons,List.length_nil];omega))).mono fun e w' q=>.no q
  rw [if_neg e5]
  by_cases e6:W.data.toList=leastB
  ·rw [if_pos e6]
   obtain rfl:W=⟨#[108,101,97,115,116]⟩:=ba_lit e6
   match ns,hns,hr with
   | [],hns,hr=>
    exact (ask_least h ho hs hl hk hB).mono fun e w' q=>.yes q
   | a1 :: l,hns,hr=>exact (ask_no_least h (len_dec 0 (by simp only [List.length_cons,List.length_nil];omega))).mono fun e w' q=>.no q
  rw [if_neg e6]
  have hne:∀ l:Str,W.data.toList≠l→W≠⟨l.toArray⟩:=fun l h e=>h (by rw [e])
  exact (ask_no_other h W h2 (hne _ e0) (hne _ e1) (hne _ e2) (hne _ e3) (hne _ e4) (hne _ e5) (hne _ e6)).mono fun e w' q=>.no q
end
end Go.Proofs.YtneoeokfffnonaaGreatDoor
