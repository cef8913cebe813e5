/- The document's desk in memory: what it has told, its town; what it says. -/
import Derived.Test.YtneoeokfffnonaaGreatDoorTnSet
import Derived.Test.YtneoeokfffnonaaGreatDoorDeedO
import Derived.Test.YtneoeokfffnonaaGreatDoorDsText
import Derived.Test.YtneoeokfffnonaaGreatDoorDsOpen
set_option linter.unusedVariables false
set_option linter.unusedSimpArgs false
namespace Go.Proofs.YtneoeokfffnonaaGreatDoor
open Go.RowKit Go
structure RdAt (w:World) (base:Nat) (F:Nat→Prop) (g:Nat) (d:DkM) (t:Str):Prop where
 fg:F g
 foot:∀ k,F k→base≤k∧k < w.heap.size
 rows:∃ gt FT gw,w.heap[g]? = some (.cells #[.string ⟨t.toArray⟩,.pointer (some ⟨gt,0,none⟩)] 48 (0,0))∧TnAt w base FT gt gw d∧∀ k,FT k→F k∧k≠g
def RdP (w:World) (base:Nat) (F:Nat→Prop) (g:Nat) (d:DkM) (t:Str) (w' : World):Prop:=∃ F',RdAt w' base F' g d t∧Moves F w w'∧Grows F w F'
section
variable {w w' : World} {base:Nat} {F:Nat→Prop} {g:Nat} {d:DkM} {t:Str}
theorem RdAt.base_le (h:RdAt w base F g d t):base≤w.heap.size:=by have:=h.foot g h.fg;omega
theorem RdAt.lt (h:RdAt w base F g d t):g < w.heap.size:=(h.foot g h.fg).2
theorem RdAt.moves (h:RdAt w base F g d t) {G:Nat→Prop} (hm:Moves G w w') (hd:∀ k,F k→¬ G k):RdAt w' base F g d t:=by
 obtain ⟨gt,FT,gw,h1,h2,h3⟩:=h.rows
 exact ⟨h.fg,fun k hk=>⟨(h.foot k hk).1,Nat.lt_of_lt_of_le (h.foot k hk).2 hm.size⟩,gt,FT,gw,(hm.block g h.lt (hd g h.fg)).trans h1,h2.moves hm (fun k hk=>hd k (h3 k hk).1),h3⟩
theorem RdAt.later (h:RdAt w base F g d t) (hl:Below w.heap.size w w'):RdAt w' base F g d t:=
 h.moves (Moves.of_below (F:=fun k=>w.heap.size≤k) hl) fun k hk=>by have:=(h.foot k hk).2;omega
theorem RdP.start (h:RdAt w base F g d t) (hb:Below w.heap.size w w'):RdP w base F g d t w':=⟨F,h.later hb,Moves.of_below hb,fun _ hk=>.inl hk⟩
theorem RdP.later {w1 w2:World} (h:RdP w base F g d t w1) (hb:Below w1.heap.size w1 w2):RdP w base F g d t w2:=by
 obtain ⟨F',h1,h2,h3⟩:=h
 exact ⟨F',h1.later hb,h2.trans (Moves.of_below (F:=F) hb) (fun _ _ k=>k),h3⟩
theorem RdP.trans {d1 d2:DkM} {t1 t2:Str} {w1 w2:World} (h:RdP w base F g d1 t1 w1) (k:∀ F1,RdAt w1 base F1 g d1 t1→RdP w1 base F1 g d2 t2 w2):RdP w base F g d2 t2 w2:=by
 obtain ⟨F1,h1,h2,h3⟩:=h
 obtain ⟨F2,k1,k2,k3⟩:=k F1 h1
 exact ⟨F2,k1,movesT h2 h3 k2,growsT h3 h2.size k3⟩
theorem RdP.after {w0 w1:World} (hb:Below w.heap.size w w0) (h:RdP w0 base F g d t w1):RdP w base F g d t w1:=by
 obtain ⟨F',h1,h2,h3⟩:=h
 refine ⟨F',h1,(Moves.of_below (F:=F) hb).trans h2 (fun _ _ k=>k),fun k hk=>?_⟩
 rcases h3 k hk with h | h
 ·exact .inl h
 ·exact .inr (Nat.le_trans hb.size h)
theorem RdP.congr {d1:DkM} {t1:Str} {w1:World} (h:RdP w base F g d t w1) (hd:d=d1) (ht:t=t1):RdP w base F g d1 t1 w1:=hd ▸ ht ▸ h
theorem RdP.mv {w1:World} (h:RdP w base F g d t w1):Moves F w w1:=by
 obtain ⟨F1,_,k2,_⟩:=h
 exact k2
theorem RdP.bel {d0:DkM} {t0:Str} {w1:World} (h:RdP w base F g d t w1) (h0:RdAt w base F g d0 t0):Below base w w1:=h.mv.below (fun k hk=>(h0.foot k hk).1) h0.base_le
theorem RdAt.c0 (h:RdAt w base F g d t):w.cell? ⟨g,0,none⟩=some (.string ⟨t.toArray⟩):=by
 obtain ⟨gt,FT,gw,h1,_,_⟩:=h.rows
 rw [Lib.cell_of_heap h1];rfl
theorem RdAt.fz (h:RdAt w base F g d t) (j:Nat):w.frozen? ⟨g,j,none⟩=false:=by
 obtain ⟨gt,FT,gw,h1,_,_⟩:=h.rows
 exact Lib.frozen_of_heap h1 j
theorem RdAt.townZ (h:RdAt w base F g d t):∃ gt FT gw,w.cell? ⟨g,1,none⟩=some (.pointer (some ⟨gt,0,none⟩))∧TnAt w base FT gt gw d∧
 ∀ (w' : World) (F' : Nat→Prop) (gw' : Nat→Nat) (d' : DkM),TnAt w' base F' gt gw' d'→Moves FT w w'→Grows FT w F'→RdP w base F g d' t w':=by
 obtain ⟨gt,FT,gw,h1,h2,h3⟩:=h.rows
 refine ⟨gt,FT,gw,by rw [Lib.cell_of_heap h1];rfl,h2,fun w' F' gw' d' k1 k2 k3=>⟨fun k=>F k∨F' k,⟨.inl h.fg,fun k hk=>?_,gt,F',gw',(k2.block g h.lt (fun e=>(h3 g e).2 rfl)).trans h1,k1,fun k hk=>⟨.inr hk,?_⟩⟩,movesMono k2 (fun k hk=>(h3 k hk).1),fun k hk=>?_⟩⟩
 ·rcases hk with hk | hk
  ·exact ⟨(h.foot k hk).1,Nat.lt_of_lt_of_le (h.foot k hk).2 k2.size⟩
  ·exact k1.foot k hk
 ·rcases k3 k hk with e | e
  ·exact (h3 k e).2
  ·have:=h.lt;omega
 ·rcases hk with hk | hk
  ·exact .inl hk
  ·rcases k3 k hk with e | e
   ·exact .inl (h3 k e).1
   ·exact .inr e
theorem RdAt.tell (h:RdAt w base F g d t) (t' : Str):RdAt (w.setCell ⟨g,0,none⟩ (.string ⟨t'.toArray⟩)) base F g d t'∧Moves (fun k=>k=g) w (w.setCell ⟨g,0,none⟩ (.string ⟨t'.toArray⟩)):=by
 obtain ⟨gt,FT,gw,h1,h2,h3⟩:=h.rows
 have hm:Moves (fun k=>k=g) w (w.setCell ⟨g,0,none⟩ (.string ⟨t'.toArray⟩)):=Moves.setCell _ _ _ rfl
 refine ⟨⟨h.fg,fun k hk=>⟨(h.foot k hk).1,Nat.lt_of_lt_of_le (h.foot k hk).2 hm.size⟩,gt,FT,gw,?_,h2.moves hm (fun k hk=>(h3 k hk).2),h3⟩,hm⟩
 simp [World.setCell,Array.getElem?_modify,h1]
def RdS (w:World) (base:Nat) (F:Nat→Prop) (g:Nat) (d:DkM) (t:Str) (w' : World):Prop:=RdAt w' base F g d t∧Moves (fun k=>k=g) w w'
theorem RdS.start (h:RdAt w base F g d t) (hb:Below w.heap.size w w'):RdS w base F g d t w':=⟨h.later hb,Moves.of_below hb⟩
theorem RdS.later {w1 w2:World} (h:RdS w base F g d t w1) (hb:Below w1.heap.size w1 w2):RdS w base F g d t w2:=⟨h.1.later hb,h.2.trans (Moves.of_below (F:=fun k=>k=g) hb) (fun _ _ k=>k)⟩
theorem RdS.post {w1:World} (h:RdS w base F g d t w1) (h0:F g):RdP w base F g d t w1:=⟨F,h.1,movesMono h.2 (fun k hk=>by subst hk;exact h0),fun _ hk=>.inl hk⟩
theorem RdS.congr {t1:Str} {w1:World} (h:RdS w base F g d t w1) (ht:t=t1):RdS w base F g d t1 w1:=ht ▸ h
set_option maxRecDepth 100000 in
theorem rsay_c (h:RdAt w base F g d t) (s:ByteArray) (hl:t.length+s.size≤140737488355328) :
 Calls Tryz.prog 33 #[.pointer (some ⟨g,0,none⟩),.string s] w fun e w'=>(∃ u,e=.returned u)∧RdS w base F g d (t++(s.data.toList++[10])) w':=by
 have c0:=h.c0
 have f0:=h.fz 0
 have HT:=Lib.hid (h.tell (t++(s.data.toList++[10])))
 have HS:=Lib.hid (show (⟨t.toArray⟩:ByteArray)++(s++⟨#[10]⟩)=⟨(t++(s.data.toList++[10])).toArray⟩ from ba_ext (by simp))
 have HL:=Lib.hid hl
 clear h hl
 go_enter Tryz.func33,Tryz.ntmps33
 go_wp2
 ·exfalso;have:=HL.out;omega
 ·exfalso;have:=HL.out;omega
 refine bodyPost_end (results_none rfl _ _ _) rfl ?_
 rw [HS.out]
 exact ⟨⟨_,rfl⟩,HT.out⟩
theorem rsayS_c {w1:World} (h:RdS w base F g d t w1) (s:ByteArray) (L:Str) (hL:s.data.toList=L) (hl:t.length+s.size≤140737488355328) :
 Calls Tryz.prog 33 #[.pointer (some ⟨g,0,none⟩),.string s] w1 fun e w'=>(∃ u,e=.returned u)∧RdS w base F g d (t++(L++[10])) w':=by
 subst hL
 refine (rsay_c h.1 s hl).mono ?_
 intro e w' hq
 exact ⟨hq.1,hq.2.1,h.2.trans hq.2.2 (fun _ _ k=>k)⟩
theorem rsayP_c {w1:World} (h:RdP w base F g d t w1) (s:ByteArray) (L:Str) (hL:s.data.toList=L) (hl:t.length+s.size≤140737488355328) :
 Calls Tryz.prog 33 #[.pointer (some ⟨g,0,none⟩),.string s] w1 fun e w'=>(∃ u,e=.returned u)∧RdP w base F g d (t++(L++[10])) w':=by
 subst hL
 obtain ⟨F1,k1,k2,k3⟩:=h
 refine (rsay_c k1 s hl).mono ?_
 intro e w' hq
 obtain ⟨hu,q⟩:=hq
 obtain ⟨F2,q1,q2,q3⟩:=q.post k1.fg
 exact ⟨hu,F2,q1,movesT k2 k3 q2,growsT k3 k2.size q3⟩
theorem RdS.bel {d0:DkM} {t0:Str} {w1:World} (h:RdS w base F g d t w1) (h0:RdAt w base F g d0 t0):Below base w w1:=h.2.below (fun k hk=>by subst hk;exact (h0.foot _ h0.fg).1) h0.base_le
theorem RdP.libK {w1:World} (h:RdP w base F g d t w1) {d0:DkM} {t0:Str} (h0:RdAt w base F g d0 t0) (hB:lowB≤base) (hk:LibK w):LibK w1:=hk.laterB hB (h.bel h0)
end
end Go.Proofs.YtneoeokfffnonaaGreatDoor
set_option linter.unusedVariables false
set_option linter.unusedSimpArgs false
namespace Go.Proofs.YtneoeokfffnonaaGreatDoor
open Go.RowKit Go
section
variable {w w' : World} {base:Nat} {F:Nat→Prop} {g:Nat} {d:DkM} {t:Str}
theorem no_len {c:Int} (h:0≤c∧c≤9):(Lib.itoa c).length≤21:=itoa21 (by unfold i64ok;omega)
theorem no_size (c:Int):((⟨#[110,111,32]⟩:ByteArray)++⟨(Lib.itoa c).toArray⟩).size=3+(Lib.itoa c).length:=by
 rw [ByteArray.size_append];show 3+(Lib.itoa c).toArray.size=_;rw [List.size_toArray]
theorem no_code {c:Int} (h:c≠0):((⟨#[110,111,32]⟩:ByteArray)++⟨(Lib.itoa c).toArray⟩).data.toList=codeL c:=by
 unfold codeL;rw [if_neg h];simp [noB]
set_option maxRecDepth 100000 in
set_option maxHeartbeats 1000000 in
theorem rdo_c (h:RdAt w base F g d t) (ho:d.Ok) (hs:d.Sm 1000) (x:DStep) (hx:x.ok') (hl:t.length≤90000000) (hk:LibK w) (hB:lowB≤base) :
 Calls Tryz.prog 31 #[.pointer (some ⟨g,0,none⟩),.agg #[.int .i64 x.Kind,.int .i64 x.W,.int .i64 x.At,.int .i64 x.Many,.string x.Text]] w fun e w'=>(∃ u,e=.returned u)∧RdP w base F g (d.step x).1 (t++linesS [codeL (d.step x).2]) w':=by
 have hb0:=(Below.refl w.heap.size w).alloc (Nat.le_refl _) (.cells #[.int .i64 x.Kind,.int .i64 x.W,.int .i64 x.At,.int .i64 x.Many,.string x.Text] 76)
 have HB0:=Lib.hid hb0
 have HK0:=Lib.hid (fun (W:World) (d1:DkM) (t1:Str) (q:RdP w base F g d1 t1 W)=>q.libK h hB hk)
 obtain ⟨gt,FT,gw,hc,hd,hz⟩:=(h.later hb0).townZ
 obtain ⟨d2,cd,hst⟩:∃ d2 cd,d.step x=(d2,cd):=⟨_,_,rfl⟩
 have hdo:=TDo_c hd.drew ho hs x hx
 have hsc:=step_code d x
 unfold TDoPost at hdo
 rw [hst] at hdo hsc ⊢
 simp only at hdo hsc ⊢
 have HDO:=Lib.hid hdo
 have HZ:=Lib.hid hz
 have b0:(w.alloc (.cells #[.int .i64 x.Kind,.int .i64 x.W,.int .i64 x.At,.int .i64 x.Many,.string x.Text] 76)).cell? ⟨w.heap.size,0,none⟩=some (.int .i64 x.Kind):=by simp
 have b1:(w.alloc (.cells #[.int .i64 x.Kind,.int .i64 x.W,.int .i64 x.At,.int .i64 x.Many,.string x.Text] 76)).cell? ⟨w.heap.size,1,none⟩=some (.int .i64 x.W):=by simp
 have b2:(w.alloc (.cells #[.int .i64 x.Kind,.int .i64 x.W,.int .i64 x.At,.int .i64 x.Many,.string x.Text] 76)).cell? ⟨w.heap.size,2,none⟩=some (.int .i64 x.At):=by simp
 have b3:(w.alloc (.cells #[.int .i64 x.Kind,.int .i64 x.W,.int .i64 x.At,.int .i64 x.Many,.string x.Text] 76)).cell? ⟨w.heap.size,3,none⟩=some (.int .i64 x.Many):=by simp
 have b4:(w.alloc (.cells #[.int .i64 x.Kind,.int .i64 x.W,.int .i64 x.At,.int .i64 x.Many,.string x.Text] 76)).cell? ⟨w.heap.size,4,none⟩=some (.string x.Text):=by simp
 have HC:=Lib.hid hsc
 have HL:=Lib.hid hl
 clear hb0 h ho hs hx hl hk hd hz hB hst hdo hsc
 go_enter Tryz.func31,Tryz.ntmps31
 go_upto_region 1 with fail
 generalize hw0:w.alloc _=w0
 have hw0' : w.alloc (.cells #[.int .i64 x.Kind,.int .i64 x.W,.int .i64 x.At,.int .i64 x.Many,.string x.Text] 76)=w0:=hw0
 rw [hw0'] at HB0 hc HDO HZ b0 b1 b2 b3 b4
 clear hw0 hw0'
 generalize w.heap.size=X at b0 b1 b2 b3 b4 ⊢
 go_still_tail 5,(by kernel_rfl)
 go_wp2_with fail
 refine HDO.out.mono ?_
 rintro e w2 ⟨rfl,hp⟩
 have HP:=Lib.hid (show RdP w base F g d2 t w2 from by
  obtain ⟨F2,gw2,k1,k2,k3⟩:=TPost.after ((Below.refl w0.heap.size w0).drew) hp
  exact RdP.after HB0.out (HZ.out w2 F2 gw2 _ k1 k2 k3))
 have HK2:=Lib.hid (HK0.out _ _ _ HP.out)
 clear hp HDO HZ HK0 HB0 hc b0 b1 b2 b3 b4
 by_cases h0:cd=0
 ·subst h0
  have HSY:=Lib.hid (rsayP_c HP.out ⟨#[111,107]⟩ okB rfl (by have:=HL.out;show t.length+2≤_;omega))
  clear HP HK2 HC HL
  go_wp2_with fail
  refine HSY.out.mono ?_
  intro e w4 hq
  obtain ⟨⟨u,hu⟩,h4⟩:=hq
  subst hu
  have H4:=Lib.hid h4
  clear h4 HSY
  go_wp2
  refine bodyPost_end (results_none rfl _ _ _) rfl ?_
  exact ⟨⟨_,rfl⟩,H4.out⟩
 ·have h0' : decide (cd=0)=false:=decide_eq_false h0
  have h0n:(cd !=0)=true:=by simpa using h0
  have HIL:=Lib.hid (no_len HC.out)
  have HNC:=Lib.hid (no_code h0)
  go_wp2_with fail
  refine (rnum_c cd (by have:=HC.out;unfold i64ok;omega) w2 HK2.out).mono ?_
  rintro e w3 ⟨rfl,hb3⟩
  have HSY:=Lib.hid (rsayP_c (HP.out.later hb3) (⟨#[110,111,32]⟩++⟨(Lib.itoa cd).toArray⟩) (codeL cd) HNC.out (by have:=HL.out;have:=HIL.out;rw [no_size];omega))
  clear hb3 HP HK2 HC HL HNC
  go_wp2_with fail
  ·exfalso;have:=HIL.out;omega
  refine HSY.out.mono ?_
  intro e w4 hq
  obtain ⟨⟨u,hu⟩,h4⟩:=hq
  subst hu
  have H4:=Lib.hid h4
  clear h4 HSY
  go_wp2
  refine bodyPost_end (results_none rfl _ _ _) rfl ?_
  exact ⟨⟨_,rfl⟩,H4.out⟩
set_option maxRecDepth 100000 in
set_option maxHeartbeats 1000000 in
theorem rdeeds_c (h:RdAt w base F g d t) (ds:List Dd) (hf:∀ u∈ds,deedFault u=0) (hn:ds.length≤1000) (a:Option Addr) (cap:Nat) (hr:∀ W,Moves (fun k=>k=g) w W→SlDd W a cap ds) (hl:t.length≤80000000) (hk:LibK w) (hB:lowB≤base) :
 Calls Tryz.prog 39 #[.pointer (some ⟨g,0,none⟩),.slice a ds.length cap] w fun e w'=>(∃ u,e=.returned u)∧RdS w base F g d (t++linesS (ds.map lineB++[endB])) w':=by
 have HR:=Lib.hid hr
 have HFA:=Lib.hid hf
 have HL:=Lib.hid hl
 have HH:=Lib.hid h
 have HK:=Lib.hid hk
 have HB:=Lib.hid hB
 have HST:=Lib.hid (show RdS w base F g d (t++linesS ((ds.take 0).map lineB)) w from (RdS.start h (Below.refl _ _)).congr (by simp [linesS]))
 clear h hr hf hl hk hB
 go_enter Tryz.func39,Tryz.ntmps39
 go_wp2
 go_loopw [4] (fun s4 wr=>∃ (k:Nat),k≤ds.length∧s4=(.int .i64 (k:Int))∧Hid (RdS w base F g d (t++linesS ((ds.take k).map lineB)) wr)) (fun s4 _=>ds.length - (intOf s4).toNat)
 case atStart=>exact ⟨0,Nat.zero_le _,rfl,HST⟩
 case round=>
  obtain ⟨k,hk,rfl,HS⟩:=hrel
  rename World=>wr
  clear HST
  by_cases hlt:k < ds.length
  ·have hlt' : (k:Int) < (ds.length:Int):=by omega
   have hk0:(0:Int)≤(k:Int):=by omega
   have HKr:=Lib.hid (HK.out.laterB HB.out (HS.out.bel HH.out))
   obtain ⟨b,off,rfl,hc⟩:=(HR.out wr HS.out.2).nth hlt
   obtain ⟨x0,x1,x2,x3,x4,x5,x6⟩:=hc
   have HU:=Lib.hid (HFA.out ds[k] (List.getElem_mem hlt))
   have HLT:=Lib.hid (lines_take ds k hlt)
   have HLE:=Lib.hid (lines_le ds HFA.out hn k)
   generalize ds[k]=u at *
   have HOK:=Lib.hid (ok_of_fault HU.out)
   have HLF:=Lib.hid (lineF_ok HU.out)
   have hw1:IntKind.i64.wrap ((k:Int)+1)=(k:Int)+1:=by rw [IntKind.wrap_i64];omega
   go_wp2_with fail
   refine (LineOf_c u _ HOK.out HKr.out).mono ?_
   rintro e w4 ⟨rfl,hb4⟩
   rw [HLF.out]
   have HSY:=Lib.hid (rsayS_c (HS.out.later hb4) ⟨(lineB u).toArray⟩ (lineB u) rfl (by have:=HL.out;have:=HLE.out;have:=line_len HU.out;rw [List.length_append];show _+(lineB u).toArray.size≤_;rw [List.size_toArray];omega))
   clear hb4 HS HKr x0 x1 x2 x3 x4 x5 x6
   go_wp2_with fail
   refine HSY.out.mono ?_
   intro e w5 hq
   obtain ⟨⟨v,hu⟩,h5⟩:=hq
   subst hu
   have H5:=Lib.hid (show RdS w base F g d (t++linesS ((ds.take (k+1)).map lineB)) w5 from h5.congr (by rw [HLT.out,List.append_assoc]))
   clear h5 HSY
   go_wp2
   exact ⟨⟨k+1,by omega,by go_num,H5⟩,by simp [intOf];omega⟩
  ·obtain rfl:k=ds.length:=by omega
   have hltB:decide ((ds.length:Int) < (ds.length:Int))=false:=by simp
   have HSE:=Lib.hid (show RdS w base F g d (t++linesS (ds.map lineB)) wr from HS.out.congr (by rw [List.take_length]))
   have HLE:=Lib.hid (show (linesS (ds.map lineB)).length≤201000 from by have:=lines_le ds HFA.out hn ds.length;rwa [List.take_length] at this)
   have HSY:=Lib.hid (rsayS_c HSE.out ⟨#[101,110,100]⟩ endB rfl (by have:=HL.out;have:=HLE.out;rw [List.length_append];show _+3≤_;omega))
   clear HS HSE HLE
   go_wp2_with fail
   refine HSY.out.mono ?_
   intro e w5 hq
   obtain ⟨⟨v,hu⟩,h5⟩:=hq
   subst hu
   have H5:=Lib.hid (show RdS w base F g d (t++linesS (ds.map lineB++[endB])) w5 from h5.congr (by rw [linesS_app,List.append_assoc];rfl))
   clear h5 HSY
   go_wp2
   refine bodyPost_end (results_none rfl _ _ _) rfl ?_
   exact ⟨⟨_,rfl⟩,H5.out⟩
set_option maxRecDepth 100000 in
set_option maxHeartbeats 1000000 in
theorem rscribe_none (h:RdAt w base F g d t) (x:Int) (hw:d.writer x=none) (hl:t.length≤80000000) (hk:LibK w) :
 Calls Tryz.prog 35 #[.pointer (some ⟨g,0,none⟩),.int .i64 x] w fun e w'=>e=.returned (.pointer none)∧RdP w base F g d (t++linesS [codeL 5]) w':=by
 obtain ⟨gt,FT,gw,hc,hd,-⟩:=h.townZ
 have HH:=Lib.hid h
 have HK:=Lib.hid hk
 have HL:=Lib.hid hl
 have H5L:=Lib.hid (no_len (c:=5) (by omega))
 have HNC:=Lib.hid (no_code (c:=5) (by omega))
 cases hx:isWriter x with
 | true=>
  obtain ⟨j,hj,rfl⟩:=writer_nat hx
  obtain ⟨_,_,_,rr⟩:=hd.rows
  have c1:=rr.no j hj (by unfold DkM.writer at hw;rw [if_pos hx] at hw;simpa using hw)
  have hj0:(0:Int)≤(j:Int):=by omega
  have hj4:(j:Int) < 4:=by omega
  have HX:=Lib.hid hx
  clear h hk hl hw hd rr hx
  go_enter Tryz.func35,Tryz.ntmps35
  go_wp2_with fail
  refine (IsWriter_c (j:Int) _).mono ?_
  rintro e w1 ⟨rfl,rfl⟩
  rw [HX.out]
  (go_wp2_with fail;refine (rnum_c 5 (by unfold i64ok;omega) _ HK.out).mono ?_;rintro e w3 ⟨rfl,hb3⟩;have HSY:=Lib.hid (rsayP_c (RdP.start HH.out hb3) (⟨#[110,111,32]⟩++⟨(Lib.itoa 5).toArray⟩) (codeL 5) HNC.out (by have:=HL.out;have:=H5L.out;rw [no_size];omega));clear hb3 HH HK HL)
  go_wp2_with fail
  ·exfalso;have:=H5L.out;omega
  refine HSY.out.mono ?_
  intro e w4 hq
  obtain ⟨⟨u,hu⟩,h4⟩:=hq
  subst hu
  have H4:=Lib.hid h4
  clear h4 HSY
  go_wp2
  go_ret
  exact ⟨rfl,H4.out⟩
 | false=>
  have HX:=Lib.hid hx
  clear h hk hl hw hd hx hc
  go_enter Tryz.func35,Tryz.ntmps35
  go_wp2_with fail
  refine (IsWriter_c x _).mono ?_
  rintro e w1 ⟨rfl,rfl⟩
  rw [HX.out]
  (go_wp2_with fail;refine (rnum_c 5 (by unfold i64ok;omega) _ HK.out).mono ?_;rintro e w3 ⟨rfl,hb3⟩;have HSY:=Lib.hid (rsayP_c (RdP.start HH.out hb3) (⟨#[110,111,32]⟩++⟨(Lib.itoa 5).toArray⟩) (codeL 5) HNC.out (by have:=HL.out;have:=H5L.out;rw [no_size];omega));clear hb3 HH HK HL)
  go_wp2_with fail
  ·exfalso;have:=H5L.out;omega
  refine HSY.out.mono ?_
  intro e w4 hq
  obtain ⟨⟨u,hu⟩,h4⟩:=hq
  subst hu
  have H4:=Lib.hid h4
  clear h4 HSY
  go_wp2
  go_ret
  exact ⟨rfl,H4.out⟩
set_option maxRecDepth 100000 in
theorem rscribe_some {gt:Nat} {FT:Nat→Prop} {gw:Nat→Nat} (hc:w.cell? ⟨g,1,none⟩=some (.pointer (some ⟨gt,0,none⟩))) (hd:TnAt w base FT gt gw d) (x:Int) {m:WM} (hw:d.writer x=some m) :
 Calls Tryz.prog 35 #[.pointer (some ⟨g,0,none⟩),.int .i64 x] w fun e w'=>e=.returned (.pointer (some ⟨(gw x.toNat),0,none⟩))∧w'=w:=by
 have hx:isWriter x=true:=by
  cases e:isWriter x
  ·unfold DkM.writer at hw;rw [e] at hw;cases hw
  ·rfl
 obtain ⟨j,hj,rfl⟩:=writer_nat hx
 obtain ⟨_,_,_,rr⟩:=hd.rows
 have c1:=(rr.wr j hj m (by unfold DkM.writer at hw;rw [if_pos hx] at hw;simpa using hw)).1
 have hj0:(0:Int)≤(j:Int):=by omega
 have hj4:(j:Int) < 4:=by omega
 have HX:=Lib.hid hx
 have HG:=Lib.hid (show gw ((j:Int)).toNat=gw j from by simp)
 clear hw hd rr hx
 go_enter Tryz.func35,Tryz.ntmps35
 go_wp2_with fail
 refine (IsWriter_c (j:Int) _).mono ?_
 rintro e w1 ⟨rfl,rfl⟩
 rw [HX.out]
 go_wp2
 go_ret
 exact ⟨by rw [HG.out];rfl,rfl⟩
end
end Go.Proofs.YtneoeokfffnonaaGreatDoor
