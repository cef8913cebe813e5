/- Merged: ScrObj ScrW. -/
import Derived.Test.YtneoeokfffnonaaGreatDoorPlainT
import Derived.Test.YtneoeokfffnonaaGreatDoorRefW
set_option linter.unusedVariables false
set_option linter.unusedSimpArgs false
namespace Go.Proofs.YtneoeokfffnonaaGreatDoor
open Go.RowKit
structure ScV where
 (me seen next:Int) (L:List Ch) (ds:List Dd) (sent:Int)
structure ScrAt (w:World) (base:Nat) (F:Nat→Prop) (g:Nat) (s:ScV):Prop where
 lt:g < w.heap.size
 fg:F g
 foot:∀ k,F k→base≤k∧k < w.heap.size
 fz:∀ o,o < 6→w.frozen? ⟨g,o,none⟩=false
 c0:w.cell? ⟨g,0,none⟩=some (.int .i64 s.me)
 c1:w.cell? ⟨g,1,none⟩=some (.int .i64 s.seen)
 c2:w.cell? ⟨g,2,none⟩=some (.int .i64 s.next)
 c5:w.cell? ⟨g,5,none⟩=some (.int .i64 s.sent)
 rows:∃ a cap oa ocap,w.cell? ⟨g,3,none⟩=some (.slice a s.L.length cap)∧w.cell? ⟨g,4,none⟩=some (.slice oa s.ds.length ocap)∧
  OwnRow w base 125 7 a s.L.length cap (flat s.L)∧OwnRow w base 122 7 oa s.ds.length ocap (flatD s.ds)∧
  (∀ k,ownB a cap=some k→F k∧k≠g)∧(∀ k,ownB oa ocap=some k→F k∧k≠g∧ownB a cap≠some k)
section
variable {w w' : World} {base:Nat} {F:Nat→Prop} {g:Nat} {s:ScV}
theorem ScrAt.base_le (h:ScrAt w base F g s):base≤w.heap.size:=by have:=h.foot g h.fg;omega
theorem ScrAt.moves (h:ScrAt w base F g s) {G:Nat→Prop} (hm:Moves G w w') (hd:∀ k,F k→¬ G k):ScrAt w' base F g s:=by
 have hc:∀ o,w'.cell? ⟨g,o,none⟩=w.cell? ⟨g,o,none⟩:=fun o=>hm.cell h.lt (hd g h.fg) o
 obtain ⟨a,cap,oa,ocap,r0,r1,r2,r3,r4,r5⟩:=h.rows
 exact ⟨Nat.lt_of_lt_of_le h.lt hm.size,h.fg,fun k hk=>⟨(h.foot k hk).1,Nat.lt_of_lt_of_le (h.foot k hk).2 hm.size⟩,fun o ho=>(hm.frozen h.lt (hd g h.fg) o).trans (h.fz o ho),
  (hc _).trans h.c0,(hc _).trans h.c1,(hc _).trans h.c2,(hc _).trans h.c5,
  ⟨a,cap,oa,ocap,(hc _).trans r0,(hc _).trans r1,r2.moves hm fun k hk=>hd k (r4 k hk).1,r3.moves hm fun k hk=>hd k (r5 k hk).1,r4,r5⟩⟩
theorem ScrAt.later (h:ScrAt w base F g s) (hl:Below w.heap.size w w'):ScrAt w' base F g s:=by
 have hb:Moves (fun k=>w.heap.size≤k) w w':=Moves.of_below hl
 exact h.moves hb fun k hk=>by have:=(h.foot k hk).2;omega
theorem ScrAt.drew (h:ScrAt w base F g s):ScrAt w.drew base F g s:=h.moves (G:=fun _=>False) ⟨rfl,rfl,rfl,Nat.le_refl _,fun _ _ _=>rfl⟩ (fun _ _ h=>h)
theorem ScrAt.below (h:ScrAt w base F g s) (hm:Moves F w w'):Below base w w':=hm.below (fun k hk=>(h.foot k hk).1) h.base_le
theorem ScrAt.grow (h:ScrAt w base F g s) {F' : Nat→Prop} (h1:∀ k,F k→F' k) (h2:∀ k,F' k→base≤k∧k < w.heap.size):ScrAt w base F' g s:=by
 obtain ⟨a,cap,oa,ocap,r0,r1,r2,r3,r4,r5⟩:=h.rows
 exact ⟨h.lt,h1 _ h.fg,h2,h.fz,h.c0,h.c1,h.c2,h.c5,⟨a,cap,oa,ocap,r0,r1,r2,r3,fun k hk=>⟨h1 _ (r4 k hk).1,(r4 k hk).2⟩,fun k hk=>⟨h1 _ (r5 k hk).1,(r5 k hk).2⟩⟩⟩
theorem ScrAt.congr {s' : ScV} (h:ScrAt w base F g s) (e:s=s'):ScrAt w base F g s':=e ▸ h
theorem ScrAt.setInt (h:ScrAt w base F g s) (i:Nat) (v:Int) (s' : ScV) (hL:s'.L=s.L) (hD:s'.ds=s.ds) (hi:i≠3∧i≠4)
 (h0:s'.me=if i=0 then v else s.me) (h1:s'.seen=if i=1 then v else s.seen) (h2:s'.next=if i=2 then v else s.next) (h5:s'.sent=if i=5 then v else s.sent):ScrAt (w.setCell ⟨g,i,none⟩ (.int .i64 v)) base F g s':=by
 obtain ⟨a,cap,oa,ocap,r0,r1,r2,r3,r4,r5⟩:=h.rows
 have ho:∀ o,o≠i→(w.setCell ⟨g,i,none⟩ (.int .i64 v)).cell? ⟨g,o,none⟩=w.cell? ⟨g,o,none⟩:=fun o ho=>World.cell?_setCell_other _ _ _ _ (fun e=>ho (by cases e;rfl))
 have key:∀ (o:Nat) (x y:Int),w.cell? ⟨g,o,none⟩=some (.int .i64 x)→y=(if i=o then v else x)→(w.setCell ⟨g,i,none⟩ (.int .i64 v)).cell? ⟨g,o,none⟩=some (.int .i64 y):=fun o x y hx hy=>by
  by_cases e:i=o
  ·subst e;rw [if_pos rfl] at hy;subst hy;exact World.cell?_setCell_same _ _ _ hx
  ·rw [if_neg e] at hy;subst hy;rw [ho o (fun h=>e h.symm)];exact hx
 refine ⟨by simpa using h.lt,h.fg,fun k hk=>⟨(h.foot k hk).1,by simpa using (h.foot k hk).2⟩,fun o ho=>by rw [World.frozen?_setCell];exact h.fz o ho,
  key 0 _ _ h.c0 h0,key 1 _ _ h.c1 h1,key 2 _ _ h.c2 h2,key 5 _ _ h.c5 h5,
  ⟨a,cap,oa,ocap,by rw [ho 3 (by omega),hL];exact r0,by rw [ho 4 (by omega),hD];exact r1,by rw [hL];exact r2.setCell _ _ fun k hk=>(r4 k hk).2,by rw [hD];exact r3.setCell _ _ fun k hk=>(r5 k hk).2.1,r4,r5⟩⟩
theorem ScrAt.setSeen (h:ScrAt w base F g s) (v:Int):ScrAt (w.setCell ⟨g,1,none⟩ (.int .i64 v)) base F g { s with seen:=v }:=h.setInt 1 v _ rfl rfl (by omega) rfl rfl rfl rfl
theorem ScrAt.setNext (h:ScrAt w base F g s) (v:Int):ScrAt (w.setCell ⟨g,2,none⟩ (.int .i64 v)) base F g { s with next:=v }:=h.setInt 2 v _ rfl rfl (by omega) rfl rfl rfl rfl
theorem ScrAt.setSent (h:ScrAt w base F g s) (v:Int):ScrAt (w.setCell ⟨g,5,none⟩ (.int .i64 v)) base F g { s with sent:=v }:=h.setInt 5 v _ rfl rfl (by omega) rfl rfl rfl rfl
theorem ScrAt.setList (h:ScrAt w base F g s) (a2:Option Addr) (cap2:Nat) (l:List Ch) (hr:OwnRow w base 125 7 a2 l.length cap2 (flat l)) (hn:∀ k,ownB a2 cap2=some k→¬ F k) :
 ScrAt (w.setCell ⟨g,3,none⟩ (.slice a2 l.length cap2)) base (fun k=>F k∨ownB a2 cap2=some k) g { s with L:=l }:=by
 obtain ⟨a,cap,oa,ocap,r0,r1,r2,r3,r4,r5⟩:=h.rows
 have ho:∀ o,o≠3→(w.setCell ⟨g,3,none⟩ (.slice a2 l.length cap2)).cell? ⟨g,o,none⟩=w.cell? ⟨g,o,none⟩:=fun o ho=>World.cell?_setCell_other _ _ _ _ (fun e=>ho (by cases e;rfl))
 have h2g:∀ k,ownB a2 cap2=some k→k≠g:=fun k hk e=>hn k hk (e ▸ h.fg)
 refine ⟨by simpa using h.lt,.inl h.fg,fun k hk=>?_,fun o ho=>by rw [World.frozen?_setCell];exact h.fz o ho,
  (ho 0 (by omega)).trans h.c0,(ho 1 (by omega)).trans h.c1,(ho 2 (by omega)).trans h.c2,(ho 5 (by omega)).trans h.c5,
  ⟨a2,cap2,oa,ocap,World.cell?_setCell_same _ _ _ r0,(ho 4 (by omega)).trans r1,hr.setCell _ _ h2g,r3.setCell _ _ fun k hk=>(r5 k hk).2.1,fun k hk=>⟨.inr hk,h2g k hk⟩,fun k hk=>⟨.inl (r5 k hk).1,(r5 k hk).2.1,fun e=>hn k e (r5 k hk).1⟩⟩⟩
 simp only [World.size_setCell]
 rcases hk with hk | hk
 ·exact h.foot k hk
 ·exact hr.base_le k hk
theorem ScrAt.setOpen (h:ScrAt w base F g s) (a2:Option Addr) (cap2:Nat) (ds:List Dd) (hr:OwnRow w base 122 7 a2 ds.length cap2 (flatD ds)) (hn:∀ k,ownB a2 cap2=some k→¬ F k) :
 ScrAt (w.setCell ⟨g,4,none⟩ (.slice a2 ds.length cap2)) base (fun k=>F k∨ownB a2 cap2=some k) g { s with ds:=ds }:=by
 obtain ⟨a,cap,oa,ocap,r0,r1,r2,r3,r4,r5⟩:=h.rows
 have ho:∀ o,o≠4→(w.setCell ⟨g,4,none⟩ (.slice a2 ds.length cap2)).cell? ⟨g,o,none⟩=w.cell? ⟨g,o,none⟩:=fun o ho=>World.cell?_setCell_other _ _ _ _ (fun e=>ho (by cases e;rfl))
 have h2g:∀ k,ownB a2 cap2=some k→k≠g:=fun k hk e=>hn k hk (e ▸ h.fg)
 refine ⟨by simpa using h.lt,.inl h.fg,fun k hk=>?_,fun o ho=>by rw [World.frozen?_setCell];exact h.fz o ho,
  (ho 0 (by omega)).trans h.c0,(ho 1 (by omega)).trans h.c1,(ho 2 (by omega)).trans h.c2,(ho 5 (by omega)).trans h.c5,
  ⟨a,cap,a2,cap2,(ho 3 (by omega)).trans r0,World.cell?_setCell_same _ _ _ r1,r2.setCell _ _ fun k hk=>(r4 k hk).2,hr.setCell _ _ h2g,fun k hk=>⟨.inl (r4 k hk).1,(r4 k hk).2⟩,fun k hk=>⟨.inr hk,h2g k hk,fun e=>hn k hk (r4 k e).1⟩⟩⟩
 simp only [World.size_setCell]
 rcases hk with hk | hk
 ·exact h.foot k hk
 ·exact hr.base_le k hk
end
end Go.Proofs.YtneoeokfffnonaaGreatDoor
namespace Go.Proofs.YtneoeokfffnonaaGreatDoor
open Go.RowKit
theorem chain_at {l:List Ch} {ds:List Dd} (h:Chain l ds) (i:Nat) (hi:i < ds.length):mayDo (apOs l (ds.take i)) ds[i]=0∧apOs l (ds.take (i+1))=apO (apOs l (ds.take i)) ds[i]:=by
 have e:ds=ds.take i++ds[i] :: ds.drop (i+1):=by rw [← List.drop_eq_getElem_cons hi,List.take_append_drop]
 rw [e] at h
 refine ⟨(Chain.append.1 h).2.1,?_⟩
 rw [List.take_succ_eq_append_getElem hi,apOs_append];rfl
theorem apO_doF {l:List Ch} {d:Dd} (h:mayDo l d=0):doF l d 1073741824=(apO l d,0):=doF_ap h (by omega)
theorem NewScribe_c (me next seen:Int) (a:Option Addr) (cap:Nat) (l:List Ch) (w:World) (hs:SlCh w a cap l) (hsz:l.length * 56≤140737488355328) :
 Calls Tryz.prog 97 #[.int .i64 me,.int .i64 next,.int .i64 seen,.slice a l.length cap] w fun e w'=>∃ F g,e=.returned (.pointer (some ⟨g,0,none⟩))∧ScrAt w' w.heap.size F g ⟨me,seen,next,l,[],0⟩∧Below w.heap.size w w':=by
 go_enter Tryz.func97,Tryz.ntmps97
 go_wp2_with fail
 refine (Own_c a cap l _ hs hsz).mono ?_
 rintro e w1 ⟨a1,cap1,rfl,ho1,hb1⟩
 have HO:=Lib.hid ho1
 have HB:=Lib.hid hb1
 clear ho1 hb1 hs
 go_wp2
 go_ret
 have hb2:∀ o,Below w1.heap.size w1 (w1.alloc o):=fun o=>(Below.refl _ _).alloc (Nat.le_refl _) o
 refine ⟨fun k=>k=w1.heap.size∨ownB a1 cap1=some k,w1.heap.size,rfl,?_,HB.out.trans ((hb2 _).mono HB.out.size)⟩
 refine ⟨by simp,.inl rfl,fun k hk=>?_,fun o ho=>by simp,by simp,by simp,by simp,by simp,⟨a1,cap1,none,0,by simp,by simp,HO.out.below (hb2 _),OwnRow.nil _ _ _ _ _,fun k hk=>⟨.inr hk,fun e=>?_⟩,fun k hk=>by simp [ownB] at hk⟩⟩
 ·simp only [World.size_alloc]
  rcases hk with rfl | hk
  ·have:=HB.out.size;omega
  ·have:=HO.out.base_le k hk;omega
 ·have:=(HO.out.base_le k hk).2;omega
theorem ScrAt.above {w w' : World} {base A g:Nat} {F:Nat→Prop} {s:ScV} (h:ScrAt w base F g s) (hb:Below A w w') (hF:∀ k,F k→k < A):ScrAt w' base F g s:=
 h.moves (G:=fun k=>A≤k) ⟨hb.os,hb.tape,hb.output,hb.size,fun k _ hn=>hb.block k (by omega)⟩ (fun k h1 h2=>by have:=hF k h1;omega)
section
variable {w:World} {base:Nat} {F:Nat→Prop} {g:Nat} {s:ScV}
set_option maxHeartbeats 400000 in
theorem SChars_c (h:ScrAt w base F g s) (hc:Chain s.L s.ds) (hG:∀ c∈s.L,i64ok c.Gone) (hl:s.L.length≤1000) (hd:s.ds.length≤1000000) :
 Calls Tryz.prog 64 #[.pointer (some ⟨g,0,none⟩)] w fun e w'=>∃ a' cap',e=.returned (.slice a' (apOs s.L s.ds).length cap')∧
  SlCh w' a' cap' (apOs s.L s.ds)∧(a'=none→cap'=0)∧Below w.heap.size w w':=by
 have HA:=Lib.hid h
 obtain ⟨a,cap,oa,ocap,r0,r1,r2,r3,r4,r5⟩:=h.rows
 have HSL:=Lib.hid r2.slCh
 have HNL:=Lib.hid r2.nilcap
 have HSD:=Lib.hid r3.slDd
 have HCA:=Lib.hid (fun i hi=>chain_at hc i hi)
 have HG:=Lib.hid hG
 have hglt:=h.lt
 clear r2 r3 r4 r5 h hc hG
 go_enter Tryz.func64,Tryz.ntmps64
 go_wp2
 go_loopw [3,4] (fun s3 s4 wr=>∃ (i:Nat) (a' : Option Addr) (cap' : Nat),i≤s.ds.length∧s4=(.int .i64 i)∧s3=.slice a' (apOs s.L (s.ds.take i)).length cap'∧Hid (SlCh wr a' cap' (apOs s.L (s.ds.take i))∧(a'=none→cap'=0)∧(∀ c∈apOs s.L (s.ds.take i),i64ok c.Gone)∧(apOs s.L (s.ds.take i)).length≤1000)∧Below w.heap.size w wr) (fun _ s4 _=>s.ds.length - (intOf s4).toNat)
 case atStart=>exact ⟨0,a,cap,Nat.zero_le _,rfl,rfl,Lib.hid ⟨HSL.out,HNL.out,HG.out,hl⟩,Below.refl _ _⟩
 case round=>
  obtain ⟨i,a',cap',hi,rfl,rfl,HS,hb⟩:=hrel
  have r0':=(hb.cell (p:=⟨g,3,none⟩) hglt).trans r0
  have r1':=(hb.cell (p:=⟨g,4,none⟩) hglt).trans r1
  by_cases hlt:i < s.ds.length
  ·obtain ⟨hm,he⟩:=HCA.out i hlt
   have HDr:=HSD.out.below hb
   obtain ⟨bb,off,rfl,q0,q1,q2,q3,q4,q5,q6⟩:=HDr.nth hlt
   have HM:=Lib.hid hm;have HE:=Lib.hid he
   have hlt' : (i:Int) < s.ds.length:=by omega
   have hi0:(0:Int)≤(i:Int):=by omega
   have hltB:decide ((i:Int) < (s.ds.length:Int))=true:=decide_eq_true hlt'
   have hltN:decide (i < s.ds.length)=true:=decide_eq_true hlt
   have hll:=HS.out.2.2.2
   clear hm he HDr
   generalize apOs s.L (s.ds.take i)=L1 at *
   generalize hx:s.ds[i]=d at *
   clear hx
   have hdt:d.Text.size≤maxLen:=by
    rcases (deedFault_zero (mayDo_zero HM.out).1).2.2.2.2.2.2.2 with ⟨_,_,h⟩ | ⟨_,_,_,h⟩
    ·unfold textOk at h;simp only [Bool.and_eq_true,decide_eq_true_eq] at h;unfold maxLen;omega
    ·unfold maxLen;omega
   have HDT:=Lib.hid hdt;clear hdt
   go_wp2_with fail
   refine (RDo_c a' cap' L1 d 1073741824 _ HS.out.1 HS.out.2.1 (by omega) HDT.out HS.out.2.2.1).mono ?_
   rintro e w2 ⟨a2,cap2,rfl,ho2,hb2⟩
   have HN:=Lib.hid (show SlCh w2 a2 cap2 (apOs s.L (s.ds.take (i+1)))∧(a2=none→cap2=0)∧(∀ c∈apOs s.L (s.ds.take (i+1)),i64ok c.Gone)∧(apOs s.L (s.ds.take (i+1))).length≤1000 from by
    have e:=apO_doF HM.out
    rw [HE.out]
    have h1:=ho2.slCh
    have h3:=doF_gone L1 d 1073741824 HS.out.2.2.1
    have h4:=doF_len L1 d 1073741824
    rw [e] at h1 h3 h4
    exact ⟨h1,ho2.nilcap,h3,Nat.le_trans h4 (by omega)⟩)
   have HLE:=Lib.hid (show (doF L1 d 1073741824).1.length=(apOs s.L (s.ds.take (i+1))).length from by rw [apO_doF HM.out,HE.out])
   have hbn:=hb.trans (hb2.mono hb.size)
   clear ho2 hb2 hb HS q0 q1 q2 q3 q4 q5 q6 r0' r1' hll
   rw [HLE.out]
   go_wp2
   exact ⟨⟨i+1,a2,cap2,by omega,by go_num,rfl,HN,hbn⟩,by simp [intOf];omega⟩
  ·obtain rfl:i=s.ds.length:=by omega
   have hltB:decide ((s.ds.length:Int) < (s.ds.length:Int))=false:=by simp
   rw [List.take_length] at HS ⊢
   go_wp2
   go_ret
   exact ⟨a',cap',rfl,HS.out.1,HS.out.2.1,hb⟩
theorem SClear_c (h:ScrAt w base F g s) (least:Int) (hl:s.L.length≤1000) :
 Calls Tryz.prog 105 #[.pointer (some ⟨g,0,none⟩),.int .i64 least] w fun e w'=>(∃ v,e=.returned v)∧∃ F',ScrAt w' base F' g { s with L:=clearOf least s.L }∧Moves F w w'∧Grows F w F':=by
 have HA:=Lib.hid h
 obtain ⟨a,cap,oa,ocap,r0,r1,r2,r3,r4,r5⟩:=h.rows
 have HSL:=Lib.hid r2.slCh
 have hglt:=h.lt
 have f3:=h.fz 3 (by omega)
 clear r1 r2 r3 r4 r5 h
 go_enter Tryz.func105,Tryz.ntmps105
 go_wp2_with fail
 refine (ClearOf_c a cap s.L least _ HSL.out (by omega)).mono ?_
 rintro e w1 ⟨a1,cap1,rfl,ho1,hb1⟩
 have r0:=(hb1.cell (p:=⟨g,3,none⟩) hglt).trans r0
 have f3:=(hb1.frozen (p:=⟨g,3,none⟩) hglt).trans f3
 have HA1:=Lib.hid (HA.out.later hb1)
 have hnF:∀ k,ownB a1 cap1=some k→¬ F k:=fun k hk hf=>by have:=(ho1.base_le k hk).1;have:=(HA.out.foot k hf).2;omega
 have HE:=Lib.hid (HA1.out.setList a1 cap1 (clearOf least s.L) (ho1.mono HA.out.base_le) hnF)
 have HM:=Lib.hid ((Moves.of_below (F:=F) hb1).trans (Moves.setCell w1 ⟨g,3,none⟩ (.slice a1 (clearOf least s.L).length cap1) HA.out.fg) (fun _ _ k=>k))
 have HG:=Lib.hid (show Grows F w (fun k=>F k∨ownB a1 cap1=some k) from fun k hk=>by
  rcases hk with hk | hk
  ·exact .inl hk
  ·exact .inr (ho1.base_le k hk).1)
 clear ho1 hb1 hnF HA HSL
 go_wp2
 refine bodyPost_end (results_none rfl _ _ _) rfl ?_
 exact ⟨⟨_,rfl⟩,_,HE.out,HM.out,HG.out⟩
def SSendPost (w:World) (base:Nat) (F:Nat→Prop) (g:Nat) (s:ScV) (n:Nat) (e:Ending) (w' : World):Prop:=
 Below base w w'∧Moves F w w'∧((s.ds.length≤n∧e=.returned (.tuple #[.agg #[.int .i64 zD.Kind,.int .i64 zD.By,.int .i64 zD.No,.int .i64 zD.Seen,.int .i64 zD.At,.int .i64 zD.Many,.string zD.Text],.bool false])∧ScrAt w' base F g s)∨∃ (h:n < s.ds.length),e=.returned (.tuple #[.agg #[.int .i64 s.ds[n].Kind,.int .i64 s.ds[n].By,.int .i64 s.ds[n].No,.int .i64 s.ds[n].Seen,.int .i64 s.ds[n].At,.int .i64 s.ds[n].Many,.string s.ds[n].Text],.bool true])∧ScrAt w' base F g { s with sent:=(n:Int)+1 })
set_option maxHeartbeats 600000 in
theorem SSend_c (h:ScrAt w base F g s) (n:Nat) (hn:s.sent=n) (hd:s.ds.length≤1000000) (hnd:n≤s.ds.length) :
 Calls Tryz.prog 99 #[.pointer (some ⟨g,0,none⟩)] w (SSendPost w base F g s n):=by
 have hb0:=(Below.refl w.heap.size w).alloc (Nat.le_refl _) (.cells #[.int .i64 zD.Kind,.int .i64 zD.By,.int .i64 zD.No,.int .i64 zD.Seen,.int .i64 zD.At,.int .i64 zD.Many,.string zD.Text] 122)
 have HA0:=Lib.hid (h.later hb0)
 have HD0:=Lib.hid (DdAt.new w zD)
 have HF0:=Lib.hid (show ∀ j,j < 7→(w.alloc (.cells #[.int .i64 zD.Kind,.int .i64 zD.By,.int .i64 zD.No,.int .i64 zD.Seen,.int .i64 zD.At,.int .i64 zD.Many,.string zD.Text] 122)).frozen? ⟨w.heap.size,j,none⟩=false from fun j _=>by simp)
 have HM0:=Lib.hid (Moves.of_below (F:=F) hb0)
 have HNF:=Lib.hid (show ¬ F w.heap.size from fun hf=>Nat.lt_irrefl _ (h.foot _ hf).2)
 have hbs:=h.base_le
 have HFX:=Lib.hid (show ∀ k,F k→k < w.heap.size from fun k hk=>(h.foot k hk).2)
 have HB0:=Lib.hid (hb0.mono hbs)
 have HFG:=Lib.hid h.fg
 have HN:=Lib.hid hn
 clear h hn hb0
 go_enter Tryz.func99,Tryz.ntmps99
 go_upto_region 1 with fail
 generalize hw0:w.alloc _=w0
 have hw0' : w.alloc (.cells #[.int .i64 zD.Kind,.int .i64 zD.By,.int .i64 zD.No,.int .i64 zD.Seen,.int .i64 zD.At,.int .i64 zD.Many,.string zD.Text] 122)=w0:=hw0
 rw [hw0'] at HA0 HD0 HF0 HM0 HB0
 clear hw0 hw0'
 obtain ⟨X,hX⟩:∃ X,X=w.heap.size:=⟨_,rfl⟩
 rw [← hX] at HD0 HF0 HNF ⊢
 have hXB:base≤X:=by omega
 have HXW:=Lib.hid hX
 have hXl:X < w0.heap.size:=HD0.out.lt
 clear hX
 obtain ⟨a,cap,oa,ocap,r0,r1,r2,r3,r4,r5⟩:=HA0.out.rows
 have c5:=HA0.out.c5
 rw [HN.out] at c5
 clear r0 r2 r4
 by_cases hz:s.ds.length≤n
 ·have hzB:decide ((s.ds.length:Int)≤(n:Int))=true:=decide_eq_true (by omega)
  have hzN:decide (s.ds.length≤n)=true:=decide_eq_true hz
  go_quiet (fail)
  have hL1:Later w0 (w0.drewN nq):=bl_drewN (Below.refl _ _) nq
  clear r1 r3 r5 c5
  generalize w0.drewN nq=w1 at *
  have HA1:=Lib.hid (HA0.out.later hL1)
  have HD1:=Lib.hid (HD0.out.later hL1)
  have HB1:=Lib.hid (HB0.out.trans (Below.mono hL1 HA0.out.base_le))
  have HM1:=Lib.hid (HM0.out.trans (Moves.of_below (F:=F) hL1) (fun _ _ k=>k))
  have HF1:=Lib.hid (fun j (hj:j < 7)=>(Below.frozen hL1 (p:=⟨X,j,none⟩) HD0.out.lt).trans (HF0.out j hj))
  have HP:=Lib.hid (HD1.out.putAll zD)
  have HBP:=Lib.hid (putDd_below zD (Below.refl X w1) (Nat.le_refl _))
  obtain ⟨dlt,d0,d1,d2,d3,d4,d5,d6⟩:=HD1.out
  have f0:=HF1.out 0 (by omega)
  have f1:=HF1.out 1 (by omega)
  have f2:=HF1.out 2 (by omega)
  have f3:=HF1.out 3 (by omega)
  have f4:=HF1.out 4 (by omega)
  have f5:=HF1.out 5 (by omega)
  have f6:=HF1.out 6 (by omega)
  clear hL1
  go_wp2
  change bodyPost _ _ _ _ _ (putDd w1 X zD)
  obtain ⟨_,p0,p1,p2,p3,p4,p5,p6⟩:=HP.out
  refine bodyPost_ret (v:=.tuple #[.agg #[.int .i64 zD.Kind,.int .i64 zD.By,.int .i64 zD.No,.int .i64 zD.Seen,.int .i64 zD.At,.int .i64 zD.Many,.string zD.Text],.bool false]) (by simp [results,Tryz.results99,go_sem,p0,p1,p2,p3,p4,p5,p6]) rfl ?_
  exact ⟨HB1.out.trans (HBP.out.mono hXB),HM1.out.above (HBP.out.mono (Nat.le_of_eq HXW.out.symm)),.inl ⟨hz,rfl,HA1.out.above HBP.out (by rw [HXW.out];exact HFX.out)⟩⟩
 ·have hzB:decide ((s.ds.length:Int)≤(n:Int))=false:=decide_eq_false (by omega)
  have hzN:decide (s.ds.length≤n)=false:=decide_eq_false hz
  have hnl:n < s.ds.length:=by omega
  have hnl' : (n:Int) < s.ds.length:=by omega
  have hn0:(0:Int)≤(n:Int):=by omega
  have hinc:IntKind.i64.wrap ((n:Int)+1)=(n:Int)+1:=by rw [IntKind.wrap_i64];omega
  have hdec:IntKind.i64.wrap ((n:Int)+1 - 1)=(n:Int):=by rw [IntKind.wrap_i64];omega
  go_quiet (fail)
  have hL1:Later w0 (w0.drewN nq):=bl_drewN (Below.refl _ _) nq
  clear r1 r3 r5 c5
  generalize w0.drewN nq=w1 at *
  have HA1:=Lib.hid (HA0.out.later hL1)
  have HD1:=Lib.hid (HD0.out.later hL1)
  have HB1:=Lib.hid (HB0.out.trans (Below.mono hL1 HA0.out.base_le))
  have HM1:=Lib.hid (HM0.out.trans (Moves.of_below (F:=F) hL1) (fun _ _ k=>k))
  have HF1:=Lib.hid (fun j (hj:j < 7)=>(Below.frozen hL1 (p:=⟨X,j,none⟩) HD0.out.lt).trans (HF0.out j hj))
  have c5:=HA1.out.c5
  rw [HN.out] at c5
  have g5:=HA1.out.fz 5 (by omega)
  clear hL1
  have HA2:=Lib.hid (HA1.out.setSent ((n:Int)+1))
  have HD2:=Lib.hid (HD1.out.of_block (w':=w1.setCell ⟨g,5,none⟩ (.int .i64 ((n:Int)+1))) (by simp) (Below.heap_setCell w1 ⟨g,5,none⟩ _ _ (fun e=>HNF.out (by simp at e;rw [e];exact HFG.out))))
  have HM2:=Lib.hid (HM1.out.trans (Moves.setCell w1 ⟨g,5,none⟩ (.int .i64 ((n:Int)+1)) HFG.out) (fun _ _ k=>k))
  have HB2:=Lib.hid (show Below base w (w1.setCell ⟨g,5,none⟩ (.int .i64 ((n:Int)+1))) from HB1.out.setCell (p:=⟨g,5,none⟩) (HA1.out.foot g HFG.out).1 _)
  have HF2:=Lib.hid (fun j (hj:j < 7)=>show (w1.setCell ⟨g,5,none⟩ (.int .i64 ((n:Int)+1))).frozen? ⟨X,j,none⟩=false from (World.frozen?_setCell _ _ _ _).trans (HF1.out j hj))
  go_upto_region 4 with fail
  generalize w1.setCell ⟨g,5,none⟩ (.int .i64 ((n:Int)+1))=w2 at *
  clear c5 g5
  obtain ⟨a,cap,oa,ocap,r0,r1,r2,r3,r4,r5⟩:=HA2.out.rows
  have r1:w2.cell? ⟨g,4,none⟩=some (.slice oa s.ds.length ocap):=r1
  have c5:w2.cell? ⟨g,5,none⟩=some (.int .i64 ((n:Int)+1)):=HA2.out.c5
  obtain ⟨bb,off,rfl,q0,q1,q2,q3,q4,q5,q6⟩:=(show SlDd w2 oa ocap s.ds from r3.slDd).nth hnl
  have hocl:s.ds.length≤ocap:=r3.le
  have HDN:=Lib.hid (show ∃ d,d=s.ds[n] from ⟨_,rfl⟩)
  clear r0 r2 r3 r4 r5
  obtain ⟨d,hd⟩:=HDN.out
  rw [← hd] at q0 q1 q2 q3 q4 q5 q6
  have HDE:=Lib.hid hd
  clear hd HDN
  have HP:=Lib.hid (HD2.out.putAll d)
  have HBP:=Lib.hid (putDd_below d (Below.refl X w2) (Nat.le_refl _))
  obtain ⟨dlt,d0,d1,d2,d3,d4,d5,d6⟩:=HD2.out
  have f0:=HF2.out 0 (by omega)
  have f1:=HF2.out 1 (by omega)
  have f2:=HF2.out 2 (by omega)
  have f3:=HF2.out 3 (by omega)
  have f4:=HF2.out 4 (by omega)
  have f5:=HF2.out 5 (by omega)
  have f6:=HF2.out 6 (by omega)
  go_region
  go_wp2
  change bodyPost _ _ _ _ _ (putDd w2 X d).drew
  have hpd:Below (putDd w2 X d).heap.size (putDd w2 X d) (putDd w2 X d).drew:=below_drew _ _
  obtain ⟨_,p0,p1,p2,p3,p4,p5,p6⟩:=HP.out.later hpd
  refine bodyPost_ret (v:=.tuple #[.agg #[.int .i64 d.Kind,.int .i64 d.By,.int .i64 d.No,.int .i64 d.Seen,.int .i64 d.At,.int .i64 d.Many,.string d.Text],.bool true]) (by simp [results,Tryz.results99,go_sem,p0,p1,p2,p3,p4,p5,p6]) rfl ?_
  have hbz:Below X w2 (putDd w2 X d).drew:=HBP.out.trans (below_drew _ _)
  unfold SSendPost
  refine ⟨HB2.out.trans (hbz.mono hXB),HM2.out.above (hbz.mono (Nat.le_of_eq HXW.out.symm)),Or.inr (Exists.intro hnl (And.intro ?_ ?_))⟩
  ·rw [← HDE.out]
  ·exact HA2.out.above hbz (by rw [HXW.out];exact HFX.out)
end
end Go.Proofs.YtneoeokfffnonaaGreatDoor
