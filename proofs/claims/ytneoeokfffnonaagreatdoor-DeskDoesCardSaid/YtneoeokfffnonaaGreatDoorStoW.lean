/- Merged: StoObj StoW StoB. -/
import Derived.Test.YtneoeokfffnonaaGreatDoorDkC
set_option linter.unusedVariables false
set_option linter.unusedSimpArgs false
namespace Go.Proofs.YtneoeokfffnonaaGreatDoor
open Go.RowKit
structure StE where
 (a:Option Addr) (cap:Nat) (l:List Ch)
def StE.cell (e:StE):Value:=.slice e.a e.l.length e.cap
structure StoAt (w:World) (g:Nat) (L:List Dd):Prop where
 lt:g < w.heap.size
 rows:∃ b off cap,w.cell? ⟨g,0,none⟩=some (.slice (some ⟨b,off,none⟩) (L.length+1) cap)∧b < w.heap.size∧L.length+1≤cap∧cap≤maxLen∧
  ∀ i,i≤L.length→∃ a c,w.cell? ⟨b,off+i,none⟩=some (.slice a (pre L i).length c)∧SlCh w a c (pre L i)
theorem StoAt.later {w w' : World} {g:Nat} {L:List Dd} (h:StoAt w g L) (hl:Below w.heap.size w w'):StoAt w' g L:=by
 obtain ⟨b,off,cap,h1,h2,h3,h4,h5⟩:=h.rows
 refine ⟨Nat.lt_of_lt_of_le h.lt hl.size,b,off,cap,(hl.cell (p:=⟨g,0,none⟩) h.lt).trans h1,Nat.lt_of_lt_of_le h2 hl.size,h3,h4,fun i hi=>?_⟩
 obtain ⟨a,c,k1,k2⟩:=h5 i hi
 exact ⟨a,c,(hl.cell (p:=⟨b,off+i,none⟩) h2).trans k1,k2.below hl⟩
structure StoIn (w:World) (base g:Nat) (L:List Dd) (k:Nat) (sa:Option Addr) (scap:Nat) (es:List StE):Prop where
 lt:base≤g∧g < w.heap.size
 fz:w.frozen? ⟨g,0,none⟩=false
 ls:es.map StE.l=(List.range (k+1)).map (pre L)
 c0:w.cell? ⟨g,0,none⟩=some (.slice sa (k+1) scap)
 own:OwnRow w base 91 1 sa (k+1) scap (es.map StE.cell)
 ng:ownB sa scap≠some g
 rt:∀ e∈es,OwnRow w base 125 7 e.a e.l.length e.cap (flat e.l)∧∀ i,ownB e.a e.cap=some i→i≠g∧ownB sa scap≠some i
theorem StoIn.len {w:World} {base g:Nat} {L:List Dd} {k:Nat} {sa:Option Addr} {scap:Nat} {es:List StE} (h:StoIn w base g L k sa scap es):es.length=k+1:=by
 have:=congrArg List.length h.ls;simpa using this
theorem StoIn.get {w:World} {base g:Nat} {L:List Dd} {k:Nat} {sa:Option Addr} {scap:Nat} {es:List StE} (h:StoIn w base g L k sa scap es) (i:Nat) (hi:i < es.length):es[i].l=pre L i:=by
 have e:(es.map StE.l)[i]'(by simpa using hi)=((List.range (k+1)).map (pre L))[i]'(by have:=h.len;simp;omega):=by simp only [h.ls]
 simpa using e
theorem StoIn.later {w w' : World} {base g:Nat} {L:List Dd} {k:Nat} {sa:Option Addr} {scap:Nat} {es:List StE} (h:StoIn w base g L k sa scap es) (hl:Below w.heap.size w w'):StoIn w' base g L k sa scap es:=
 ⟨⟨h.lt.1,Nat.lt_of_lt_of_le h.lt.2 hl.size⟩,(hl.frozen (p:=⟨g,0,none⟩) h.lt.2).trans h.fz,h.ls,(hl.cell (p:=⟨g,0,none⟩) h.lt.2).trans h.c0,h.own.below hl,h.ng,fun e he=>⟨(h.rt e he).1.below hl,(h.rt e he).2⟩⟩
theorem StoIn.moves {w w' : World} {F:Nat→Prop} {base g:Nat} {L:List Dd} {k:Nat} {sa:Option Addr} {scap:Nat} {es:List StE} (h:StoIn w base g L k sa scap es) (hm:Moves F w w') (hF:∀ i,F i→i < base):StoIn w' base g L k sa scap es:=
 have hg:¬ F g:=fun e=>by have:=hF g e;have:=h.lt.1;omega
 ⟨⟨h.lt.1,Nat.lt_of_lt_of_le h.lt.2 hm.size⟩,(hm.frozen h.lt.2 hg 0).trans h.fz,h.ls,(hm.cell h.lt.2 hg 0).trans h.c0,h.own.moves hm (fun i hi e=>by have:=(h.own.base_le i hi).1;have:=hF i e;omega),h.ng,
   fun e he=>⟨(h.rt e he).1.moves hm (fun i hi e'=>by have:=((h.rt e he).1.base_le i hi).1;have:=hF i e';omega),(h.rt e he).2⟩⟩
theorem StoIn.grown {w w6:World} {base g:Nat} {L:List Dd} {k:Nat} {sa a6:Option Addr} {scap cap6:Nat} {es:List StE} {E:StE} (h:StoIn w base g L k sa scap es) (hE:E.l=pre L (k+1))
 (hrt:OwnRow w base 125 7 E.a E.l.length E.cap (flat E.l)) (hft:∀ i,ownB E.a E.cap=some i→i≠g∧ownB sa scap≠some i)
 (hrow:OwnRow w6 base 91 1 a6 (k+1+1) cap6 (es.map StE.cell++[E.cell])) (hgr:w.grownBy w6 (ownB sa scap)) (hnew:∀ i,ownB a6 cap6=some i→ownB sa scap=some i∨w.heap.size≤i) :
 StoIn (w6.setCell ⟨g,0,none⟩ (.slice a6 (k+1+1) cap6)) base g L (k+1) a6 cap6 (es++[E]):=by
 have hm:Moves (fun i=>ownB sa scap=some i) w w6:=Moves.of_grown hgr fun i hi=>hi
 have hc:w6.cell? ⟨g,0,none⟩=w.cell? ⟨g,0,none⟩:=hm.cell h.lt.2 h.ng 0
 have h6g:∀ i,ownB a6 cap6=some i→i≠g:=fun i hi e=>by
  rcases hnew i hi with h1 | h1
  ·exact h.ng (e ▸ h1)
  ·have:=h.lt.2;omega
 have h6t:∀ e:StE,(∀ i,ownB e.a e.cap=some i→ownB sa scap≠some i∧i < w.heap.size)→∀ i,ownB e.a e.cap=some i→ownB a6 cap6≠some i:=fun e he i hi e6=>by
  rcases hnew i e6 with h1 | h1
  ·exact (he i hi).1 h1
  ·have:=(he i hi).2;omega
 refine ⟨⟨h.lt.1,by simpa using Nat.lt_of_lt_of_le h.lt.2 hm.size⟩,by rw [World.frozen?_setCell];exact (hm.frozen h.lt.2 h.ng 0).trans h.fz,?_,World.cell?_setCell_same _ _ _ (hc.trans h.c0),?_,fun e=>h6g g e rfl,fun e he=>?_⟩
 ·rw [List.map_append,h.ls,List.range_succ (n:=k+1),List.map_append]
  simp [hE]
 ·rw [List.map_append]
  exact hrow.setCell _ _ h6g
 ·have key:∀ e:StE,OwnRow w base 125 7 e.a e.l.length e.cap (flat e.l)→(∀ i,ownB e.a e.cap=some i→i≠g∧ownB sa scap≠some i)→
   OwnRow (w6.setCell ⟨g,0,none⟩ (.slice a6 (k+1+1) cap6)) base 125 7 e.a e.l.length e.cap (flat e.l)∧∀ i,ownB e.a e.cap=some i→i≠g∧ownB a6 cap6≠some i:=fun e h1 h2=>
   ⟨(h1.moves hm fun i hi=>(h2 i hi).2).setCell _ _ fun i hi=>(h2 i hi).1,fun i hi=>⟨(h2 i hi).1,h6t e (fun i hi=>⟨(h2 i hi).2,(h1.base_le i hi).2⟩) i hi⟩⟩
  rcases List.mem_append.1 he with he | he
  ·exact key e (h.rt e he).1 (h.rt e he).2
  ·simp only [List.mem_singleton] at he;subst he
   exact key e hrt hft
theorem StoIn.done {w:World} {base g:Nat} {L:List Dd} {sa:Option Addr} {scap:Nat} {es:List StE} (h:StoIn w base g L L.length sa scap es):StoAt w g L:=by
 have hlen:=h.len
 obtain ⟨b,off,e,hb,hlt,hcell⟩:=h.own.cell (by simp;omega)
 subst e
 refine ⟨h.lt.2,b,off,scap,h.c0,hlt,h.own.le,h.own.max,fun i hi=>?_⟩
 have hi' : i < es.length:=by omega
 refine ⟨es[i].a,es[i].cap,?_,?_⟩
 ·have:=hcell i es[i].cell (by simp [hi'])
  rw [this];unfold StE.cell;rw [h.get i hi']
 ·have:=(h.rt es[i] (List.getElem_mem hi')).1.slCh
  rw [h.get i hi'] at this
  exact this
end Go.Proofs.YtneoeokfffnonaaGreatDoor
namespace Go.Proofs.YtneoeokfffnonaaGreatDoor
open Go.RowKit
theorem ti_Chars:TInfo Tryz.prog 91 1 24:=.mk (z:=.slice none 0 0) (by kernel_rfl) rfl (by decide)
theorem StoIn.start (w:World) (L:List Dd) (w1:World) (hw1:(w.alloc (.cells #[.slice none 0 0] 91)).alloc (.cells #[.slice (some ⟨w.heap.size,0,none⟩) 1 1] 177)=w1) :
 StoIn w1 w.heap.size (w.heap.size+1) L 0 (some ⟨w.heap.size,0,none⟩) 1 [⟨none,0,[]⟩]∧Below w.heap.size w w1:=by
 subst hw1
 have hb:∀ o o' : Obj,Below w.heap.size w ((w.alloc o).alloc o'):=fun o o'=>((Below.refl _ _).alloc (Nat.le_refl _) o).alloc (by simp) o'
 refine ⟨⟨⟨by omega,by simp⟩,by simp,rfl,?_,?_,?_,fun e he=>?_⟩,hb _ _⟩
 ·have h1:(w.alloc (.cells #[.slice none 0 0] 91)).heap.size=w.heap.size+1:=by simp
  rw [← h1,World.cell?_alloc_new];rfl
 ·refine OwnRow.alloc ?_ _
  refine ⟨Nat.le_refl _,by unfold maxLen;omega,rfl,.inr ⟨w.heap.size,0,#[.slice none 0 0],rfl,Nat.le_refl _,(MapKept.heap_alloc w _).1,by simp,rfl⟩⟩
 ·simp [ownB]
 ·simp only [List.mem_singleton] at he;subst he
  exact ⟨OwnRow.nil _ _ _ _ _,fun i hi=>by simp [ownB] at hi⟩
set_option maxRecDepth 100000 in
set_option maxHeartbeats 1000000 in
theorem StOf_in {w:World} {base:Nat} {F:Nat→Prop} {gl:Nat} {m:LogM} (hl:LogAt w base F gl m) (ho:m.Ok) :
 Calls Tryz.prog 91 #[.pointer (some ⟨gl,0,none⟩)] w fun e w'=>∃ gs,e=.returned (.pointer (some ⟨gs,0,none⟩))∧(∃ sa sc es,StoIn w' w.heap.size gs m.L m.L.length sa sc es)∧Below w.heap.size w w':=by
 have HLG:=Lib.hid hl
 have hlen:=ho.len
 have HLO:=Lib.hid ho.lok
 have HOA:=Lib.hid ho.all
 clear hl ho
 go_enter Tryz.func91,Tryz.ntmps91
 go_upto_region 2 with fail
 generalize hw1:World.alloc (World.alloc w _) _=w1
 obtain ⟨hI,hb1⟩:=StoIn.start w m.L w1 hw1
 have HI:=Lib.hid hI
 have HB1:=Lib.hid hb1
 clear hw1 hI hb1
 obtain ⟨gs,hgs⟩:∃ gs,gs=w.heap.size+1:=⟨_,rfl⟩
 rw [← hgs] at HI ⊢
 obtain ⟨B0,hB0⟩:∃ B0,B0=w.heap.size:=⟨_,rfl⟩
 rw [← hB0] at HI HB1 ⊢
 have HB0:=Lib.hid hB0
 clear hgs hB0
 go_wp2
 go_loopw [4,5] (fun s4 s5 wr=>∃ (k:Nat) (na:Option Addr) (nc:Nat) (sa:Option Addr) (scap:Nat) (es:List StE),k≤m.L.length∧s5=(.int .i64 ((k:Int)+1))∧s4=.slice na (pre m.L k).length nc∧Hid (OwnRow wr B0 125 7 na (pre m.L k).length nc (flat (pre m.L k)))∧Hid (StoIn wr B0 gs m.L k sa scap es)∧Hid (Below B0 w wr)) (fun _ s5 _=>m.L.length+1 - (intOf s5).toNat)
 case atStart=>exact ⟨0,none,0,_,_,_,Nat.zero_le _,rfl,rfl,Lib.hid (OwnRow.nil _ _ _ _ _),HI,HB1⟩
 case round=>
  obtain ⟨k,na,nc,sa,scap,es,hk,rfl,rfl,HN,HS,HB⟩:=hrel
  clear HI HB1
  have HL:=Lib.hid (HLG.out.later (by rw [← HB0.out];exact HB.out))
  have hin:IntKind.i64.wrap ((k:Int)+1+1)=(k:Int)+1+1:=by rw [IntKind.wrap_i64];omega
  by_cases hlt:k < m.L.length
  ·have hltB:decide ((k:Int)+1≤(m.L.length:Int))=true:=decide_eq_true (by omega)
   obtain ⟨hm0,hp1,hdo⟩:=pre_succ HOA.out k hlt
   have HDO:=Lib.hid hdo
   have HF:=Lib.hid (mayDo_zero hm0).1
   have hl200:(pre m.L k).length≤200:=(HLO.out.made k (by omega)).max
   have HG:=Lib.hid (show ∀ c∈pre m.L k,i64ok c.Gone from fun c hc=>by
    have:=bad1_false ((HLO.out.made k (by omega)).good c hc).b1
    unfold i64ok;omega)
   clear hm0 hp1 hdo
   go_wp2_with fail
   refine (Len_c HL.out).mono ?_
   rintro e w3 ⟨rfl,rfl⟩
   go_wp2_with fail
   refine (Deed_g HL.out ((k:Int)+1)).mono ?_
   rintro e w4 ⟨dd,b,rfl,hb4,h4⟩
   rcases h4 with ⟨_,_,h5⟩ | ⟨rfl,k',hk',e1,rfl⟩
   ·exfalso;omega
   ·obtain rfl:k'=k:=by omega
    generalize m.L[k']=dd at *
    have HFO:=Lib.hid (fault_ok HF.out)
    have HPS:=Lib.hid (show pre m.L (k' + 1)=pre m.L (k' + 1) from rfl)
    go_upto_region 7 with fail
    generalize hw8:w4.alloc _=w8
    have hw8' : w8=w4.alloc (.cells #[.int .i64 dd.Kind,.int .i64 dd.By,.int .i64 dd.No,.int .i64 dd.Seen,.int .i64 dd.At,.int .i64 dd.Many,.string dd.Text] 122):=hw8.symm
    have hbd:=(Below.refl w4.heap.size w4).alloc (Nat.le_refl _) (.cells #[.int .i64 dd.Kind,.int .i64 dd.By,.int .i64 dd.No,.int .i64 dd.Seen,.int .i64 dd.At,.int .i64 dd.Many,.string dd.Text] 122)
    have x0:w8.cell? ⟨w4.heap.size,0,none⟩=some (.int .i64 dd.Kind):=by rw [hw8'];simp
    have x1:w8.cell? ⟨w4.heap.size,1,none⟩=some (.int .i64 dd.By):=by rw [hw8'];simp
    have x2:w8.cell? ⟨w4.heap.size,2,none⟩=some (.int .i64 dd.No):=by rw [hw8'];simp
    have x3:w8.cell? ⟨w4.heap.size,3,none⟩=some (.int .i64 dd.Seen):=by rw [hw8'];simp
    have x4:w8.cell? ⟨w4.heap.size,4,none⟩=some (.int .i64 dd.At):=by rw [hw8'];simp
    have x5:w8.cell? ⟨w4.heap.size,5,none⟩=some (.int .i64 dd.Many):=by rw [hw8'];simp
    have x6:w8.cell? ⟨w4.heap.size,6,none⟩=some (.string dd.Text):=by rw [hw8'];simp
    rw [← hw8'] at hbd
    have hbr8:Below w3.heap.size w3 w8:=hb4.trans (hbd.mono hb4.size)
    have HN8:=Lib.hid (HN.out.below hbr8)
    have HS8:=Lib.hid (HS.out.later hbr8)
    have HB8:=Lib.hid (HB.out.trans (hbr8.mono (by have:=HS.out.lt;omega)))
    clear hw8 hw8' hbd hb4 hbr8 e1 HN HS HB HL
    go_wp2_with fail
    refine (Do_any na nc (pre m.L k') dd ((k' : Int)+1) _ rfl _ HDO.out _ HN8.out.slCh HN8.out.nilcap (by omega) HFO.out.1 HFO.out.2 HG.out).mono ?_
    rintro e w5 ⟨a5,c5,rfl,ho5,hb5⟩
    simp only at ho5 ⊢
    have HO5:=Lib.hid ho5
    have HS5:=Lib.hid (HS8.out.later hb5)
    have HB5:=Lib.hid (HB8.out.trans (hb5.mono (by have:=HS8.out.lt;omega)))
    have HB85:=Lib.hid hb5
    clear ho5 hb5 x0 x1 x2 x3 x4 x5 x6 HN8
    go_upto_region 8 with fail
    have k0:=HS5.out.c0
    have hglt:=HS5.out.lt.2
    have hel:es.length=k' + 1:=HS5.out.len
    have hbs5:B0≤w5.heap.size:=by have:=HS5.out.lt;omega
    have hbs8:B0≤w8.heap.size:=by have:=HS8.out.lt;omega
    have hlt8:=HS8.out.lt.2
    obtain ⟨N1,hN1⟩:∃ N1,N1=(pre m.L (k' + 1)).length:=⟨_,rfl⟩
    have HN1:=Lib.hid hN1
    rw [← hN1]
    clear hN1
    go_wp2_with (at_builtin;refine wpList_append_new2 rfl (.tmp 34) (.tmp 36) 175 rfl B0 91 1 24 Tryz.underlying175 ti_Chars sa (k' + 1) scap _ rfl HS5.out.own 1 1 [Value.slice a5 N1 c5] rfl rfl (one1 rfl) (by omega) hbs5 ?_)
    intro a7 cap7 w7 hown7 hb7 hz7 hg7 hn7
    rw [HN1.out] at hown7
    have HE:=Lib.hid (HS5.out.grown (E:=⟨a5,c5,pre m.L (k' + 1)⟩) rfl (HO5.out.mono hbs8) (fun i hi=>by
     have h1:=(HO5.out.base_le i hi).1
     refine ⟨by omega,fun e=>?_⟩
     have:=(HS8.out.own.base_le i e).2;omega) hown7 hg7 hn7)
    have hm7:Moves (fun k=>ownB sa scap=some k) w5 w7:=Moves.of_grown hg7 fun k hk=>hk
    have kc7:w7.cell? ⟨gs,0,none⟩=some (.slice sa (k' + 1) scap):=(hm7.cell hglt HS5.out.ng 0).trans (HS5.out.c0)
    have kf7:w7.frozen? ⟨gs,0,none⟩=false:=(hm7.frozen hglt HS5.out.ng 0).trans (HS5.out.fz)
    have HB7:=Lib.hid (show Below B0 w (w7.setCell ⟨gs,0,none⟩ (.slice a7 (k' + 1+1) cap7)) from
     (HB5.out.trans (hm7.below (fun k hk=>(HS5.out.own.base_le k hk).1) hbs5)).setCell (p:=⟨gs,0,none⟩) HS5.out.lt.1 _)
    have HO7:=Lib.hid (show OwnRow (w7.setCell ⟨gs,0,none⟩ (.slice a7 (k' + 1+1) cap7)) B0 125 7 a5 (pre m.L (k' + 1)).length c5 (flat (pre m.L (k' + 1))) from
     (HE.out.rt ⟨a5,c5,pre m.L (k' + 1)⟩ (List.mem_append_right _ List.mem_cons_self)).1)
    clear hown7 hg7 hn7 hm7 hb7 hz7 HS5 HS8 HO5 HB5 HB8 HB85
    go_upto_region 5 with fail
    generalize w7.setCell ⟨gs,0,none⟩ (.slice a7 (k' + 1+1) cap7)=w9 at *
    clear k0 kc7 kf7
    go_wp2
    exact ⟨⟨k' + 1,a5,c5,a7,cap7,_,by omega,by go_num,by rw [HN1.out],HO7,HE,HB7⟩,by simp [intOf];omega⟩
  ·obtain rfl:k=m.L.length:=by omega
   have hltB:decide ((m.L.length:Int)+1≤(m.L.length:Int))=false:=decide_eq_false (by omega)
   have HD:=Lib.hid HS.out
   clear HS HN
   go_wp2_with fail
   refine (Len_c HL.out).mono ?_
   rintro e w3 ⟨rfl,rfl⟩
   go_wp2
   go_ret
   exact ⟨gs,rfl,⟨_,_,_,by rw [← HB0.out];exact HD.out⟩,by rw [← HB0.out];exact HB.out⟩
theorem StOf_c {w:World} {base:Nat} {F:Nat→Prop} {gl:Nat} {m:LogM} (hl:LogAt w base F gl m) (ho:m.Ok) :
 Calls Tryz.prog 91 #[.pointer (some ⟨gl,0,none⟩)] w fun e w'=>∃ gs,e=.returned (.pointer (some ⟨gs,0,none⟩))∧StoAt w' gs m.L∧Below w.heap.size w w':=by
 refine (StOf_in hl ho).mono ?_
 rintro e w' ⟨gs,rfl,⟨_,_,_,h⟩,hb⟩
 exact ⟨gs,rfl,h.done,hb⟩
section
variable {w:World} {g:Nat} {L:List Dd}
theorem StoAt.at (h:StoAt w g L) (i:Nat) (hi:i≤L.length):∃ b off cap a c,w.cell? ⟨g,0,none⟩=some (.slice (some ⟨b,off,none⟩) (L.length+1) cap)∧L.length+1≤cap∧w.cell? ⟨b,off+i,none⟩=some (.slice a (pre L i).length c)∧SlCh w a c (pre L i):=by
 obtain ⟨b,off,cap,h1,h2,h3,h4,h5⟩:=h.rows
 obtain ⟨a,c,k1,k2⟩:=h5 i hi
 exact ⟨b,off,cap,a,c,h1,h3,k1,k2⟩
set_option maxRecDepth 100000 in
theorem SText_no (h:StoAt w g L) (n:Int) (hn:n < 0∨(L.length:Int) < n) (hl:L.length≤1000):Calls Tryz.prog 92 #[.pointer (some ⟨g,0,none⟩),.int .i64 n] w fun e w'=>e=.returned (.tuple #[.string ⟨#[]⟩,.bool false])∧Below w.heap.size w w':=by
 obtain ⟨b,off,cap,h1,h2,h3,h4,h5⟩:=h.rows
 clear h5
 go_enter Tryz.func92,Tryz.ntmps92
 by_cases h0:n < 0
 ·have h0B:decide (n < 0)=true:=decide_eq_true h0
  go_wp2
  all_goals
   go_ret2
   exact ⟨rfl,Below.refl _ _⟩
 ·have h0B:decide (n < 0)=false:=decide_eq_false h0
  have h1B:decide ((L.length:Int)+1≤n)=true:=decide_eq_true (by omega)
  go_wp2
  all_goals
   go_ret2
   exact ⟨rfl,Below.refl _ _⟩
set_option maxRecDepth 100000 in
theorem SText_c (h:StoAt w g L) (n:Nat) (hn:n≤L.length) (hL:LOk L):Calls Tryz.prog 92 #[.pointer (some ⟨g,0,none⟩),.int .i64 n] w fun e w'=>e=.returned (.tuple #[.string (strOfNums (txtL L n)),.bool true])∧Below w.heap.size w w':=by
 obtain ⟨b,off,cap,a,c,h1,h2,h3,h4⟩:=h.at n hn
 have hlen:=hL.len
 have hl200:(pre L n).length≤200:=(hL.made n hn).max
 have HT:=Lib.hid (hL.txt n hn)
 have HS:=Lib.hid h4
 have h0B:decide ((n:Int) < 0)=false:=decide_eq_false (by omega)
 have h1B:decide ((L.length:Int)+1≤(n:Int))=false:=decide_eq_false (by omega)
 have hn1:(n:Int) < (L.length:Int)+1:=by omega
 have hn0:(0:Int)≤(n:Int):=by omega
 clear h4 h hL
 generalize pre L n=l at *
 go_enter Tryz.func92,Tryz.ntmps92
 go_wp2_with fail
 refine (Text_c a c l _ HS.out (by omega)).mono ?_
 rintro e w1 ⟨rfl,hb1⟩
 go_wp2
 go_ret2
 exact ⟨by rw [HT.out];rfl,hb1⟩
theorem bys_snoc (n b:Int) (l:List Ch) (k:Nat) (h:k < l.length):(vis n b (l.take (k+1))).map Ch.By=(vis n b (l.take k)).map Ch.By++if l[k].sees n b then [l[k].By] else []:=by
 rw [vis_snoc n b l k h]
 split <;> simp
set_option maxRecDepth 100000 in
set_option maxHeartbeats 400000 in
theorem SBy_c (h:StoAt w g L) (n:Nat) (hn:n≤L.length) (hL:LOk L):Calls Tryz.prog 93 #[.pointer (some ⟨g,0,none⟩),.int .i64 n] w fun e w'=>∃ a' cap',e=.returned (.tuple #[.slice a' (bysL L n).length cap',.bool true])∧
 OwnRow w' w.heap.size 3 1 a' (bysL L n).length cap' ((bysL L n).map (Value.int .i64))∧Below w.heap.size w w':=by
 obtain ⟨b,off,cap,a,c,h1,h2,h3,hs⟩:=h.at n hn
 have hlen:=hL.len
 have hl200:(pre L n).length≤200:=(hL.made n hn).max
 have HV:=Lib.hid (show (vis n (-1) (pre L n)).map Ch.By=bysL L n from by rw [hL.vis_n n hn];rfl)
 have h0B:decide ((n:Int) < 0)=false:=decide_eq_false (by omega)
 have h1B:decide ((L.length:Int)+1≤(n:Int))=false:=decide_eq_false (by omega)
 have hn1:(n:Int) < (L.length:Int)+1:=by omega
 have hn0:(0:Int)≤(n:Int):=by omega
 clear h hL
 generalize pre L n=l at *
 generalize bysL L n=bs at *
 go_enter Tryz.func93,Tryz.ntmps93
 go_wp2
 clear h1 h3 h0B h1B hn1
 go_loopw [6,28] (fun v i wr=>∃ (k:Nat) (a' : Option Addr) (cap' : Nat),k≤l.length∧i=(.int .i64 k)∧v=.slice a' (vis n (-1) (l.take k)).length cap'∧OwnRow wr w.heap.size 3 1 a' (vis n (-1) (l.take k)).length cap' (((vis n (-1) (l.take k)).map Ch.By).map (Value.int .i64))∧Below w.heap.size w wr) (fun _ i _=>l.length - (intOf i).toNat)
 case atStart=>exact ⟨0,none,0,Nat.zero_le _,rfl,rfl,OwnRow.nil _ _ _ _ _,Below.refl _ _⟩
 case round=>
  obtain ⟨k,a',cap',hk,rfl,rfl,hown,hb⟩:=hrel
  by_cases hlt:k < l.length
  ·obtain ⟨b1,off1,rfl,hc⟩:=hs.nth hlt
   obtain ⟨q0,q1,q2,q3,q4,q5,q6⟩:=hc.below hb hc.lt
   have Hs:=Lib.hid (vis_snoc n (-1) l k hlt)
   have Hb:=Lib.hid (bys_snoc n (-1) l k hlt)
   have hvl:(vis n (-1) (l.take k)).length≤k:=Nat.le_trans (vis_le ..) (by simp;omega)
   go_wp2_with fail
   refine (Sees_c l[k] _ _ _).mono ?_
   rintro e w2 ⟨rfl,hb2⟩
   obtain ⟨hc2,hf2⟩:=bcell hb2
   have hz2:=hb2.size
   simp at hz2
   have hown2:=(hown.alloc _).below hb2
   have hbx:Below w.heap.size w w2:=(hb.alloc hb.size _).trans (hb2.mono (by have:=hb.size;simp;omega))
   cases hsee:l[k].sees n (-1)
   ·have Hs2:=Lib.hid (show vis n (-1) (l.take (k+1))=vis n (-1) (l.take k) by rw [Hs.out,hsee];simp)
    clear Hs Hb
    go_wp2
    exact ⟨⟨k+1,a',cap',by omega,by go_num,by rw [Hs2.out],by rw [Hs2.out];exact hown2,hbx⟩,by simp [intOf];omega⟩
   ·have Hs2:=Lib.hid (show (vis n (-1) (l.take (k+1))).length=(vis n (-1) (l.take k)).length+1 by rw [Hs.out,hsee];simp)
    have Hb2:=Lib.hid (show (vis n (-1) (l.take (k+1))).map Ch.By=(vis n (-1) (l.take k)).map Ch.By++[l[k].By] by rw [Hb.out,hsee];simp)
    clear Hs Hb
    go_wp2_with (at_builtin;refine wpList_append_new rfl (.tmp 35) (.tmp 38) 71 rfl w.heap.size 3 1 8 Tryz.underlying71 ti_int a' _ cap' _ rfl hown2 1 1 [.int .i64 l[k].By] rfl rfl (one1 rfl) (by omega) hbx.size ?_)
    intro a3 cap3 w3 hown3 hb3 hz3 hg3
    have Hfin:=Lib.hid (show OwnRow w3 w.heap.size 3 1 a3 (vis n (-1) (l.take (k+1))).length cap3 (((vis n (-1) (l.take (k+1))).map Ch.By).map (Value.int .i64)) from by
     rw [Hs2.out,Hb2.out,List.map_append,List.map_map];exact hown3)
    clear hown3 hown2 hown
    go_wp2
    refine ⟨⟨k+1,a3,cap3,by omega,by go_num,by rw [Hs2.out],Hfin.out,hbx.trans hb3⟩,by simp [intOf];omega⟩
  ·obtain rfl:k=l.length:=by omega
   have Hs2:=Lib.hid (show l.take l.length=l by simp)
   have HVL:=Lib.hid (show (vis n (-1) l).length=bs.length from by rw [← HV.out];simp)
   go_wp2
   go_ret2
   refine ⟨a',cap',by rw [Hs2.out,HVL.out];rfl,?_,hb⟩
   rw [Hs2.out,HVL.out,HV.out] at hown
   exact hown
end
end Go.Proofs.YtneoeokfffnonaaGreatDoor
namespace Go.Proofs.YtneoeokfffnonaaGreatDoor
open Go.RowKit
def SlInt (w:World) (a:Option Addr) (cap:Nat) (l:List Int):Prop:=
 l.length≤cap∧cap≤maxLen∧∀ i (h:i < l.length),∃ b off,a=some ⟨b,off,none⟩∧w.cell? ⟨b,off+i,none⟩=some (.int .i64 l[i])
theorem SlInt.below {w w' : World} {a:Option Addr} {cap:Nat} {l:List Int} (h:SlInt w a cap l) (hb:Below w.heap.size w w'):SlInt w' a cap l:=by
 refine ⟨h.1,h.2.1,fun i hi=>?_⟩
 obtain ⟨b,off,ha,hc⟩:=h.2.2 i hi
 exact ⟨b,off,ha,(hb.cell (p:=⟨b,off+i,none⟩) (World.block_lt_of_cell? _ _ hc)).trans hc⟩
end Go.Proofs.YtneoeokfffnonaaGreatDoor
