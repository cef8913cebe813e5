/- The text builder that lies at the head of a desk: what it holds, and its four functions. -/
import Derived.Lib.Strings
import Derived.Shelf.RegionOpenPlain
import Derived.Test.YtneoeokfffnonaaGreatDoorRows
import Derived.Test.YtneoeokfffnonaaGreatDoorMixX
set_option linter.unusedVariables false
set_option linter.unusedSimpArgs false
namespace Go.Proofs.YtneoeokfffnonaaGreatDoor
open Go.RowKit Go
structure BdAt (w:World) (base g:Nat) (t:List UInt8) (p v q:Value):Prop where
 bk:w.heap[g]? = some (.cells #[p,v,q] 44 (0,0))
 pp:p=.pointer none∨p=.pointer (some ⟨g,0,none⟩)
 own:w.ownsRow base 5 1 v t.length (Lib.byteCells t)
 ne:v.ownBlock≠some g
 ge:base≤g
 nl:t=[]→v=.slice none 0 0
section
variable {w w' : World} {base g:Nat} {t:List UInt8} {p v q:Value}
theorem BdAt.lt (h:BdAt w base g t p v q):g < w.heap.size:=by
 rcases Nat.lt_or_ge g w.heap.size with h' | h'
 ·exact h'
 ·have:=h.bk;simp [Array.getElem?_eq_none h'] at this
theorem BdAt.c0 (h:BdAt w base g t p v q):w.cell? ⟨g,0,none⟩=some p:=by rw [Lib.cell_of_heap h.bk];rfl
theorem BdAt.c1 (h:BdAt w base g t p v q):w.cell? ⟨g,1,none⟩=some v:=by rw [Lib.cell_of_heap h.bk];rfl
theorem BdAt.c2 (h:BdAt w base g t p v q):w.cell? ⟨g,2,none⟩=some q:=by rw [Lib.cell_of_heap h.bk];rfl
theorem BdAt.fz (h:BdAt w base g t p v q) (j:Nat):w.frozen? ⟨g,j,none⟩=false:=Lib.frozen_of_heap h.bk j
theorem BdAt.sh (h:BdAt w base g t p v q):w.shape? g=some (44,3):=by simp [World.shape?,h.bk]
theorem BdAt.moves (h:BdAt w base g t p v q) {G:Nat→Prop} (hm:Moves G w w') (hg:¬ G g) (hv:∀ k,v.ownBlock=some k→¬ G k):BdAt w' base g t p v q:=by
 refine ⟨(hm.block g h.lt hg).trans h.bk,h.pp,⟨h.own.1,?_⟩,h.ne,h.ge,h.nl⟩
 rcases h.own.2 with ⟨rfl,h0⟩ | ⟨b,cap,cur,rfl,hb,hh,r⟩
 ·exact .inl ⟨rfl,h0⟩
 ·refine .inr ⟨b,cap,cur,rfl,hb,?_,r⟩
  have hlt:b < w.heap.size:=by
   rcases Nat.lt_or_ge b w.heap.size with h' | h'
   ·exact h'
   ·simp [Array.getElem?_eq_none h'] at hh
  exact (hm.block b hlt (hv b rfl)).trans hh
theorem BdAt.ownlt (h:BdAt w base g t p v q) {k:Nat} (hk:v.ownBlock=some k):base≤k∧k < w.heap.size:=by
 rcases h.own.2 with ⟨rfl,_⟩ | ⟨b,cap,cur,rfl,hb,hh,r⟩
 ·simp [Value.ownBlock] at hk
 ·simp [Value.ownBlock] at hk
  subst hk
  refine ⟨hb,?_⟩
  rcases Nat.lt_or_ge b w.heap.size with h' | h'
  ·exact h'
  ·simp [Array.getElem?_eq_none h'] at hh
theorem BdAt.set0 (h:BdAt w base g t p v q):BdAt (w.setCell ⟨g,0,none⟩ (.pointer (some ⟨g,0,none⟩))) base g t (.pointer (some ⟨g,0,none⟩)) v q:=by
 have hm:Moves (fun k=>k=g) w (w.setCell ⟨g,0,none⟩ (.pointer (some ⟨g,0,none⟩))):=Moves.setCell _ _ _ rfl
 refine ⟨by simp [World.setCell,Array.getElem?_modify,h.bk],.inr rfl,⟨h.own.1,?_⟩,h.ne,h.ge,h.nl⟩
 rcases h.own.2 with ⟨rfl,h0⟩ | ⟨b,cap,cur,rfl,hb,hh,r⟩
 ·exact .inl ⟨rfl,h0⟩
 ·refine .inr ⟨b,cap,cur,rfl,hb,?_,r⟩
  have hne:b≠g:=fun e=>h.ne (by simp [Value.ownBlock,e])
  exact (hm.block b (h.ownlt (by simp [Value.ownBlock])).2 hne).trans hh
end
theorem size_builder:(Tryz.prog.info? 42).map (·.size)=some 2:=by kernel_rfl
theorem info_u8:(Tryz.prog.info? 5).map (fun i=>(i.zero,i.size,i.bytes))=some (some (.int .u8 0),1,1):=by kernel_rfl
theorem lies_builder:liesAt Tryz.prog Tryz.prog.depth 44 (3 / Tryz.prog.cellsOf 44) 0 42 1=true:=by kernel_rfl
section
variable {w w' : World} {base g:Nat} {t:List UInt8} {p v q:Value}
set_option maxRecDepth 100000 in
theorem copyCheck_c (h:BdAt w base g t p v q):Calls Tryz.prog 94 #[.pointer (some ⟨g,0,none⟩)] w fun e w'=>(∃ u,e=.returned u)∧BdAt w' base g t (.pointer (some ⟨g,0,none⟩)) v q∧Moves (fun k=>k=g) w w':=by
 obtain ⟨j,hj,hjs⟩:=Option.map_eq_some_iff.1 size_builder
 have hz:Hid (j.size≠0):=Lib.hid (by rw [hjs];decide)
 rcases h.pp with rfl | rfl
 ·have c0:=h.c0
  have f0:=h.fz 0
  have hcv:=Lib.run_to_unsafe (P:=Tryz.prog) w ⟨g,0,none⟩ Tryz.underlying39 Tryz.underlying178 hj hz.out h.sh (Nat.zero_lt_succ 2)
  have hcv2:=Lib.run_from_unsafe (P:=Tryz.prog) w ⟨g,0,none⟩ Tryz.underlying178 Tryz.underlying39 hj h.sh lies_builder
  have HF:=Lib.hid (show BdAt (w.setCell ⟨g,0,none⟩ (.pointer (some ⟨g,0,none⟩))) base g t (.pointer (some ⟨g,0,none⟩)) v q∧Moves (fun k=>k=g) w (w.setCell ⟨g,0,none⟩ (.pointer (some ⟨g,0,none⟩))) from ⟨h.set0,Moves.setCell _ _ _ rfl⟩)
  clear h
  go_enter Tryz.func94,Tryz.ntmps94
  go_wp2
  rw [run_callFunc_extern Tryz.func140 (by kernel_rfl) (by kernel_rfl) (by kernel_rfl) (e:=Extern.AbiNoEscape.same) (by kernel_rfl)]
  rw [Lib.run_noEscape]
  simp only [Result.andThen]
  rw [Oper.upon_value]
  go_wp2
  go_end0
  exact ⟨⟨_,rfl⟩,HF.out⟩
 ·have c0:=h.c0
  have HF:=Lib.hid h
  clear h
  go_enter Tryz.func94,Tryz.ntmps94
  go_wp2
  rw [Lib.run_neq_ptr_same w _ Tryz.underlying39 hj]
  go_wp2
  go_end0
  exact ⟨⟨_,rfl⟩,HF.out,Moves.refl _ _⟩
theorem app_str (base:Nat) (x:Value) (n:Nat) (xs:List Value) (w:World) (i:TypeInfo) (hi:Tryz.prog.info? 5=some i) (hz:i.zero=some (.int .u8 0)) (hsize:i.size=1) (hby:i.bytes=1)
 (hown:w.ownsRow base 5 1 x n xs) (s:ByteArray) (h63:n+s.size≤140737488355328) (hb:base≤w.heap.size) (ty:TypeId) :
 ∃ x' w',(Builtin.append_ #[40,9] ty #[x,.string s]).run Tryz.prog w=.ok x' w'∧w'.ownsRow base 5 1 x' (n+s.size) (xs++Lib.strCells s)∧w.grownBy w' x.ownBlock∧
  (x'.ownBlock=x.ownBlock∨∀ k,x'.ownBlock=some k→w.heap.size≤k)∧(x'=.slice none 0 0↔x=.slice none 0 0∧s.size=0):=by
 have hm:n+s.size≤maxLen:=by unfold maxLen;omega
 obtain ⟨x1,w1,r1,o1,g1,n1⟩:=Lib.run_append_own_string (P:=Tryz.prog) w base 40 9 ty 5 i Tryz.underlying40 Tryz.underlying9 hi hz hsize hby x n xs hown s hm h63 hb
 refine ⟨x1,w1,r1,o1,g1,?_,n1⟩
 rcases hown.2 with ⟨rfl,rfl⟩ | ⟨g,cap,cur,rfl,hbg,hg,hnc,hcm,hcs,htake⟩
 ·obtain ⟨x2,w2,r2,o2,_,_⟩:=Lib.run_append_own_string (P:=Tryz.prog) w w.heap.size 40 9 ty 5 i Tryz.underlying40 Tryz.underlying9 hi hz hsize hby (.slice none 0 0) 0 xs ⟨hown.1,.inl ⟨rfl,rfl⟩⟩ s hm h63 (Nat.le_refl _)
  rw [r1] at r2
  cases r2
  right
  intro k hk
  rcases o2.2 with ⟨rfl,_⟩ | ⟨b,c2,u2,rfl,hb2,_⟩
  ·simp [Value.ownBlock] at hk
  ·simp [Value.ownBlock] at hk;omega
 ·have hlt:g < w.heap.size:=by
   rcases Nat.lt_or_ge g w.heap.size with h' | h'
   ·exact h'
   ·simp [Array.getElem?_eq_none h'] at hg
  by_cases hroom:n+s.size≤cap
  ·have hr:=Lib.run_append_room_string (P:=Tryz.prog) w 40 9 ty 5 i Tryz.underlying40 Tryz.underlying9 hi hsize g n cap cur hg s hroom (by omega)
   rw [r1] at hr
   cases hr
   exact .inl rfl
  ·have holds:∀ j u,xs[j]? = some u→w.cell? ((⟨g,0,none⟩:Addr).add j)=some u:=hown.cells (g:=g) rfl
   have hxl:xs.length=n:=by simpa using hown.1
   have hr:=Lib.run_append_grow_string (P:=Tryz.prog) w 40 9 ty 5 i (.int .u8 0) Tryz.underlying40 Tryz.underlying9 hi hz ⟨g,0,none⟩ n cap xs (by rw [hsize];simpa using hxl) holds s (by omega) (by omega) (by rw [hby];exact growslice_fits (by omega) (by omega))
   rw [r1] at hr
   cases hr
   right
   intro k hk
   simp [Value.ownBlock] at hk
   omega
theorem movesMono {F G:Nat→Prop} {w w' : World} (h:Moves F w w') (hg:∀ k,F k→G k):Moves G w w':=⟨h.os,h.tape,h.output,h.size,fun k hk hn=>h.block k hk (fun e=>hn (hg k e))⟩
theorem wpList_append_run {P:Program} {ops:Array Oper} {rest:List Oper} {o:Oper} {a:Act} {Q:Exit→Act→World→Prop} {w w' : World} (hgd:o.guard=none) (sl x:Operand) (t u:TypeId)
 (ho:o.op=.call { callee:=.builtin .append,args:=#[sl,x],argTypes:=#[t,u] }) (v v' y:Value) (hs:a.eval sl=v) (hx:a.eval x=y) (hrun:(Builtin.append_ #[t,u] o.type #[v,y]).run P w=.ok v' w')
 (h:wpList P ops Q rest (a.put o.dst v') w'):wpList P ops Q (o :: rest) a w:=by
 refine wpList_plain hgd fun K hK=>?_
 unfold Oper.wp execOp
 simp only [ho,resolve,invoke,builtin,Sem.run_bind,Sem.run_pure,Result.andThen_ok,List.map_toArray,List.map_cons,List.map_nil,hs,hx,hrun]
 exact hK _ _ h
theorem BdAt.put {w2:World} {v' : Value} {t' : List UInt8} (hb:w2.heap[g]? = some (.cells #[.pointer (some ⟨g,0,none⟩),v,q] 44 (0,0))) (hge:base≤g) (hown:w2.ownsRow base 5 1 v' t'.length (Lib.byteCells t')) (hne:v'.ownBlock≠some g) (hnl:t'=[]→v'=.slice none 0 0) :
 BdAt (w2.setCell ⟨g,1,none⟩ v') base g t' (.pointer (some ⟨g,0,none⟩)) v' q:=by
 refine ⟨by simp [World.setCell,Array.getElem?_modify,hb],.inr rfl,⟨hown.1,?_⟩,hne,hge,hnl⟩
 have hm:Moves (fun k=>k=g) w2 (w2.setCell ⟨g,1,none⟩ v'):=Moves.setCell _ _ _ rfl
 rcases hown.2 with ⟨rfl,h0⟩ | ⟨b,cap,cur,rfl,hb,hh,r⟩
 ·exact .inl ⟨rfl,h0⟩
 ·refine .inr ⟨b,cap,cur,rfl,hb,?_,r⟩
  have hlt:b < w2.heap.size:=by
   rcases Nat.lt_or_ge b w2.heap.size with h' | h'
   ·exact h'
   ·simp [Array.getElem?_eq_none h'] at hh
  exact (hm.block b hlt (fun e=>hne (by simp [Value.ownBlock,e]))).trans hh
set_option maxRecDepth 100000 in
theorem WriteString_c (h:BdAt w base g t p v q) (s:ByteArray) (hl:t.length+s.size≤140737488355328) (hb:base≤w.heap.size) :
 Calls Tryz.prog 59 #[.pointer (some ⟨g,0,none⟩),.string s] w fun e w'=>(∃ u,e=.returned u)∧∃ v',BdAt w' base g (t++s.data.toList) (.pointer (some ⟨g,0,none⟩)) v' q∧Moves (fun k=>k=g∨v.ownBlock=some k) w w'∧(v'.ownBlock=v.ownBlock∨∀ k,v'.ownBlock=some k→w.heap.size≤k):=by
 obtain ⟨i0,hi,hz0,hz1,hz2⟩:=info_parts info_u8
 go_enter Tryz.func59,Tryz.ntmps59
 go_wp2_with fail
 refine (copyCheck_c h).mono ?_
 rintro e w1 ⟨⟨u,rfl⟩,h1,m1⟩
 have hw1:base≤w1.heap.size:=Nat.le_trans hb m1.size
 obtain ⟨v',w2,hrun,hown2,hgr,hfr,hnil⟩:=app_str base v t.length (Lib.byteCells t) w1 i0 hi hz0 hz1 hz2 h1.own s hl hw1 40
 have c0:=h1.c0
 have c1:=h1.c1
 have hg2:w2.heap[g]? = some (.cells #[.pointer (some ⟨g,0,none⟩),v,q] 44 (0,0)):=(hgr.block g h1.lt (fun e=>h1.ne e.symm)).trans h1.bk
 have hne2:v'.ownBlock≠some g:=by
  rcases hfr with e | e
  ·rw [e];exact h1.ne
  ·intro e2;have:=e g e2;have:=h1.lt;omega
 have HBD:=Lib.hid (BdAt.put (t':=t++s.data.toList) hg2 h1.ge (by
  have e1:(t++s.data.toList).length=t.length+s.size:=by simp
  have e2:Lib.byteCells (t++s.data.toList)=Lib.byteCells t++Lib.strCells s:=by simp [Lib.byteCells,Lib.strCells]
  rw [e1,e2];exact hown2) hne2 (fun e=>by
  have e3:=List.append_eq_nil_iff.1 e
  exact hnil.2 ⟨h1.nl e3.1,by have:=congrArg List.length e3.2;simpa using this⟩))
 have hm2:Moves (fun k=>v.ownBlock=some k) w1 w2:=⟨hgr.os,hgr.tape,hgr.output,hgr.size,fun k hk hn=>hgr.block k hk (fun e=>hn e.symm)⟩
 have HMV:=Lib.hid (show Moves (fun k=>k=g∨v.ownBlock=some k) w (w2.setCell ⟨g,1,none⟩ v') from
  ((movesMono m1 (fun k hk=>.inl hk)).trans (movesMono hm2 (fun k hk=>.inr hk)) (fun _ _ k=>k)).trans (Moves.setCell _ _ _ (.inl rfl)) (fun _ _ k=>k))
 have HFR:=Lib.hid (show v'.ownBlock=v.ownBlock∨∀ k,v'.ownBlock=some k→w.heap.size≤k from hfr.imp id (fun h k hk=>Nat.le_trans m1.size (h k hk)))
 have d0:w2.cell? ⟨g,0,none⟩=some (.pointer (some ⟨g,0,none⟩)):=by rw [Lib.cell_of_heap hg2];rfl
 have d1:w2.cell? ⟨g,1,none⟩=some v:=by rw [Lib.cell_of_heap hg2];rfl
 have f1:w2.frozen? ⟨g,1,none⟩=false:=Lib.frozen_of_heap hg2 1
 obtain ⟨ao,n',cap',rfl⟩:∃ ao n' cap',v'=.slice ao n' cap':=by
  rcases hown2.2 with ⟨hv,_⟩ | ⟨b,c,cu,hv,_⟩
  ·exact ⟨_,_,_,hv⟩
  ·exact ⟨_,_,_,hv⟩
 clear h1 hown2 hnil hgr hfr hg2 hne2 hm2 m1 h
 go_wp2_with (at_builtin;refine wpList_append_run rfl _ _ 40 9 rfl v (.slice ao n' cap') (.string s) rfl rfl hrun ?_)
 go_wp2
 go_ret2
 exact ⟨⟨_,rfl⟩,_,HBD.out,HMV.out,HFR.out⟩
structure BdIdle (w:World) (g:Nat) (q:Value):Prop where
 bk:∃ p v,w.heap[g]? = some (.cells #[p,v,q] 44 (0,0))
set_option maxRecDepth 100000 in
theorem Reset_c (h:BdIdle w g q) (hge:base≤g):Calls Tryz.prog 14 #[.pointer (some ⟨g,0,none⟩)] w fun e w'=>(∃ u,e=.returned u)∧BdAt w' base g [] (.pointer none) (.slice none 0 0) q∧Moves (fun k=>k=g) w w':=by
 obtain ⟨p,v,hb⟩:=h.bk
 have c0:w.cell? ⟨g,0,none⟩=some p:=by rw [Lib.cell_of_heap hb];rfl
 have c1:w.cell? ⟨g,1,none⟩=some v:=by rw [Lib.cell_of_heap hb];rfl
 have f0:w.frozen? ⟨g,0,none⟩=false:=Lib.frozen_of_heap hb 0
 have f1:w.frozen? ⟨g,1,none⟩=false:=Lib.frozen_of_heap hb 1
 have hb1:(w.setCell ⟨g,0,none⟩ (.pointer none)).heap[g]? = some (.cells #[.pointer none,v,q] 44 (0,0)):=by simp [World.setCell,Array.getElem?_modify,hb]
 have hb2:((w.setCell ⟨g,0,none⟩ (.pointer none)).setCell ⟨g,1,none⟩ (.slice none 0 0)).heap[g]? = some (.cells #[.pointer none,.slice none 0 0,q] 44 (0,0)):=by
  show ((World.setCell _ _ _).heap)[g]? = _
  rw [World.setCell]
  simp [Array.getElem?_modify,hb1]
 have HF:=Lib.hid (show BdAt ((w.setCell ⟨g,0,none⟩ (.pointer none)).setCell ⟨g,1,none⟩ (.slice none 0 0)) base g [] (.pointer none) (.slice none 0 0) q∧Moves (fun k=>k=g) w ((w.setCell ⟨g,0,none⟩ (.pointer none)).setCell ⟨g,1,none⟩ (.slice none 0 0)) from
  ⟨⟨hb2,.inl rfl,World.ownsRow_nil _ _ _ _,by simp [Value.ownBlock],hge,fun _=>rfl⟩,(Moves.setCell (F:=fun k=>k=g) w ⟨g,0,none⟩ (.pointer none) rfl).trans (Moves.setCell (F:=fun k=>k=g) _ ⟨g,1,none⟩ (.slice none 0 0) rfl) (fun _ _ k=>k)⟩)
 clear hb hb1 hb2 h
 go_enter Tryz.func14,Tryz.ntmps14
 go_wp2
 go_end0
 exact ⟨⟨_,rfl⟩,HF.out⟩
set_option maxRecDepth 100000 in
set_option maxHeartbeats 2000000 in
theorem BString_c (h:BdAt w base g t p v q):Calls Tryz.prog 16 #[.pointer (some ⟨g,0,none⟩)] w fun e w'=>e=.returned (.string ⟨t.toArray⟩)∧BdIdle w' g q∧Moves (fun k=>v.ownBlock=some k) w w':=by
 obtain ⟨i0,hi,hz0,hz1,hz2⟩:=info_parts info_u8
 by_cases h0:t=[]
 ·have hv:=h.nl h0
  subst h0
  subst hv
  have c1:w.drew.cell? ⟨g,1,none⟩=some (.slice none 0 0):=h.c1
  have mixed:Tryz.prog.follows .mixedOrders=true:=by kernel_rfl
  have hSD:(Builtin.unsafeSliceData_ #[40] 82 #[.slice none 0 0]).run Tryz.prog w.drew=.ok (.pointer none) w.drew:=Lib.run_unsafeSliceData_nil _ _ _ _ _
  have hUS:(Builtin.unsafeString_ #[82,3] 9 #[.pointer none,.int .i64 0]).run Tryz.prog w.drew=.ok (.string .empty) w.drew:=Lib.run_unsafeString_none w.drew _ _ _ none
  have HF:=Lib.hid (show BdIdle w.drew g q∧Moves (fun k=>(Value.slice none 0 0).ownBlock=some k) w w.drew from ⟨⟨_,_,h.bk⟩,⟨rfl,rfl,rfl,Nat.le_refl _,fun _ _ _=>rfl⟩⟩)
  clear h
  go_enter Tryz.func16,Tryz.ntmps16
  go_wp2
  go_region_o
  all_goals (go_wp2;go_ret;exact ⟨rfl,HF.out⟩)
 ·have hl0:t.length≠0:=by simpa using h0
  have hown:=h.own
  obtain ⟨b,cap,cur,rfl,hbg,hb,hnc,hcm,hcs,htake⟩:∃ b cap cur,v=.slice (some ⟨b,0,none⟩) t.length cap∧base≤b∧w.heap[b]? = some (.cells cur 5 (0,0))∧t.length≤cap∧cap≤maxLen∧cur.size=cap * 1∧cur.toList.take (t.length * 1)=Lib.byteCells t:=by
   rcases hown.2 with ⟨_,hz⟩ | ⟨b,cap,cur,hv,r⟩
   ·exact absurd hz hl0
   ·exact ⟨b,cap,cur,hv,r⟩
  have c1:w.drew.cell? ⟨g,1,none⟩=some (.slice (some ⟨b,0,none⟩) t.length cap):=h.c1
  have hSD:(Builtin.unsafeSliceData_ #[40] 82 #[.slice (some ⟨b,0,none⟩) t.length cap]).run Tryz.prog w.drew=.ok (.pointer (some ⟨b,0,none⟩)) w.drew:=
   Lib.run_unsafeSliceData_row _ _ _ _ _ _ (by omega)
  have hUS:(Builtin.unsafeString_ #[82,3] 9 #[.pointer (some ⟨b,0,none⟩),.int .i64 t.length]).run Tryz.prog w.drew=.ok (.string ⟨t.toArray⟩) (w.drew.freeze ⟨b,0,none⟩ t.length):=by
   refine Lib.run_unsafeString_row w.drew 82 3 9 5 Tryz.underlying82 (by kernel_rfl) b cur.size (by have hg' : w.drew.heap[b]? = some (.cells cur 5 (0,0)):=hb;simp [World.shape?,hg']) t h0 (by omega) (by unfold maxLen at hcm;omega) ?_
   intro j x hx
   have:=hown.cells (g:=b) rfl j (.int .u8 x.toNat) (by simp [Lib.byteCells,hx])
   exact this
  have mixed:Tryz.prog.follows .mixedOrders=true:=by kernel_rfl
  have hne:b≠g:=fun e=>h.ne (by simp [Value.ownBlock,e])
  have hmf:Moves (fun k=>(Value.slice (some ⟨b,0,none⟩) t.length cap).ownBlock=some k) w (w.drew.freeze ⟨b,0,none⟩ t.length):=by
   refine ⟨by simp [World.freeze,h0];rfl,by simp [World.freeze,h0],by simp [World.freeze,h0];rfl,by simp [World.freeze,h0],fun k hk hn=>?_⟩
   have hkb:k≠b:=fun e=>hn (by simp [Value.ownBlock,e])
   simp [World.freeze,h0,Array.getElem?_modify,hkb,Ne.symm hkb]
   rfl
  have HF:=Lib.hid (show BdIdle (w.drew.freeze ⟨b,0,none⟩ t.length) g q∧Moves (fun k=>(Value.slice (some ⟨b,0,none⟩) t.length cap).ownBlock=some k) w (w.drew.freeze ⟨b,0,none⟩ t.length) from
   ⟨⟨_,_,(hmf.block g h.lt (fun e=>hne (by simpa [Value.ownBlock] using e))).trans h.bk⟩,hmf⟩)
  clear h hown hb htake hmf hne hcs hcm hnc hbg
  go_enter Tryz.func16,Tryz.ntmps16
  go_wp2
  go_region_o
  all_goals (go_wp2;go_ret;exact ⟨rfl,HF.out⟩)
end
end Go.Proofs.YtneoeokfffnonaaGreatDoor
