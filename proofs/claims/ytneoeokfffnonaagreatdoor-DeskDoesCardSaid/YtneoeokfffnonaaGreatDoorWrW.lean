/- Merged: WrObj WrW WrW2. -/
import Derived.Test.YtneoeokfffnonaaGreatDoorDoW
import Derived.Test.YtneoeokfffnonaaGreatDoorPlainT
set_option linter.unusedVariables false
set_option linter.unusedSimpArgs false
namespace Go.Proofs.YtneoeokfffnonaaGreatDoor
open Go.RowKit
structure OpE where
 (d:Dd) (ta:Option Addr) (tc:Nat) (took:List Ch) (sent:Bool)
def OpE.o (e:OpE):OpenD:=⟨e.d,e.took⟩
def OpE.cells (e:OpE):List Value:=[.int .i64 e.d.Kind,.int .i64 e.d.By,.int .i64 e.d.No,.int .i64 e.d.Seen,.int .i64 e.d.At,.int .i64 e.d.Many,.string e.d.Text,.slice e.ta e.took.length e.tc,.bool e.sent]
def flatO (l:List OpE):List Value:=l.flatMap OpE.cells
@[simp] theorem OpE.cells_length (c:OpE):c.cells.length=9:=rfl
theorem flatO_length (l:List OpE):(flatO l).length=l.length * 9:=by
 induction l with
 | nil=>rfl
 | cons c l ih=>simp only [flatO,List.flatMap_cons,List.length_append,OpE.cells_length,List.length_cons] at *;omega
theorem flatO_append (l m:List OpE):flatO (l++m)=flatO l++flatO m:=by simp [flatO]
theorem flatO_cons (c:OpE) (l:List OpE):flatO (c :: l)=c.cells++flatO l:=rfl
theorem flatO_get (l:List OpE):∀ (i:Nat) (h:i < l.length) (j:Nat),j < 9→(flatO l)[i * 9+j]? = l[i].cells[j]?:=by
 induction l with
 | nil=>intro i h;simp at h
 | cons c l ih=>
  intro i h j hj
  rw [flatO_cons]
  cases i with
  | zero=>rw [List.getElem?_append_left (by simp;omega)];simp
  | succ i=>
   rw [List.getElem?_append_right (by simp;omega)]
   have:=ih i (by simpa using h) j hj
   simp only [OpE.cells_length,List.getElem_cons_succ]
   rw [← this];congr 1;omega
theorem OpE.cells_one (c:OpE):∀ u∈c.cells,u.oneCell'=true:=by
 intro u hu;simp [OpE.cells] at hu;rcases hu with h | h | h | h | h | h | h | h | h <;> subst h <;> rfl
theorem flatO_sent:∀ (l:List OpE) (i:Nat) (h:i < l.length),(flatO l).set (i * 9+8) (.bool true)=flatO (l.set i { l[i] with sent:=true }):=by
 intro l
 induction l with
 | nil=>intro i h;simp at h
 | cons c l ih=>
  intro i h
  cases i with
  | zero=>simp only [flatO_cons,List.set_cons_zero,List.getElem_cons_zero];rw [List.set_append_left _ _ (by simp)];rfl
  | succ i=>
   have h' : i < l.length:=by simpa using h
   simp only [flatO_cons,List.set_cons_succ,List.getElem_cons_succ]
   rw [List.set_append_right _ _ (by simp;omega),← ih i h']
   congr 2;simp;omega
theorem OwnRow.tl {w:World} {base:Nat} {e:TypeId} {size:Nat} {b off n cap:Nat} {xs:List Value} (h:OwnRow w base e size (some ⟨b,off,none⟩) n cap xs) (hn:1≤n) :
 OwnRow w base e size (some ⟨b,off+size,none⟩) (n - 1) (cap - 1) (xs.drop size):=by
 obtain ⟨m,rfl⟩:∃ m,n=m+1:=⟨n - 1,by omega⟩
 have hle:=h.le
 obtain ⟨c,rfl⟩:∃ c,cap=c+1:=⟨cap - 1,by omega⟩
 refine ⟨by omega,by have:=h.max;omega,by rw [List.length_drop,h.len];simp [Nat.add_mul],?_⟩
 rcases h.own with h0 | ⟨g,off',cur,ha,hb,hh,hf,ht⟩
 ·omega
 ·cases ha
  refine .inr ⟨b,off+size,cur,rfl,hb,hh,?_,?_⟩
  ·rw [Nat.add_mul,Nat.one_mul] at hf;simp;omega
  ·rw [← ht,List.drop_take,List.drop_drop]
   congr 1
   rw [Nat.add_mul];simp
theorem ownB_tl {b off o2 cap k:Nat} (h:ownB (some ⟨b,o2,none⟩) (cap - 1)=some k):ownB (some ⟨b,off,none⟩) cap=some k:=by
 unfold ownB at *
 split at h
 ·cases h
 ·rw [if_neg (by omega)];simpa using h
theorem OwnRow.setAt {w:World} {base:Nat} {e:TypeId} {size:Nat} {b off n cap:Nat} {xs:List Value} (h:OwnRow w base e size (some ⟨b,off,none⟩) n cap xs) (c:Nat) (v:Value) (hc:c < xs.length) (hv:v.oneCell'=true) :
 OwnRow (w.setCell ⟨b,off+c,none⟩ v) base e size (some ⟨b,off,none⟩) n cap (xs.set c v):=by
 obtain ⟨w',hr,h2,h3⟩:=own_store (P:=Tryz.prog) h rfl c [v] (by simp;omega) (one1 hv) (by omega)
 have e2:xs.take c++[v]++xs.drop (c+[v].length)=xs.set c v:=by
  rw [List.set_eq_take_append_cons_drop,if_pos hc];simp
 rw [e2] at h2
 rcases h.own with h0 | ⟨g,off',cur,ha,hb,hh,hf,ht⟩
 ·have h1:=h.le;have h4:=h.len;subst h0;obtain rfl:n=0:=by omega
  omega
 ·cases ha
  have hx:=h.len
  have hn:n * size≤cap * size:=Nat.mul_le_mul_right _ h.le
  have hst:=run_storeCells_at Tryz.prog b (off+c) e [v] 0 cur w hh (by simp;omega) (one1 hv)
  simp only [Nat.add_zero] at hst
  rw [hr] at hst
  have e3:w'=w.setRow b (cur.toList.take (off+c)++[v]++cur.toList.drop (off+c+[v].length)).toArray:=by
   injection hst
  have e4:w.setCell ⟨b,off+c,none⟩ v=w':=by
   rw [e3]
   have hlt:off+c < cur.size:=by omega
   have e5:(cur.toList.take (off+c)++[v]++cur.toList.drop (off+c+[v].length)).toArray=cur.set! (off+c) v:=by
    apply Array.toList_inj.1
    simp [List.set_eq_take_append_cons_drop,hlt]
   rw [e5]
   unfold World.setCell World.setRow
   simp [hh]
   apply Array.ext_getElem?
   intro i
   simp only [Array.getElem?_modify]
   split
   ·next e=>subst e;rw [hh];rfl
   ·rfl
  rw [e4];exact h2
structure WrV where
 (me seen next:Int) (L:List Ch) (os:List OpenD) (ns:Nat)
def WM.v (m:WM):WrV:=⟨m.me,m.seen,m.next,m.chars,m.opn,m.ns⟩
structure WrRows (w:World) (base:Nat) (F:Nat→Prop) (g:Nat) (s:WrV) (a:Option Addr) (cap:Nat) (oa:Option Addr) (ocap:Nat) (es:List OpE):Prop where
 c3:w.cell? ⟨g,3,none⟩=some (.slice a s.L.length cap)
 c4:w.cell? ⟨g,4,none⟩=some (.slice oa es.length ocap)
 eo:es.map OpE.o=s.os
 sent:∀ i (h:i < es.length),es[i].sent=decide (i < s.ns)
 ra:OwnRow w base 125 7 a s.L.length cap (flat s.L)
 ro:OwnRow w base 174 9 oa es.length ocap (flatO es)
 fa:∀ k,ownB a cap=some k→F k∧k≠g
 fo:∀ k,ownB oa ocap=some k→F k∧k≠g∧ownB a cap≠some k
 rt:∀ e∈es,OwnRow w base 125 7 e.ta e.took.length e.tc (flat e.took)∧∀ k,ownB e.ta e.tc=some k→F k∧k≠g∧ownB a cap≠some k∧ownB oa ocap≠some k
structure WrAt (w:World) (base:Nat) (F:Nat→Prop) (g:Nat) (s:WrV):Prop where
 lt:g < w.heap.size
 fg:F g
 foot:∀ k,F k→base≤k∧k < w.heap.size
 fz:∀ o,o < 5→w.frozen? ⟨g,o,none⟩=false
 c0:w.cell? ⟨g,0,none⟩=some (.int .i64 s.me)
 c1:w.cell? ⟨g,1,none⟩=some (.int .i64 s.seen)
 c2:w.cell? ⟨g,2,none⟩=some (.int .i64 s.next)
 rows:∃ a cap oa ocap es,WrRows w base F g s a cap oa ocap es
section
variable {w w' : World} {base:Nat} {F:Nat→Prop} {g:Nat} {s:WrV}
theorem WrRows.len {a oa:Option Addr} {cap ocap:Nat} {es:List OpE} (h:WrRows w base F g s a cap oa ocap es):es.length=s.os.length:=by rw [← h.eo,List.length_map]
theorem WrAt.base_le (h:WrAt w base F g s):base≤w.heap.size:=by have:=h.foot g h.fg;omega
theorem WrRows.moves {a oa:Option Addr} {cap ocap:Nat} {es:List OpE} (h:WrRows w base F g s a cap oa ocap es) (hlt:g < w.heap.size) (fg:F g) {G:Nat→Prop} (hm:Moves G w w') (hd:∀ k,F k→¬ G k):WrRows w' base F g s a cap oa ocap es:=by
 have hc:∀ o,w'.cell? ⟨g,o,none⟩=w.cell? ⟨g,o,none⟩:=fun o=>hm.cell hlt (hd g fg) o
 exact ⟨(hc _).trans h.c3,(hc _).trans h.c4,h.eo,h.sent,h.ra.moves hm fun k hk=>hd k (h.fa k hk).1,h.ro.moves hm fun k hk=>hd k (h.fo k hk).1,h.fa,h.fo,
  fun e he=>⟨(h.rt e he).1.moves hm fun k hk=>hd k ((h.rt e he).2 k hk).1,(h.rt e he).2⟩⟩
theorem WrAt.moves (h:WrAt w base F g s) {G:Nat→Prop} (hm:Moves G w w') (hd:∀ k,F k→¬ G k):WrAt w' base F g s:=by
 have hc:∀ o,w'.cell? ⟨g,o,none⟩=w.cell? ⟨g,o,none⟩:=fun o=>hm.cell h.lt (hd g h.fg) o
 obtain ⟨a,cap,oa,ocap,es,r⟩:=h.rows
 exact ⟨Nat.lt_of_lt_of_le h.lt hm.size,h.fg,fun k hk=>⟨(h.foot k hk).1,Nat.lt_of_lt_of_le (h.foot k hk).2 hm.size⟩,fun o ho=>(hm.frozen h.lt (hd g h.fg) o).trans (h.fz o ho),
  (hc _).trans h.c0,(hc _).trans h.c1,(hc _).trans h.c2,⟨a,cap,oa,ocap,es,r.moves h.lt h.fg hm hd⟩⟩
theorem WrAt.later (h:WrAt w base F g s) (hl:Below w.heap.size w w'):WrAt w' base F g s:=by
 have hb:Moves (fun k=>w.heap.size≤k) w w':=Moves.of_below hl
 exact h.moves hb fun k hk=>by have:=(h.foot k hk).2;omega
theorem WrAt.drew (h:WrAt w base F g s):WrAt w.drew base F g s:=h.moves (G:=fun _=>False) ⟨rfl,rfl,rfl,Nat.le_refl _,fun _ _ _=>rfl⟩ (fun _ _ h=>h)
theorem WrAt.below (h:WrAt w base F g s) (hm:Moves F w w'):Below base w w':=hm.below (fun k hk=>(h.foot k hk).1) h.base_le
theorem WrAt.above {A:Nat} (h:WrAt w base F g s) (hb:Below A w w') (hF:∀ k,F k→k < A):WrAt w' base F g s:=
 h.moves (G:=fun k=>A≤k) ⟨hb.os,hb.tape,hb.output,hb.size,fun k _ hn=>hb.block k (by omega)⟩ (fun k h1 h2=>by have:=hF k h1;omega)
theorem WrAt.congr {s' : WrV} (h:WrAt w base F g s) (e:s=s'):WrAt w base F g s':=e ▸ h
theorem WrRows.setInt {a oa:Option Addr} {cap ocap:Nat} {es:List OpE} (r:WrRows w base F g s a cap oa ocap es) (i:Nat) (v:Value) (hi:i≠3∧i≠4):WrRows (w.setCell ⟨g,i,none⟩ v) base F g s a cap oa ocap es:=by
 have ho:∀ o,o≠i→(w.setCell ⟨g,i,none⟩ v).cell? ⟨g,o,none⟩=w.cell? ⟨g,o,none⟩:=fun o ho=>World.cell?_setCell_other _ _ _ _ (fun e=>ho (by cases e;rfl))
 exact ⟨(ho 3 (by omega)).trans r.c3,(ho 4 (by omega)).trans r.c4,r.eo,r.sent,r.ra.setCell _ _ fun k hk=>(r.fa k hk).2,r.ro.setCell _ _ fun k hk=>(r.fo k hk).2.1,r.fa,r.fo,
  fun e he=>⟨(r.rt e he).1.setCell _ _ fun k hk=>((r.rt e he).2 k hk).2.1,(r.rt e he).2⟩⟩
theorem WrRows.congr {s' : WrV} {a oa:Option Addr} {cap ocap:Nat} {es:List OpE} (r:WrRows w base F g s a cap oa ocap es) (h1:s'.L=s.L) (h2:s'.os=s.os) (h3:s'.ns=s.ns):WrRows w base F g s' a cap oa ocap es:=
 ⟨by rw [h1];exact r.c3,r.c4,by rw [h2];exact r.eo,by rw [h3];exact r.sent,by rw [h1];exact r.ra,r.ro,r.fa,r.fo,r.rt⟩
theorem WrAt.setInt (h:WrAt w base F g s) (i:Nat) (v:Int) (s' : WrV) (hL:s'.L=s.L) (hD:s'.os=s.os) (hN:s'.ns=s.ns) (hi:i≠3∧i≠4)
 (h0:s'.me=if i=0 then v else s.me) (h1:s'.seen=if i=1 then v else s.seen) (h2:s'.next=if i=2 then v else s.next):WrAt (w.setCell ⟨g,i,none⟩ (.int .i64 v)) base F g s':=by
 obtain ⟨a,cap,oa,ocap,es,r⟩:=h.rows
 have ho:∀ o,o≠i→(w.setCell ⟨g,i,none⟩ (.int .i64 v)).cell? ⟨g,o,none⟩=w.cell? ⟨g,o,none⟩:=fun o ho=>World.cell?_setCell_other _ _ _ _ (fun e=>ho (by cases e;rfl))
 have key:∀ (o:Nat) (x y:Int),w.cell? ⟨g,o,none⟩=some (.int .i64 x)→y=(if i=o then v else x)→(w.setCell ⟨g,i,none⟩ (.int .i64 v)).cell? ⟨g,o,none⟩=some (.int .i64 y):=fun o x y hx hy=>by
  by_cases e:i=o
  ·subst e;rw [if_pos rfl] at hy;subst hy;exact World.cell?_setCell_same _ _ _ hx
  ·rw [if_neg e] at hy;subst hy;rw [ho o (fun h=>e h.symm)];exact hx
 exact ⟨by simpa using h.lt,h.fg,fun k hk=>⟨(h.foot k hk).1,by simpa using (h.foot k hk).2⟩,fun o ho=>by rw [World.frozen?_setCell];exact h.fz o ho,
  key 0 _ _ h.c0 h0,key 1 _ _ h.c1 h1,key 2 _ _ h.c2 h2,⟨a,cap,oa,ocap,es,(r.setInt i _ hi).congr hL hD hN⟩⟩
theorem WrAt.setSeen (h:WrAt w base F g s) (v:Int):WrAt (w.setCell ⟨g,1,none⟩ (.int .i64 v)) base F g { s with seen:=v }:=h.setInt 1 v _ rfl rfl rfl (by omega) rfl rfl rfl
theorem WrAt.setNext (h:WrAt w base F g s) (v:Int):WrAt (w.setCell ⟨g,2,none⟩ (.int .i64 v)) base F g { s with next:=v }:=h.setInt 2 v _ rfl rfl rfl (by omega) rfl rfl rfl
theorem WrAt.setList (h:WrAt w base F g s) (a2:Option Addr) (cap2:Nat) (l:List Ch) (hr:OwnRow w base 125 7 a2 l.length cap2 (flat l)) (hn:∀ k,ownB a2 cap2=some k→¬ F k) :
 WrAt (w.setCell ⟨g,3,none⟩ (.slice a2 l.length cap2)) base (fun k=>F k∨ownB a2 cap2=some k) g { s with L:=l }:=by
 obtain ⟨a,cap,oa,ocap,es,r⟩:=h.rows
 have ho:∀ o,o≠3→(w.setCell ⟨g,3,none⟩ (.slice a2 l.length cap2)).cell? ⟨g,o,none⟩=w.cell? ⟨g,o,none⟩:=fun o ho=>World.cell?_setCell_other _ _ _ _ (fun e=>ho (by cases e;rfl))
 have h2g:∀ k,ownB a2 cap2=some k→k≠g:=fun k hk e=>hn k hk (e ▸ h.fg)
 refine ⟨by simpa using h.lt,.inl h.fg,fun k hk=>?_,fun o ho=>by rw [World.frozen?_setCell];exact h.fz o ho,
  (ho 0 (by omega)).trans h.c0,(ho 1 (by omega)).trans h.c1,(ho 2 (by omega)).trans h.c2,
  ⟨a2,cap2,oa,ocap,es,⟨World.cell?_setCell_same _ _ _ r.c3,(ho 4 (by omega)).trans r.c4,r.eo,r.sent,hr.setCell _ _ h2g,r.ro.setCell _ _ fun k hk=>(r.fo k hk).2.1,fun k hk=>⟨.inr hk,h2g k hk⟩,
    fun k hk=>⟨.inl (r.fo k hk).1,(r.fo k hk).2.1,fun e=>hn k e (r.fo k hk).1⟩,
    fun e he=>⟨(r.rt e he).1.setCell _ _ fun k hk=>((r.rt e he).2 k hk).2.1,fun k hk=>⟨.inl ((r.rt e he).2 k hk).1,((r.rt e he).2 k hk).2.1,fun e2=>hn k e2 ((r.rt e he).2 k hk).1,((r.rt e he).2 k hk).2.2.2⟩⟩⟩⟩⟩
 simp only [World.size_setCell]
 rcases hk with hk | hk
 ·exact h.foot k hk
 ·exact hr.base_le k hk
theorem WrRows.inList {a oa:Option Addr} {cap ocap:Nat} {es:List OpE} (r:WrRows w base F g s a cap oa ocap es) (hlt:g < w.heap.size) (L' : List Ch) (hl:L'.length=s.L.length) (hm:Moves (fun k=>ownB a cap=some k) w w') (hr:OwnRow w' base 125 7 a s.L.length cap (flat L')):WrRows w' base F g { s with L:=L' } a cap oa ocap es:=by
 have hg:¬ ownB a cap=some g:=fun e=>(r.fa g e).2 rfl
 have hc:∀ o,w'.cell? ⟨g,o,none⟩=w.cell? ⟨g,o,none⟩:=fun o=>hm.cell hlt hg o
 refine ⟨?_,(hc _).trans r.c4,r.eo,r.sent,?_,r.ro.moves hm fun k hk=>(r.fo k hk).2.2,r.fa,r.fo,fun e he=>⟨(r.rt e he).1.moves hm fun k hk=>((r.rt e he).2 k hk).2.2.1,(r.rt e he).2⟩⟩
 ·show w'.cell? _=some (.slice a L'.length cap)
  rw [hl];exact (hc _).trans r.c3
 ·show OwnRow w' base _ 7 a L'.length cap (flat L')
  rw [hl];exact hr
theorem WrAt.inList {a oa:Option Addr} {cap ocap:Nat} {es:List OpE} (h:WrAt w base F g s) (r:WrRows w base F g s a cap oa ocap es) (L' : List Ch) (hl:L'.length=s.L.length) (hm:Moves (fun k=>ownB a cap=some k) w w') (hr:OwnRow w' base 125 7 a s.L.length cap (flat L')) :
 WrAt w' base F g { s with L:=L' }∧WrRows w' base F g { s with L:=L' } a cap oa ocap es:=by
 have hg:¬ ownB a cap=some g:=fun e=>(r.fa g e).2 rfl
 have hc:∀ o,w'.cell? ⟨g,o,none⟩=w.cell? ⟨g,o,none⟩:=fun o=>hm.cell h.lt hg o
 have r':=r.inList h.lt L' hl hm hr
 exact ⟨⟨Nat.lt_of_lt_of_le h.lt hm.size,h.fg,fun k hk=>⟨(h.foot k hk).1,Nat.lt_of_lt_of_le (h.foot k hk).2 hm.size⟩,fun o ho=>(hm.frozen h.lt hg o).trans (h.fz o ho),
  (hc _).trans h.c0,(hc _).trans h.c1,(hc _).trans h.c2,⟨a,cap,oa,ocap,es,r'⟩⟩,r'⟩
theorem WrAt.grown {w5 w6:World} {base:Nat} {F:Nat→Prop} {g:Nat} {s:WrV} {E:OpE} {a oa a6:Option Addr} {cap ocap cap6:Nat} {es:List OpE} (h:WrAt w5 base F g s)
 (r:WrRows w5 base F g s a cap oa ocap es) (hE:E.sent=decide (es.length < s.ns)) (hrt:OwnRow w5 base 125 7 E.ta E.took.length E.tc (flat E.took)) (hft:∀ k,ownB E.ta E.tc=some k→¬ F k)
 (hrow6:OwnRow w6 base 174 9 a6 (es.length+1) cap6 (flatO es++E.cells)) (hgr:w5.grownBy w6 (ownB oa ocap)) (hnew:∀ k,ownB a6 cap6=some k→ownB oa ocap=some k∨w5.heap.size≤k) :
 WrAt (w6.setCell ⟨g,4,none⟩ (.slice a6 (es.length+1) cap6)) base (fun k=>F k∨ownB a6 cap6=some k∨ownB E.ta E.tc=some k) g { s with os:=s.os++[E.o] }:=by
 have hm:Moves (fun k=>ownB oa ocap=some k) w5 w6:=Moves.of_grown hgr fun k hk=>hk
 have hg:¬ ownB oa ocap=some g:=fun e=>(r.fo g e).2.1 rfl
 have hc:∀ o,w6.cell? ⟨g,o,none⟩=w5.cell? ⟨g,o,none⟩:=fun o=>hm.cell h.lt hg o
 have hs:∀ o,o≠4→(w6.setCell ⟨g,4,none⟩ (.slice a6 (es.length+1) cap6)).cell? ⟨g,o,none⟩=w5.cell? ⟨g,o,none⟩:=fun o ho=>(World.cell?_setCell_other _ _ _ _ (fun e=>ho (by cases e;rfl))).trans (hc o)
 have h6g:∀ k,ownB a6 cap6=some k→k≠g:=fun k hk e=>by
  rcases hnew k hk with h1 | h1
  ·exact (r.fo k h1).2.1 e
  ·have:=h.lt;omega
 have h6a:∀ k,ownB a6 cap6=some k→ownB a cap≠some k:=fun k hk e=>by
  rcases hnew k hk with h1 | h1
  ·exact (r.fo k h1).2.2 e
  ·have:=(r.ra.base_le k e).2;omega
 have h6t:∀ (t:Option Addr) (tc:Nat),(∀ k,ownB t tc=some k→ownB oa ocap≠some k∧k < w5.heap.size)→∀ k,ownB t tc=some k→ownB a6 cap6≠some k:=fun t tc ht k hk e=>by
  rcases hnew k e with h1 | h1
  ·exact (ht k hk).1 h1
  ·have:=(ht k hk).2;omega
 have hto:∀ k,ownB E.ta E.tc=some k→ownB oa ocap≠some k:=fun k hk e=>hft k hk (r.fo k e).1
 have hta:∀ k,ownB E.ta E.tc=some k→ownB a cap≠some k:=fun k hk e=>hft k hk (r.fa k e).1
 have htg:∀ k,ownB E.ta E.tc=some k→k≠g:=fun k hk e=>hft k hk (e ▸ h.fg)
 refine ⟨by simpa using Nat.lt_of_lt_of_le h.lt hm.size,.inl h.fg,fun k hk=>?_,fun o ho=>by rw [World.frozen?_setCell];exact (hm.frozen h.lt hg o).trans (h.fz o ho),
  (hs 0 (by omega)).trans h.c0,(hs 1 (by omega)).trans h.c1,(hs 2 (by omega)).trans h.c2,
  ⟨a,cap,a6,cap6,es++[E],⟨(hs 3 (by omega)).trans r.c3,?_,by rw [List.map_append,r.eo];rfl,?_,?_,?_,fun k hk=>⟨.inl (r.fa k hk).1,(r.fa k hk).2⟩,fun k hk=>⟨.inr (.inl hk),h6g k hk,h6a k hk⟩,?_⟩⟩⟩
 ·simp only [World.size_setCell]
  rcases hk with hk | hk | hk
  ·exact ⟨(h.foot k hk).1,Nat.lt_of_lt_of_le (h.foot k hk).2 hm.size⟩
  ·exact hrow6.base_le k hk
  ·exact ⟨(hrt.base_le k hk).1,Nat.lt_of_lt_of_le (hrt.base_le k hk).2 hm.size⟩
 ·rw [List.length_append]
  exact World.cell?_setCell_same _ _ _ ((hc 4).trans r.c4)
 ·intro i hi
  by_cases h1:i < es.length
  ·rw [List.getElem_append_left h1];exact r.sent i h1
  ·have:i=es.length:=by simp at hi;omega
   subst this;simp [hE]
 ·exact (r.ra.moves hm fun k hk e=>(r.fo k e).2.2 hk).setCell _ _ fun k hk=>(r.fa k hk).2
 ·rw [List.length_append,flatO_append]
  have:flatO [E]=E.cells:=by simp [flatO]
  rw [this]
  exact hrow6.setCell _ _ h6g
 ·intro e he
  rcases List.mem_append.1 he with he | he
  ·obtain ⟨t1,t2⟩:=r.rt e he
   exact ⟨(t1.moves hm fun k hk=>(t2 k hk).2.2.2).setCell _ _ fun k hk=>(t2 k hk).2.1,fun k hk=>⟨.inl (t2 k hk).1,(t2 k hk).2.1,(t2 k hk).2.2.1,h6t _ _ (fun k hk=>⟨(t2 k hk).2.2.2,(t1.base_le k hk).2⟩) k hk⟩⟩
  ·simp only [List.mem_singleton] at he;subst he
   exact ⟨(hrt.moves hm fun k hk=>hto k hk).setCell _ _ fun k hk=>htg k hk,fun k hk=>⟨.inr (.inr hk),htg k hk,hta k hk,h6t _ _ (fun k hk=>⟨hto k hk,(hrt.base_le k hk).2⟩) k hk⟩⟩
theorem WrAt.dropOpenG {b off cap ocap:Nat} {a oa2:Option Addr} {es:List OpE} (h:WrAt w base F g s) (r:WrRows w base F g s a cap (some ⟨b,off,none⟩) ocap es)
 (hro:OwnRow w base 174 9 oa2 (es.length - 1) (ocap - 1) (flatO es.tail)) (hB:∀ k,ownB oa2 (ocap - 1)=some k→ownB (some ⟨b,off,none⟩) ocap=some k) :
 WrAt (w.setCell ⟨g,4,none⟩ (.slice oa2 (es.length - 1) (ocap - 1))) base F g { s with os:=s.os.tail,ns:=s.ns - 1 }:=by
 have ho:∀ o,o≠4→(w.setCell ⟨g,4,none⟩ (.slice oa2 (es.length - 1) (ocap - 1))).cell? ⟨g,o,none⟩=w.cell? ⟨g,o,none⟩:=fun o ho=>World.cell?_setCell_other _ _ _ _ (fun e=>ho (by cases e;rfl))
 refine ⟨by simpa using h.lt,h.fg,fun k hk=>⟨(h.foot k hk).1,by simpa using (h.foot k hk).2⟩,fun o ho=>by rw [World.frozen?_setCell];exact h.fz o ho,
  (ho 0 (by omega)).trans h.c0,(ho 1 (by omega)).trans h.c1,(ho 2 (by omega)).trans h.c2,
  ⟨a,cap,oa2,ocap - 1,es.tail,⟨(ho 3 (by omega)).trans r.c3,?_,by rw [List.map_tail,r.eo],?_,r.ra.setCell _ _ fun k hk=>(r.fa k hk).2,?_,r.fa,fun k hk=>r.fo k (hB k hk),?_⟩⟩⟩
 ·rw [List.length_tail]
  exact World.cell?_setCell_same _ _ _ r.c4
 ·intro i hi
  simp only [List.length_tail] at hi
  rw [List.getElem_tail,r.sent (i+1) (by omega)]
  apply decide_eq_decide.2
  show i+1 < s.ns↔i < s.ns - 1
  omega
 ·rw [List.length_tail]
  exact hro.setCell _ _ fun k hk=>(r.fo k (hB k hk)).2.1
 ·intro e he
  have he':=List.mem_of_mem_tail he
  exact ⟨(r.rt e he').1.setCell _ _ fun k hk=>((r.rt e he').2 k hk).2.1,fun k hk=>⟨((r.rt e he').2 k hk).1,((r.rt e he').2 k hk).2.1,((r.rt e he').2 k hk).2.2.1,fun e2=>((r.rt e he').2 k hk).2.2.2 (hB k e2)⟩⟩
theorem WrAt.dropOpen {b off cap ocap:Nat} {a:Option Addr} {es:List OpE} (h:WrAt w base F g s) (r:WrRows w base F g s a cap (some ⟨b,off,none⟩) ocap es) (hn:1≤es.length) :
 WrAt (w.setCell ⟨g,4,none⟩ (.slice (some ⟨b,off+9,none⟩) (es.length - 1) (ocap - 1))) base F g { s with os:=s.os.tail,ns:=s.ns - 1 }:=by
 refine h.dropOpenG r ?_ fun k=>ownB_tl
 have h1:=r.ro.tl hn
 have e:(flatO es).drop 9=flatO es.tail:=by
  cases es with
  | nil=>simp at hn
  | cons c l=>rw [flatO_cons,List.drop_append_of_le_length (by simp),List.drop_of_length_le (by simp)];rfl
 rw [← e];exact h1
theorem WrAt.dropLast {b off cap:Nat} {a:Option Addr} {es:List OpE} (h:WrAt w base F g s) (r:WrRows w base F g s a cap (some ⟨b,off,none⟩) 1 es) (hn:es.length=1) :
 WrAt (w.setCell ⟨g,4,none⟩ (.slice (some ⟨b,off,none⟩) 0 0)) base F g { s with os:=s.os.tail,ns:=s.ns - 1 }:=by
 have e:es.tail=[]:=by cases es with | nil=>rfl | cons c l=>simp at hn;subst hn;rfl
 have:=h.dropOpenG r (oa2:=some ⟨b,off,none⟩) (by rw [hn,e];exact OwnRow.nil _ _ _ _ _) fun k hk=>by simp [ownB] at hk
 rw [hn] at this;exact this
theorem WrAt.setSent {b off cap ocap:Nat} {a:Option Addr} {es:List OpE} (h:WrAt w base F g s) (r:WrRows w base F g s a cap (some ⟨b,off,none⟩) ocap es) (hn:s.ns < es.length) :
 WrAt (w.setCell ⟨b,off+(s.ns * 9+8),none⟩ (.bool true)) base F g { s with ns:=s.ns+1 }∧
 WrRows (w.setCell ⟨b,off+(s.ns * 9+8),none⟩ (.bool true)) base F g { s with ns:=s.ns+1 } a cap (some ⟨b,off,none⟩) ocap (es.set s.ns { es[s.ns] with sent:=true }):=by
 have hoc:ownB (some ⟨b,off,none⟩) ocap=some b:=by
  unfold ownB;rw [if_neg (by have:=r.ro.le;omega)];rfl
 have hm:Moves (fun k=>k=b) w (w.setCell ⟨b,off+(s.ns * 9+8),none⟩ (.bool true)):=Moves.setCell _ _ _ rfl
 have hbg:¬ g=b:=fun e=>(r.fo b hoc).2.1 e.symm
 have hc:∀ o,(w.setCell ⟨b,off+(s.ns * 9+8),none⟩ (.bool true)).cell? ⟨g,o,none⟩=w.cell? ⟨g,o,none⟩:=fun o=>hm.cell h.lt hbg o
 have hr:WrRows (w.setCell ⟨b,off+(s.ns * 9+8),none⟩ (.bool true)) base F g { s with ns:=s.ns+1 } a cap (some ⟨b,off,none⟩) ocap (es.set s.ns { es[s.ns] with sent:=true }):=by
  refine ⟨(hc 3).trans r.c3,by rw [List.length_set];exact (hc 4).trans r.c4,?_,?_,r.ra.moves hm fun k hk e=>(r.fo b hoc).2.2 (e ▸ hk),?_,r.fa,r.fo,?_⟩
  ·rw [List.map_set,← r.eo]
   show (es.map OpE.o).set s.ns (OpE.o es[s.ns])=es.map OpE.o
   rw [show OpE.o es[s.ns]=(es.map OpE.o)[s.ns]'(by simpa using hn) by simp]
   exact List.set_getElem_self _
  ·intro i hi
   simp only [List.length_set] at hi
   rw [List.getElem_set]
   split
   ·next e=>subst e;simp
   ·next e=>rw [r.sent i hi];apply decide_eq_decide.2;show i < s.ns↔i < s.ns+1;omega
  ·rw [List.length_set,← flatO_sent es s.ns hn]
   exact r.ro.setAt _ _ (by rw [flatO_length];omega) rfl
  ·intro e he
   have key:∀ e0∈es,OwnRow (w.setCell ⟨b,off+(s.ns * 9+8),none⟩ (.bool true)) base 125 7 e0.ta e0.took.length e0.tc (flat e0.took):=fun e0 h0=>(r.rt e0 h0).1.moves hm fun k hk e=>((r.rt e0 h0).2 k hk).2.2.2 (e ▸ hoc)
   rcases List.mem_or_eq_of_mem_set he with he | he
   ·exact ⟨key e he,(r.rt e he).2⟩
   ·subst he
    have h1:=List.getElem_mem hn
    exact ⟨key es[s.ns] h1,(r.rt es[s.ns] h1).2⟩
 exact ⟨⟨by simpa using h.lt,h.fg,fun k hk=>⟨(h.foot k hk).1,by simpa using (h.foot k hk).2⟩,fun o ho=>by rw [World.frozen?_setCell];exact h.fz o ho,
  (hc 0).trans h.c0,(hc 1).trans h.c1,(hc 2).trans h.c2,⟨a,cap,_,ocap,_,hr⟩⟩,hr⟩
theorem WrRows.nth {a oa:Option Addr} {cap ocap:Nat} {es:List OpE} (r:WrRows w base F g s a cap oa ocap es) (i:Nat) (hi:i < es.length) :
 ∃ b off,oa=some ⟨b,off,none⟩∧base≤b∧b < w.heap.size∧ownB oa ocap=some b∧w.cell? ⟨b,off+i * 9,none⟩=some (.int .i64 es[i].d.Kind)∧w.cell? ⟨b,off+i * 9+1,none⟩=some (.int .i64 es[i].d.By)∧w.cell? ⟨b,off+i * 9+2,none⟩=some (.int .i64 es[i].d.No)∧w.cell? ⟨b,off+i * 9+3,none⟩=some (.int .i64 es[i].d.Seen)∧
  w.cell? ⟨b,off+i * 9+4,none⟩=some (.int .i64 es[i].d.At)∧w.cell? ⟨b,off+i * 9+5,none⟩=some (.int .i64 es[i].d.Many)∧w.cell? ⟨b,off+i * 9+6,none⟩=some (.string es[i].d.Text)∧
  w.cell? ⟨b,off+i * 9+7,none⟩=some (.slice es[i].ta es[i].took.length es[i].tc)∧w.cell? ⟨b,off+i * 9+8,none⟩=some (.bool es[i].sent):=by
 obtain ⟨b,off,ha,h1,h2,hc⟩:=r.ro.cell (by rw [flatO_length];omega)
 have k:∀ j u,es[i].cells[j]? = some u→j < 9→w.cell? ⟨b,off+i * 9+j,none⟩=some u:=fun j u hu hj=>by
  rw [Nat.add_assoc];exact hc _ _ ((flatO_get es i hi j hj).trans hu)
 exact ⟨b,off,ha,h1,h2,by subst ha;unfold ownB;rw [if_neg (by have:=r.ro.le;omega)];rfl,k 0 _ rfl (by omega),k 1 _ rfl (by omega),k 2 _ rfl (by omega),k 3 _ rfl (by omega),k 4 _ rfl (by omega),k 5 _ rfl (by omega),k 6 _ rfl (by omega),k 7 _ rfl (by omega),k 8 _ rfl (by omega)⟩
end
end Go.Proofs.YtneoeokfffnonaaGreatDoor
namespace Go.Proofs.YtneoeokfffnonaaGreatDoor
open Go.RowKit
theorem ti_open:TInfo Tryz.prog 174 9 96:=.mk (z:=.agg #[.int .i64 0,.int .i64 0,.int .i64 0,.int .i64 0,.int .i64 0,.int .i64 0,.string ⟨#[]⟩,.slice none 0 0,.bool false]) (by kernel_rfl) rfl (by decide)
theorem idx_any (p:Ch→Bool) (l:List Ch):∀ i:Int,0≤i→decide (0≤idxFrom p l i)=l.any p:=by
 induction l with
 | nil=>intro i _;simp [idxFrom]
 | cons x l ih=>
  intro i hi
  unfold idxFrom
  cases hx:p x
  ·simp only [Bool.false_eq_true,if_false,List.any_cons,hx,Bool.false_or];exact ih _ (by omega)
  ·simp [hx,hi]
theorem ContainsFunc_c (a:Option Addr) (cap:Nat) (l:List Ch) (g:FuncId) (fst caps:Array Value) (p:Ch→Bool) (w:World) (hs:SlCh w a cap l) (hp:PredCall Tryz.prog g fst caps p w) (heg:∀ (args:Array Value) (W:World),Sem.run Tryz.prog (callFunc g args) W=.ok (.enter g args) W) :
 Calls Tryz.prog 156 #[.slice a l.length cap,.func (.func g) fst caps] w fun e w'=>e=.returned (.bool (l.any p))∧Below w.heap.size w w':=by
 have HA:=Lib.hid (idx_any p l 0 (by omega))
 go_enter Tryz.func156,Tryz.ntmps156
 go_wp2_with fail
 refine (IndexFunc_c a cap l g fst caps p _ hs hp heg).mono ?_
 rintro e w1 ⟨rfl,hb1⟩
 go_wp2
 go_ret
 exact ⟨by rw [← HA.out];rfl,hb1⟩
theorem WNew1_c (x:Ch) (w:World) :
 Calls Tryz.prog 157 #[.agg #[.int .u8 x.C,.int .i64 x.By,.int .i64 x.No,.int .i64 x.K,.int .i64 x.In,.int .i64 x.Out,.int .i64 x.Gone]] w fun e w'=>e=.returned (.bool (isOpen x))∧Below w.heap.size w w':=by
 go_enter Tryz.func157,Tryz.ntmps157
 go_wp2
 go_ret
 exact ⟨rfl,(Below.refl _ _).alloc (Nat.le_refl _) _⟩
theorem listFault_len {l:List Ch} {log:Int} (h:listFault l log=0):l.length≤200:=by
 unfold listFault at h;split at h <;> omega
theorem WNew_c (me next seen:Int) (a:Option Addr) (cap:Nat) (l:List Ch) (w:World) (hs:SlCh w a cap l) (hnil:a=none→cap=0)
 (hme:isWriter me=true) (hnx:1≤next) (hs0:0≤seen∧seen≤120) (hf:listFault l seen=0) (hop:∀ c∈l,c.In≠1073741824) :
 Calls Tryz.prog 123 #[.int .i64 me,.int .i64 next,.int .i64 seen,.slice a l.length cap] w fun e w'=>∃ F g,e=.returned (.pointer (some ⟨g,0,none⟩))∧WrAt w' w.heap.size F g ⟨me,seen,next,l,[],0⟩∧Below w.heap.size w w':=by
 have hl:=listFault_len hf
 have HS:=Lib.hid hs;have HN:=Lib.hid hnil
 have HAny:=Lib.hid (show l.any isOpen=false from by
  rw [List.any_eq_false];intro c hc;simpa [isOpen] using hop c hc)
 have h1:decide (next < 1)=false:=decide_eq_false (by omega)
 have h2:decide (seen < 0)=false:=decide_eq_false (by omega)
 have h3:decide (seen > 120)=false:=decide_eq_false (by omega)
 have h3' : decide (120 < seen)=false:=decide_eq_false (by omega)
 have HW:=Lib.hid hme;have HF:=Lib.hid hf
 clear hs hnil hop hme hnx hs0 hf
 go_enter Tryz.func123,Tryz.ntmps123
 go_wp2_with fail
 refine (Writer_c me _).mono ?_
 rintro e w0 ⟨rfl,rfl⟩
 rw [HW.out]
 go_wp2_with fail
 refine (Check_c a cap l seen _ HS.out).mono ?_
 rintro e w1 ⟨rfl,hb1⟩
 rw [HF.out]
 have HS1:=Lib.hid (HS.out.below hb1)
 have HB1:=Lib.hid hb1
 clear hb1
 have hp:PredCall Tryz.prog 157 #[] #[] isOpen w1:=fun c W _=>WNew1_c c W
 go_wp2_with fail
 refine (ContainsFunc_c a cap l _ _ _ isOpen _ HS1.out hp (enters_of Tryz.func157 (by kernel_rfl) rfl)).mono ?_
 clear hp
 rintro e w2 ⟨rfl,hb2⟩
 rw [HAny.out]
 have HS2:=Lib.hid (HS1.out.below hb2)
 have HB2:=Lib.hid (HB1.out.trans (hb2.mono HB1.out.size))
 clear hb2
 go_wp2_with fail
 refine (Clone_c a cap l _ HS2.out (by omega) HN.out).mono ?_
 rintro e w3 ⟨a3,cap3,rfl,ho3,hb3⟩
 have HO:=Lib.hid ho3
 have HB:=Lib.hid (HB2.out.trans (hb3.mono HB2.out.size))
 have HB23:=Lib.hid hb3
 clear ho3 hb3 HS1 HS2 HS
 go_wp2
 go_ret
 have hb4:∀ o,Below w3.heap.size w3 (w3.alloc o):=fun o=>(Below.refl _ _).alloc (Nat.le_refl _) o
 have hs2:=HB2.out.size
 have hs3:=HB23.out.size
 refine ⟨fun k=>k=w3.heap.size∨ownB a3 cap3=some k,w3.heap.size,rfl,?_,HB.out.trans ((hb4 _).mono HB.out.size)⟩
 refine ⟨by simp,.inl rfl,fun k hk=>?_,fun o ho=>by simp,by simp,by simp,by simp,⟨a3,cap3,none,0,[],⟨by simp,by simp,rfl,fun i hi=>by simp at hi,(HO.out.mono hs2).below (hb4 _),OwnRow.nil _ _ _ _ _,fun k hk=>⟨.inr hk,fun e=>?_⟩,fun k hk=>by simp [ownB] at hk,fun e he=>by simp at he⟩⟩⟩
 ·simp only [World.size_alloc]
  rcases hk with rfl | hk
  ·have:=HB.out.size;omega
  ·have:=HO.out.base_le k hk;omega
 ·have:=(HO.out.base_le k hk).2;omega
section
variable {w:World} {base:Nat} {F:Nat→Prop} {g:Nat} {s:WrV}
theorem WSeen_c (h:WrAt w base F g s):Calls Tryz.prog 129 #[.pointer (some ⟨g,0,none⟩)] w fun e w'=>e=.returned (.int .i64 s.seen)∧w'=w:=by
 have c1:=h.c1
 go_enter Tryz.func129,Tryz.ntmps129
 go_wp2
 go_ret
 exact ⟨rfl,rfl⟩
set_option maxRecDepth 100000 in
theorem WText_c (h:WrAt w base F g s) (hl:s.L.length≤1000):Calls Tryz.prog 86 #[.pointer (some ⟨g,0,none⟩)] w fun e w'=>e=.returned (.string (strOfNums (viewN s.seen s.me s.L)))∧Below w.heap.size w w':=by
 obtain ⟨a,cap,oa,ocap,es,r⟩:=h.rows
 have hlt:=h.lt
 have c3:=r.c3
 have c0:=h.c0
 have c1:=h.c1
 have HR:=Lib.hid r
 clear r h
 have C3:=later_cell c3
 have C0:=later_cell c0
 have C1:=later_cell c1
 clear c3 c0 c1
 have hL:∀ q:Lt w,Later w q.v:=fun q=>q.h
 go_enter Tryz.func86,Tryz.ntmps86
 go_upto_region 1 with fail
 refine wp_region_mix [12,13] [0,1,2,3,4,5,6,7,8,9,10,11,12,13,14] (by kernel_rfl) (by kernel_rfl) ?_
 iterate 12 (refine wpMix_step rfl (fun K hK=>?_);go_simp;refine hK _ _ ?_;clear hK K)
 refine wpMix_step rfl (fun K hK=>?_)
 go_simp
 intro p
 refine (View_c a cap s.L _ _ p.v (HR.out.ra.slCh.below p.h) (by omega)).mono ?_
 rintro e w2 ⟨aC,capC,rfl,hoC,hbC⟩
 refine ⟨_,rfl,hbC,hK _ _ ?_⟩
 clear hK K
 have hl2:Later w w2:=(hL p).trans hbC
 have HOC:=Lib.hid (hoC.mono (show w.heap.size≤p.v.heap.size from (hL p).size))
 clear hoC hbC p hL C3 C0 C1
 refine wpMix_step rfl (fun K hK=>?_)
 go_simp
 intro p
 have hcv:=run_convert_row (P:=Tryz.prog) (HOC.out.below p.h) 40 Tryz.underlying40 Tryz.underlying5 9 Tryz.underlying9
 rw [hcv]
 refine And.intro (Later.refl _) (hK _ _ ?_)
 clear hK K hcv
 have hl3:Later w p.v:=hl2.trans p.h
 refine wpMix_step rfl (fun K hK=>?_)
 go_simp
 refine hK _ _ ?_
 clear hK K
 refine wpMix_nil ?_
 intro w4 hL4
 have hl4:Below w.heap.size w w4:=hl3.trans hL4
 clear hl3 hL4 hl2
 go_wp2
 go_ret
 exact ⟨rfl,hl4⟩
theorem WClear_c (h:WrAt w base F g s) (least:Int) (hl:s.L.length≤1000) :
 Calls Tryz.prog 83 #[.pointer (some ⟨g,0,none⟩),.int .i64 least] w fun e w'=>e=.returned (.int .i64 ((s.L.length:Int) - (clearOf least s.L).length))∧∃ F',WrAt w' base F' g { s with L:=clearOf least s.L }∧Moves F w w'∧Grows F w F':=by
 have HA:=Lib.hid h
 obtain ⟨a,cap,oa,ocap,es,r⟩:=h.rows
 have c3:=r.c3
 have HR:=Lib.hid r
 have hglt:=h.lt
 have f3:=h.fz 3 (by omega)
 have hcl:(clearOf least s.L).length≤s.L.length:=by unfold clearOf;exact List.length_filter_le _ _
 have hsub:IntKind.i64.wrap ((s.L.length:Int) - ((clearOf least s.L).length:Int))=(s.L.length:Int) - ((clearOf least s.L).length:Int):=by rw [IntKind.wrap_i64];omega
 clear r h
 go_enter Tryz.func83,Tryz.ntmps83
 go_wp2_with fail
 refine (Of_c a cap s.L least _ HR.out.ra.slCh (by omega) HR.out.ra.nilcap).mono ?_
 rintro e w1 ⟨a1,cap1,rfl,ho1,hb1⟩
 have c3:=(hb1.cell (p:=⟨g,3,none⟩) hglt).trans c3
 have f3:=(hb1.frozen (p:=⟨g,3,none⟩) hglt).trans f3
 have HA1:=Lib.hid (HA.out.later hb1)
 have hnF:∀ k,ownB a1 cap1=some k→¬ F k:=fun k hk hf=>by have:=(ho1.base_le k hk).1;have:=(HA.out.foot k hf).2;omega
 have HE:=Lib.hid (HA1.out.setList a1 cap1 (clearOf least s.L) (ho1.mono HA.out.base_le) hnF)
 have HM:=Lib.hid ((Moves.of_below (F:=F) hb1).trans (Moves.setCell w1 ⟨g,3,none⟩ (.slice a1 (clearOf least s.L).length cap1) HA.out.fg) (fun _ _ k=>k))
 have HG:=Lib.hid (show Grows F w (fun k=>F k∨ownB a1 cap1=some k) from fun k hk=>by
  rcases hk with hk | hk
  ·exact .inl hk
  ·exact .inr (ho1.base_le k hk).1)
 clear ho1 hb1 hnF HA HR
 go_wp2
 go_ret
 exact ⟨rfl,_,HE.out,HM.out,HG.out⟩
def WrV.least (s:WrV):Int:=match (s.os.map (·.d)).drop s.ns with
 | []=>s.seen
 | u :: _=>u.Seen
theorem WrV.least_at (s:WrV) (h:s.ns < s.os.length):s.least=s.os[s.ns].d.Seen:=by
 unfold WrV.least
 rw [List.drop_eq_getElem_cons (by simpa using h)]
 simp
theorem WrV.least_end (s:WrV) (h:s.os.length≤s.ns):s.least=s.seen:=by
 unfold WrV.least
 rw [List.drop_of_length_le (by simpa using h)]
theorem WM.v_least (m:WM):m.v.least=m.least:=rfl
theorem WrRows.os_at {a oa:Option Addr} {cap ocap:Nat} {es:List OpE} (r:WrRows w base F g s a cap oa ocap es) (i:Nat) (hi:i < es.length):∃ h:i < s.os.length,s.os[i]=es[i].o:=by
 refine ⟨by rw [← r.len];exact hi,?_⟩
 have:=r.eo
 subst_vars
 simp [← r.eo]
set_option maxHeartbeats 400000 in
theorem WLeast_c (h:WrAt w base F g s) (hos:s.os.length≤1000000):Calls Tryz.prog 132 #[.pointer (some ⟨g,0,none⟩)] w fun e w'=>e=.returned (.int .i64 s.least)∧Below w.heap.size w w':=by
 obtain ⟨a,cap,oa,ocap,es,r⟩:=h.rows
 have hglt:=h.lt
 have c4:=r.c4
 have c1:=h.c1
 have hel:=r.len
 have HR:=Lib.hid r
 clear r h
 go_enter Tryz.func132,Tryz.ntmps132
 go_wp2
 go_loopw [10] (fun s10 wr=>∃ i:Nat,i≤es.length∧i≤s.ns∧s10=(.int .i64 i)∧Below w.heap.size w wr) (fun s10 _=>es.length - (intOf s10).toNat)
 case atStart=>exact ⟨0,Nat.zero_le _,Nat.zero_le _,rfl,Below.refl _ _⟩
 case round=>
  obtain ⟨i,hi,hns,rfl,hb⟩:=hrel
  clear c4
  have c1':=(hb.cell (p:=⟨g,1,none⟩) hglt).trans c1
  by_cases hlt:i < es.length
  ·obtain ⟨b,off,rfl,hbb,hbl,_,q0,q1,q2,q3,q4,q5,q6,q7,q8⟩:=HR.out.nth i hlt
   have hc:∀ o,wr.cell? ⟨b,o,none⟩=w.cell? ⟨b,o,none⟩:=fun o=>hb.cell (p:=⟨b,o,none⟩) hbl
   rw [← hc] at q0 q1 q2 q3 q4 q5 q6 q7 q8
   have HSe:=Lib.hid (HR.out.sent i hlt)
   obtain ⟨hio,hoe⟩:=HR.out.os_at i hlt
   have HOE:=Lib.hid (show s.os[i].d.Seen=es[i].d.Seen from by rw [hoe];rfl)
   have hlt' : (i:Int) < es.length:=by omega
   have hi0:(0:Int)≤(i:Int):=by omega
   have hltB:decide ((i:Int) < (es.length:Int))=true:=decide_eq_true hlt'
   have hltN:decide (i < es.length)=true:=decide_eq_true hlt
   by_cases hin:i < s.ns
   ·have hse:es[i].sent=true:=by rw [HSe.out];exact decide_eq_true hin
    clear HSe HOE hc hoe hio
    rw [hse] at q8
    clear hse
    generalize es[i]=e at *
    have hba:=hb.alloc hb.size (.cells #[.int .i64 e.d.Kind,.int .i64 e.d.By,.int .i64 e.d.No,.int .i64 e.d.Seen,.int .i64 e.d.At,.int .i64 e.d.Many,.string e.d.Text,.slice e.ta e.took.length e.tc,.bool e.sent] 174)
    have hE:({ e with sent:=true }:OpE).sent=true:=rfl
    go_wp2
    exact ⟨⟨i+1,by omega,by omega,by go_num,hb.alloc hb.size _⟩,by simp [intOf];omega⟩
   ·obtain rfl:i=s.ns:=by omega
    have hse:es[s.ns].sent=false:=by rw [HSe.out];simp
    have HLS:=Lib.hid (show s.least=es[s.ns].d.Seen from by rw [s.least_at hio,HOE.out])
    clear HSe HOE hc hoe hio
    rw [hse] at q8
    clear hse
    generalize es[s.ns]=e at *
    go_wp2
    go_ret
    exact ⟨by rw [HLS.out];rfl,hb.alloc hb.size _⟩
  ·obtain rfl:i=es.length:=by omega
   have HLS:=Lib.hid (s.least_end (by omega))
   have hltB:decide ((es.length:Int) < (es.length:Int))=false:=by simp
   go_wp2
   go_ret
   exact ⟨by rw [HLS.out];rfl,hb⟩
set_option maxHeartbeats 400000 in
theorem WOpen_c (h:WrAt w base F g s) (hos:s.os.length≤1000000):Calls Tryz.prog 88 #[.pointer (some ⟨g,0,none⟩)] w fun e w'=>∃ a' cap',e=.returned (.slice a' s.os.length cap')∧
 OwnRow w' w.heap.size 122 7 a' s.os.length cap' (flatD (s.os.map (·.d)))∧Below w.heap.size w w':=by
 obtain ⟨a,cap,oa,ocap,es,r⟩:=h.rows
 have hglt:=h.lt
 have c4:=r.c4
 have HEL:=Lib.hid r.len
 have HEO:=Lib.hid (show es.map (·.d)=s.os.map (·.d) from by rw [← r.eo,List.map_map];rfl)
 have hel:es.length≤1000000:=by rw [r.len];exact hos
 have HR:=Lib.hid r
 clear r h
 go_enter Tryz.func88,Tryz.ntmps88
 go_wp2
 go_loopw [3,11] (fun s3 s11 wr=>∃ (i:Nat) (a' : Option Addr) (cap' : Nat),i≤es.length∧s11=(.int .i64 i)∧s3=.slice a' i cap'∧Hid (OwnRow wr w.heap.size 122 7 a' i cap' (flatD ((es.map (·.d)).take i)))∧Below w.heap.size w wr) (fun _ s11 _=>es.length - (intOf s11).toNat)
 case atStart=>exact ⟨0,none,0,Nat.zero_le _,rfl,rfl,Lib.hid (OwnRow.nil _ _ _ _ _),Below.refl _ _⟩
 case round=>
  obtain ⟨i,a',cap',hi,rfl,rfl,HO,hb⟩:=hrel
  clear c4
  by_cases hlt:i < es.length
  ·obtain ⟨b,off,rfl,hbb,hbl,_,q0,q1,q2,q3,q4,q5,q6,q7,q8⟩:=HR.out.nth i hlt
   have hc:∀ o,wr.cell? ⟨b,o,none⟩=w.cell? ⟨b,o,none⟩:=fun o=>hb.cell (p:=⟨b,o,none⟩) hbl
   rw [← hc] at q0 q1 q2 q3 q4 q5 q6 q7 q8
   have HLT:=Lib.hid (show flatD ((es.map (·.d)).take (i+1))=flatD ((es.map (·.d)).take i)++Dd.cells es[i].d from by
    rw [List.take_succ_eq_append_getElem (by simpa using hlt),flatD_append];simp [flatD])
   have hlt' : (i:Int) < es.length:=by omega
   have hi0:(0:Int)≤(i:Int):=by omega
   have hltB:decide ((i:Int) < (es.length:Int))=true:=decide_eq_true hlt'
   have hltN:decide (i < es.length)=true:=decide_eq_true hlt
   clear hc
   generalize es[i]=e at *
   go_upto_region 5 with fail
   generalize hw8:wr.alloc _=w8
   have hw8' : w8=wr.alloc (.cells #[.int .i64 e.d.Kind,.int .i64 e.d.By,.int .i64 e.d.No,.int .i64 e.d.Seen,.int .i64 e.d.At,.int .i64 e.d.Many,.string e.d.Text,.slice e.ta e.took.length e.tc,.bool e.sent] 174):=hw8.symm
   have hbd:=(Below.refl wr.heap.size wr).alloc (Nat.le_refl _) (.cells #[.int .i64 e.d.Kind,.int .i64 e.d.By,.int .i64 e.d.No,.int .i64 e.d.Seen,.int .i64 e.d.At,.int .i64 e.d.Many,.string e.d.Text,.slice e.ta e.took.length e.tc,.bool e.sent] 174)
   have x0:w8.cell? ⟨wr.heap.size,0,none⟩=some (.int .i64 e.d.Kind):=by rw [hw8'];simp
   have x1:w8.cell? ⟨wr.heap.size,1,none⟩=some (.int .i64 e.d.By):=by rw [hw8'];simp
   have x2:w8.cell? ⟨wr.heap.size,2,none⟩=some (.int .i64 e.d.No):=by rw [hw8'];simp
   have x3:w8.cell? ⟨wr.heap.size,3,none⟩=some (.int .i64 e.d.Seen):=by rw [hw8'];simp
   have x4:w8.cell? ⟨wr.heap.size,4,none⟩=some (.int .i64 e.d.At):=by rw [hw8'];simp
   have x5:w8.cell? ⟨wr.heap.size,5,none⟩=some (.int .i64 e.d.Many):=by rw [hw8'];simp
   have x6:w8.cell? ⟨wr.heap.size,6,none⟩=some (.string e.d.Text):=by rw [hw8'];simp
   rw [← hw8'] at hbd
   clear hw8 hw8' q0 q1 q2 q3 q4 q5 q6 q7 q8
   have hx8:Below w.heap.size w w8:=hb.trans (hbd.mono hb.size)
   have HO8:=Lib.hid (HO.out.below hbd)
   clear hbd HO hb
   go_wp2_with (at_builtin;refine wpList_append_new rfl (.tmp 15) (.tmp 18) 60 rfl w.heap.size 122 7 64 Tryz.underlying60 ti_Deed a' i cap' _ rfl HO8.out 1 1 (Dd.cells e.d) rfl rfl (Dd.cells_one e.d) (by omega) hx8.size ?_)
   intro a3 cap3 w9 hown9 hb9 hz9 hg9
   have HO9:=Lib.hid (show OwnRow w9 w.heap.size 122 7 a3 (i+1) cap3 (flatD ((es.map (·.d)).take (i+1))) by rw [HLT.out];exact hown9)
   clear hown9 HO8 hg9 x0 x1 x2 x3 x4 x5 x6
   go_wp2
   exact ⟨⟨i+1,a3,cap3,by omega,by go_num,rfl,HO9,hx8.trans hb9⟩,by simp [intOf];omega⟩
  ·obtain rfl:i=es.length:=by omega
   have hltB:decide ((es.length:Int) < (es.length:Int))=false:=by simp
   have HO2:=Lib.hid (show OwnRow wr w.heap.size 122 7 a' s.os.length cap' (flatD (s.os.map (·.d))) from by
    have:=HO.out
    rw [List.take_of_length_le (by simp),HEO.out,HEL.out] at this
    exact this)
   clear HO
   go_wp2
   go_ret
   exact ⟨a',cap',by rw [HEL.out];rfl,HO2.out,hb⟩
end
end Go.Proofs.YtneoeokfffnonaaGreatDoor
namespace Go.Proofs.YtneoeokfffnonaaGreatDoor
open Go.RowKit
section
variable {w:World} {base:Nat} {F:Nat→Prop} {g:Nat} {s:WrV}
def WSendPost (w:World) (base:Nat) (F:Nat→Prop) (g:Nat) (s:WrV) (e:Ending) (w' : World):Prop:=
 Below base w w'∧Moves F w w'∧((s.os.length≤s.ns∧e=.returned (.tuple #[.agg #[.int .i64 zD.Kind,.int .i64 zD.By,.int .i64 zD.No,.int .i64 zD.Seen,.int .i64 zD.At,.int .i64 zD.Many,.string zD.Text],.bool false])∧WrAt w' base F g s)∨∃ (h:s.ns < s.os.length),e=.returned (.tuple #[.agg #[.int .i64 s.os[s.ns].d.Kind,.int .i64 s.os[s.ns].d.By,.int .i64 s.os[s.ns].d.No,.int .i64 s.os[s.ns].d.Seen,.int .i64 s.os[s.ns].d.At,.int .i64 s.os[s.ns].d.Many,.string s.os[s.ns].d.Text],.bool true])∧WrAt w' base F g { s with ns:=s.ns+1 })
theorem WrAt.setSent' {b off cap ocap:Nat} {a:Option Addr} {es:List OpE} (h:WrAt w base F g s) (r:WrRows w base F g s a cap (some ⟨b,off,none⟩) ocap es) (hn:s.ns < es.length) :
 WrAt (w.setCell ⟨b,off+s.ns * 9+8,none⟩ (.bool true)) base F g { s with ns:=s.ns+1 }∧
 WrRows (w.setCell ⟨b,off+s.ns * 9+8,none⟩ (.bool true)) base F g { s with ns:=s.ns+1 } a cap (some ⟨b,off,none⟩) ocap (es.set s.ns { es[s.ns] with sent:=true }):=by
 rw [Nat.add_assoc];exact h.setSent r hn
set_option maxHeartbeats 800000 in
theorem WSend_c (h:WrAt w base F g s) (hos:s.os.length≤1000000) :
 Calls Tryz.prog 127 #[.pointer (some ⟨g,0,none⟩)] w (WSendPost w base F g s):=by
 have hb0:=(Below.refl w.heap.size w).alloc (Nat.le_refl _) (.cells #[.int .i64 zD.Kind,.int .i64 zD.By,.int .i64 zD.No,.int .i64 zD.Seen,.int .i64 zD.At,.int .i64 zD.Many,.string zD.Text] 122)
 have HA0:=Lib.hid (h.later hb0)
 have HD0:=Lib.hid (DdAt.new w zD)
 have HF0:=Lib.hid (show ∀ j,j < 7→(w.alloc (.cells #[.int .i64 zD.Kind,.int .i64 zD.By,.int .i64 zD.No,.int .i64 zD.Seen,.int .i64 zD.At,.int .i64 zD.Many,.string zD.Text] 122)).frozen? ⟨w.heap.size,j,none⟩=false from fun j _=>by simp)
 have HM0:=Lib.hid (Moves.of_below (F:=F) hb0)
 have HNF:=Lib.hid (show ¬ F w.heap.size from fun hf=>Nat.lt_irrefl _ (h.foot _ hf).2)
 have hbs:=h.base_le
 have HFX:=Lib.hid (show ∀ k,F k→k < w.heap.size from fun k hk=>(h.foot k hk).2)
 have HB0:=Lib.hid (hb0.mono hbs)
 have HFG:=Lib.hid h.fg
 clear h hb0
 go_enter Tryz.func127,Tryz.ntmps127
 go_upto_region 1 with fail
 generalize hw0:w.alloc _=w0
 have hw0' : w.alloc (.cells #[.int .i64 zD.Kind,.int .i64 zD.By,.int .i64 zD.No,.int .i64 zD.Seen,.int .i64 zD.At,.int .i64 zD.Many,.string zD.Text] 122)=w0:=hw0
 rw [hw0'] at HA0 HD0 HF0 HM0 HB0
 clear hw0 hw0'
 obtain ⟨X,hX⟩:∃ X,X=w.heap.size:=⟨_,rfl⟩
 rw [← hX] at HD0 HF0 HNF HFX ⊢
 have hXB:base≤X:=by omega
 have HXW:=Lib.hid hX
 have hXl:X < w0.heap.size:=HD0.out.lt
 clear hX
 obtain ⟨a,cap,oa,ocap,es,r⟩:=HA0.out.rows
 have c4:=r.c4
 have hel:=r.len
 have HR:=Lib.hid r
 clear r
 go_wp2
 go_loopw [4,10] (fun s4 s10 wr=>∃ i:Nat,i≤es.length∧i≤s.ns∧s10=(.int .i64 i)∧w0=wr) (fun _ s10 _=>es.length - (intOf s10).toNat)
 case atStart=>exact ⟨0,Nat.zero_le _,Nat.zero_le _,rfl,rfl⟩
 case round=>
  obtain ⟨i,hi,hns,rfl,rfl⟩:=hrel
  by_cases hlt:i < es.length
  ·obtain ⟨b,off,rfl,hbb,hbl,hob,q0,q1,q2,q3,q4,q5,q6,q7,q8⟩:=HR.out.nth i hlt
   have HSe:=Lib.hid (HR.out.sent i hlt)
   have hlt' : (i:Int) < es.length:=by omega
   have hi0:(0:Int)≤(i:Int):=by omega
   have hltB:decide ((i:Int) < (es.length:Int))=true:=decide_eq_true hlt'
   have hltN:decide (i < es.length)=true:=decide_eq_true hlt
   by_cases hin:i < s.ns
   ·have hse:es[i].sent=true:=by rw [HSe.out];exact decide_eq_true hin
    clear HSe q0 q1 q2 q3 q4 q5 q6 q7
    rw [hse] at q8
    clear hse
    go_wp2
    exact ⟨⟨i+1,by omega,by omega,by go_num,by first | rfl | trivial⟩,by simp [intOf];omega⟩
   ·obtain rfl:i=s.ns:=by omega
    have hse:es[s.ns].sent=false:=by rw [HSe.out];simp
    obtain ⟨hio,hoe⟩:=HR.out.os_at s.ns hlt
    have HDE:=Lib.hid (show s.os[s.ns].d=es[s.ns].d from by rw [hoe];rfl)
    have HIO:=Lib.hid hio
    clear HSe hoe q0 q1 q2 q3 q4 q5 q6 q7
    rw [hse] at q8
    clear hse
    obtain ⟨h2,r2⟩:=HA0.out.setSent' HR.out hlt
    have hbF:F b:=(HR.out.fo b hob).1
    have hbX:b≠X:=fun e=>HNF.out (e ▸ hbF)
    have HA2:=Lib.hid h2
    have HD2:=Lib.hid (HD0.out.of_block (w':=w0.setCell ⟨b,off+s.ns * 9+8,none⟩ (.bool true)) (by simp) (Below.heap_setCell w0 ⟨b,off+s.ns * 9+8,none⟩ _ _ (fun e=>hbX (by simp at e;exact e.symm))))
    have HM2:=Lib.hid (HM0.out.trans (Moves.setCell w0 ⟨b,off+s.ns * 9+8,none⟩ (.bool true) hbF) (fun _ _ k=>k))
    have HB2:=Lib.hid (show Below base w (w0.setCell ⟨b,off+s.ns * 9+8,none⟩ (.bool true)) from HB0.out.setCell (p:=⟨b,off+s.ns * 9+8,none⟩) (HA0.out.foot b hbF).1 _)
    have HF2:=Lib.hid (fun j (hj:j < 7)=>show (w0.setCell ⟨b,off+s.ns * 9+8,none⟩ (.bool true)).frozen? ⟨X,j,none⟩=false from (World.frozen?_setCell _ _ _ _).trans (HF0.out j hj))
    have C4:=Lib.hid r2.c4
    obtain ⟨b2,off2,eb,_,_,_,Q0,Q1,Q2,Q3,Q4,Q5,Q6,_,_⟩:=r2.nth s.ns (by rw [List.length_set];exact hlt)
    cases eb
    simp only [List.getElem_set_self] at Q0 Q1 Q2 Q3 Q4 Q5 Q6
    have HQ:=Lib.hid (And.intro Q0 (And.intro Q1 (And.intro Q2 (And.intro Q3 (And.intro Q4 (And.intro Q5 Q6))))))
    have fb:w0.frozen? ⟨b,off+s.ns * 9+8,none⟩=false:=by
     rcases HR.out.ro.own with h0 | ⟨g',off',cur,e,_,hh,_,_⟩
     ·have:=HR.out.ro.le;omega
     ·cases e
      simp [World.frozen?,hh]
    rw [List.length_set] at C4
    clear h2 r2 Q0 Q1 Q2 Q3 Q4 Q5 Q6 hbb hbl hob
    go_upto_region 6 with fail
    generalize w0.setCell ⟨b,off+s.ns * 9+8,none⟩ (.bool true)=w2 at *
    clear q8 c4 fb
    have c4:=C4.out
    obtain ⟨q0,q1,q2,q3,q4,q5,q6⟩:=HQ.out
    generalize hdd:es[s.ns].d=d at *
    have HP:=Lib.hid (HD2.out.putAll d)
    have HBP:=Lib.hid (putDd_below d (Below.refl X w2) (Nat.le_refl _))
    obtain ⟨dlt,d0,d1,d2,d3,d4,d5,d6⟩:=HD2.out
    have f0:=HF2.out 0 (by omega)
    have f1:=HF2.out 1 (by omega)
    have f2:=HF2.out 2 (by omega)
    have f3:=HF2.out 3 (by omega)
    have f4:=HF2.out 4 (by omega)
    have f5:=HF2.out 5 (by omega)
    have f6:=HF2.out 6 (by omega)
    clear HQ C4 HR hdd
    go_wp2
    change bodyPost _ _ _ _ _ (putDd w2 X d)
    obtain ⟨_,p0,p1,p2,p3,p4,p5,p6⟩:=HP.out
    refine bodyPost_ret (v:=.tuple #[.agg #[.int .i64 d.Kind,.int .i64 d.By,.int .i64 d.No,.int .i64 d.Seen,.int .i64 d.At,.int .i64 d.Many,.string d.Text],.bool true]) (by simp [results,Tryz.results127,go_sem,p0,p1,p2,p3,p4,p5,p6]) rfl ?_
    exact ⟨HB2.out.trans (HBP.out.mono hXB),HM2.out.above (HBP.out.mono (Nat.le_of_eq HXW.out.symm)),.inr ⟨HIO.out,by rw [HDE.out],HA2.out.above HBP.out HFX.out⟩⟩
  ·obtain rfl:i=es.length:=by omega
   have hltB:decide ((es.length:Int) < (es.length:Int))=false:=by simp
   have HLN:=Lib.hid (show s.os.length≤s.ns from by omega)
   have HP:=Lib.hid (HD0.out.putAll zD)
   have HBP:=Lib.hid (putDd_below zD (Below.refl X w0) (Nat.le_refl _))
   obtain ⟨dlt,d0,d1,d2,d3,d4,d5,d6⟩:=HD0.out
   have f0:=HF0.out 0 (by omega)
   have f1:=HF0.out 1 (by omega)
   have f2:=HF0.out 2 (by omega)
   have f3:=HF0.out 3 (by omega)
   have f4:=HF0.out 4 (by omega)
   have f5:=HF0.out 5 (by omega)
   have f6:=HF0.out 6 (by omega)
   clear HR
   go_wp2
   change bodyPost _ _ _ _ _ (putDd w0 X zD)
   obtain ⟨_,p0,p1,p2,p3,p4,p5,p6⟩:=HP.out
   refine bodyPost_ret (v:=.tuple #[.agg #[.int .i64 zD.Kind,.int .i64 zD.By,.int .i64 zD.No,.int .i64 zD.Seen,.int .i64 zD.At,.int .i64 zD.Many,.string zD.Text],.bool false]) (by simp [results,Tryz.results127,go_sem,p0,p1,p2,p3,p4,p5,p6]) rfl ?_
   exact ⟨HB0.out.trans (HBP.out.mono hXB),HM0.out.above (HBP.out.mono (Nat.le_of_eq HXW.out.symm)),.inl ⟨HLN.out,rfl,HA0.out.above HBP.out HFX.out⟩⟩
end
end Go.Proofs.YtneoeokfffnonaaGreatDoor
