/- Merged: Plain PlainL. -/
import Derived.Lib.Hide
import Derived.BigQuiet
import Derived.WalkLawsBesides
import Derived.Lib.AppendZerosOnto
import Derived.StillTailTactics
set_option linter.unusedVariables false
set_option linter.unusedSimpArgs false
namespace Go.Proofs.YtneoeokfffnonaaGreatDoor
open Go.RowKit
structure Ch where
 (C By No K In Out Gone:Int)
 deriving DecidableEq
def Ch.cells (c:Ch):List Value:=[.int .u8 c.C,.int .i64 c.By,.int .i64 c.No,.int .i64 c.K,.int .i64 c.In,.int .i64 c.Out,.int .i64 c.Gone]
def ChAt (w:World) (b o:Nat) (c:Ch):Prop:=
 w.cell? ⟨b,o,none⟩=some (.int .u8 c.C)∧w.cell? ⟨b,o+1,none⟩=some (.int .i64 c.By)∧w.cell? ⟨b,o+2,none⟩=some (.int .i64 c.No)∧
 w.cell? ⟨b,o+3,none⟩=some (.int .i64 c.K)∧w.cell? ⟨b,o+4,none⟩=some (.int .i64 c.In)∧w.cell? ⟨b,o+5,none⟩=some (.int .i64 c.Out)∧
 w.cell? ⟨b,o+6,none⟩=some (.int .i64 c.Gone)
def SlCh (w:World) (a:Option Addr) (cap:Nat) (l:List Ch):Prop:=
 l.length≤cap∧cap≤maxLen∧∀ i (h:i < l.length),∃ b off,a=some ⟨b,off,none⟩∧ChAt w b (off+i * 7) l[i]
theorem bcell {W w1:World} (hb:Below W.heap.size W w1):(∀ b o,b < W.heap.size→w1.cell? ⟨b,o,none⟩=W.cell? ⟨b,o,none⟩)∧(∀ b o,b < W.heap.size→w1.frozen? ⟨b,o,none⟩=W.frozen? ⟨b,o,none⟩):=
 ⟨fun b o h=>hb.cell (p:=⟨b,o,none⟩) h,fun b o h=>hb.frozen (p:=⟨b,o,none⟩) h⟩
theorem bl_drewN {B:Nat} {w w' : World} (h:Below B w w') (n:Nat):Below B w (w'.drewN n):=h.trans ⟨rfl,rfl,rfl,Nat.le_refl _,fun _ _=>rfl⟩
theorem ChAt.lt {w:World} {b o:Nat} {c:Ch} (h:ChAt w b o c):b < w.heap.size:=World.block_lt_of_cell? _ _ h.1
theorem ChAt.of_block {w w' : World} {b o:Nat} {c:Ch} (h:ChAt w b o c) (hb:w'.heap[b]? = w.heap[b]?):ChAt w' b o c:=by
 have k:∀ o,w'.cell? ⟨b,o,none⟩=w.cell? ⟨b,o,none⟩:=fun o=>World.cell?_of_block (w:=w) hb
 unfold ChAt at *
 simp only [k];exact h
theorem ChAt.below {w w' : World} {b o:Nat} {c:Ch} (h:ChAt w b o c) {B:Nat} (hb:Below B w w') (hB:b < B):ChAt w' b o c:=
 h.of_block (hb.block b hB)
theorem SlCh.nth {w:World} {a:Option Addr} {cap:Nat} {l:List Ch} (h:SlCh w a cap l) {k:Nat} (hk:k < l.length) :
 ∃ b off,a=some ⟨b,off,none⟩∧ChAt w b (off+k * 7) l[k]:=h.2.2 k hk
theorem SlCh.below {w w' : World} {a:Option Addr} {cap:Nat} {l:List Ch} (h:SlCh w a cap l) (hb:Below w.heap.size w w'):SlCh w' a cap l:=by
 refine ⟨h.1,h.2.1,fun i hi=>?_⟩
 obtain ⟨b,off,ha,hc⟩:=h.2.2 i hi
 exact ⟨b,off,ha,hc.below hb hc.lt⟩
theorem SlCh.of_block {w w' : World} {a:Option Addr} {cap:Nat} {l:List Ch} (h:SlCh w a cap l) (hb:∀ ad,a=some ad→ad.block < w.heap.size→w'.heap[ad.block]? = w.heap[ad.block]?):SlCh w' a cap l:=by
 refine ⟨h.1,h.2.1,fun i hi=>?_⟩
 obtain ⟨b,off,ha,hc⟩:=h.2.2 i hi
 exact ⟨b,off,ha,hc.of_block (hb _ ha hc.lt)⟩
theorem SlCh.nil (w:World):SlCh w none 0 []:=⟨by simp,by simp,fun i h=>by simp at h⟩
theorem SlCh.take {w:World} {a:Option Addr} {cap:Nat} {l:List Ch} (h:SlCh w a cap l) (k:Nat):SlCh w a cap (l.take k):=by
 refine ⟨by have:=h.1;simp;omega,h.2.1,fun i hi=>?_⟩
 have hi' : i < l.length:=by simp at hi;omega
 obtain ⟨b,off,ha,hc⟩:=h.2.2 i hi'
 exact ⟨b,off,ha,by simpa using hc⟩
structure OwnRow (w:World) (base:Nat) (e:TypeId) (size:Nat) (a:Option Addr) (n cap:Nat) (xs:List Value):Prop where
 le:n≤cap
 max:cap≤maxLen
 len:xs.length=n * size
 own:cap=0∨∃ g off cur,a=some ⟨g,off,none⟩∧base≤g∧w.heap[g]? = some (.cells cur e (0,0))∧off+cap * size≤cur.size∧(cur.toList.drop off).take (n * size)=xs
def ownB (a:Option Addr) (cap:Nat):Option Nat:=if cap=0 then none else a.map (·.block)
section
variable {w w' : World} {base:Nat} {e:TypeId} {size:Nat} {a:Option Addr} {n cap:Nat} {xs:List Value}
theorem OwnRow.nil (w:World) (base:Nat) (e:TypeId) (size:Nat) (a:Option Addr):OwnRow w base e size a 0 0 []:=⟨by simp,by simp,by simp,.inl rfl⟩
theorem OwnRow.of_block (h:OwnRow w base e size a n cap xs) (hb:∀ g,ownB a cap=some g→base≤g→g < w.heap.size→w'.heap[g]? = w.heap[g]?):OwnRow w' base e size a n cap xs:=by
 refine ⟨h.le,h.max,h.len,?_⟩
 rcases h.own with h0 | ⟨g,off,cur,rfl,hg,hh,r⟩
 ·exact .inl h0
 ·by_cases h0:cap=0
  ·exact .inl h0
  ·exact .inr ⟨g,off,cur,rfl,hg,by rw [hb g (by simp [ownB,h0]) hg (Array.getElem?_eq_some_iff.1 hh).1];exact hh,r⟩
theorem OwnRow.alloc (h:OwnRow w base e size a n cap xs) (o:Obj):OwnRow (w.alloc o) base e size a n cap xs:=
 h.of_block fun g _ _ hg=>Below.heap_alloc w o g hg
theorem OwnRow.drew (h:OwnRow w base e size a n cap xs):OwnRow w.drew base e size a n cap xs:=h.of_block fun _ _ _ _=>rfl
theorem OwnRow.below (h:OwnRow w base e size a n cap xs) (hb:Below w.heap.size w w'):OwnRow w' base e size a n cap xs:=
 h.of_block fun g _ _ hg=>hb.block g hg
theorem OwnRow.setCell (h:OwnRow w base e size a n cap xs) (p:Addr) (u:Value) (hp:∀ g,ownB a cap=some g→g≠p.block):OwnRow (w.setCell p u) base e size a n cap xs:=
 h.of_block fun g hg _ _=>Below.heap_setCell w p u g (hp g hg)
theorem OwnRow.mono (h:OwnRow w base e size a n cap xs) {base' : Nat} (hb:base'≤base):OwnRow w base' e size a n cap xs:=by
 refine ⟨h.le,h.max,h.len,?_⟩
 rcases h.own with h0 | ⟨g,off,cur,ha,hg,r⟩
 ·exact .inl h0
 ·exact .inr ⟨g,off,cur,ha,by omega,r⟩
theorem OwnRow.base_le (h:OwnRow w base e size a n cap xs):∀ g,ownB a cap=some g→base≤g∧g < w.heap.size:=by
 intro g hg
 rcases h.own with h0 | ⟨g',off,cur,rfl,hb,hh,_⟩
 ·simp [ownB,h0] at hg
 ·unfold ownB at hg
  split at hg
  ·cases hg
  ·simp at hg;subst hg;exact ⟨hb,(Array.getElem?_eq_some_iff.1 hh).1⟩
theorem OwnRow.cell (h:OwnRow w base e size a n cap xs) (hs:0 < xs.length):∃ g off,a=some ⟨g,off,none⟩∧base≤g∧g < w.heap.size∧∀ j u,xs[j]? = some u→w.cell? ⟨g,off+j,none⟩=some u:=by
 rcases h.own with h0 | ⟨g,off,cur,rfl,hb,hh,_,hx⟩
 ·have h1:=h.le;have h2:=h.len;subst h0;obtain rfl:n=0:=by omega
  rw [h2] at hs;omega
 ·refine ⟨g,off,rfl,hb,(Array.getElem?_eq_some_iff.1 hh).1,fun j u hu=>?_⟩
  rw [cell_of_row w g (off+j) cur e (0,0) hh]
  rw [← hx,List.getElem?_take] at hu
  split at hu
  ·simpa [List.getElem?_drop] using hu
  ·cases hu
end
def flat (l:List Ch):List Value:=l.flatMap Ch.cells
@[simp] theorem Ch.cells_length (c:Ch):c.cells.length=7:=rfl
theorem flat_length (l:List Ch):(flat l).length=l.length * 7:=by
 induction l with
 | nil=>rfl
 | cons c l ih=>simp only [flat,List.flatMap_cons,List.length_append,Ch.cells_length,List.length_cons] at *;omega
theorem flat_append (l m:List Ch):flat (l++m)=flat l++flat m:=by simp [flat]
theorem flat_cons (c:Ch) (l:List Ch):flat (c :: l)=c.cells++flat l:=rfl
theorem flat_get (l:List Ch):∀ (i:Nat) (h:i < l.length) (j:Nat),j < 7→(flat l)[i * 7+j]? = l[i].cells[j]?:=by
 induction l with
 | nil=>intro i h;simp at h
 | cons c l ih=>
  intro i h j hj
  rw [flat_cons]
  cases i with
  | zero=>rw [List.getElem?_append_left (by simp;omega)];simp
  | succ i=>
   rw [List.getElem?_append_right (by simp;omega)]
   have:=ih i (by simpa using h) j hj
   simp only [Ch.cells_length,List.getElem_cons_succ]
   rw [← this];congr 1;omega
theorem OwnRow.slCh {w:World} {base:Nat} {e:TypeId} {a:Option Addr} {cap:Nat} {l:List Ch} (h:OwnRow w base e 7 a l.length cap (flat l)):SlCh w a cap l:=by
 refine ⟨h.le,h.max,fun i hi=>?_⟩
 obtain ⟨g,off,ha,_,_,hc⟩:=h.cell (by rw [flat_length];omega)
 refine ⟨g,off,ha,?_⟩
 have k:∀ j u,l[i].cells[j]? = some u→j < 7→w.cell? ⟨g,off+i * 7+j,none⟩=some u:=fun j u hu hj=>by
  rw [Nat.add_assoc];exact hc _ _ ((flat_get l i hi j hj).trans hu)
 exact ⟨k 0 _ rfl (by omega),k 1 _ rfl (by omega),k 2 _ rfl (by omega),k 3 _ rfl (by omega),k 4 _ rfl (by omega),k 5 _ rfl (by omega),k 6 _ rfl (by omega)⟩
theorem SlCh.cells {w:World} {a:Option Addr} {cap:Nat} {l:List Ch} (h:SlCh w a cap l) (ad:Addr) (ha:a=some ad):∀ j u,(flat l)[j]? = some u→w.cell? (ad.add j)=some u:=by
 intro j u hu
 have hj:j < l.length * 7:=by
  rw [← flat_length];rcases Nat.lt_or_ge j (flat l).length with h | h
  ·exact h
  ·rw [List.getElem?_eq_none h] at hu;cases hu
 have hd:j=j / 7 * 7+j % 7:=by omega
 have hi:j / 7 < l.length:=by omega
 obtain ⟨b,off,hab,hc⟩:=h.2.2 (j / 7) hi
 rw [ha] at hab;cases hab
 rw [hd,flat_get l _ hi _ (by omega)] at hu
 rw [Addr.add_lit]
 obtain ⟨c0,c1,c2,c3,c4,c5,c6⟩:=hc
 have hm:j % 7 < 7:=by omega
 generalize j % 7=r at *
 generalize j / 7=q at *
 rw [hd,← Nat.add_assoc]
 match r,hm with
 | 0,_=>rw [← hu];exact c0
 | 1,_=>rw [← hu];exact c1
 | 2,_=>rw [← hu];exact c2
 | 3,_=>rw [← hu];exact c3
 | 4,_=>rw [← hu];exact c4
 | 5,_=>rw [← hu];exact c5
 | 6,_=>rw [← hu];exact c6
theorem Ch.cells_one (c:Ch):∀ u∈c.cells,u.oneCell'=true:=by
 intro u hu;simp [Ch.cells] at hu;rcases hu with h | h | h | h | h | h | h <;> subst h <;> rfl
theorem flat_one (l:List Ch):∀ u∈flat l,u.oneCell'=true:=by
 intro u hu;simp only [flat,List.mem_flatMap] at hu;obtain ⟨c,_,h⟩:=hu;exact c.cells_one u h
section
variable {P:Program}
theorem grown_row (w:World) (base:Nat) (e:TypeId) (z:Value) (size:Nat) (hzs:z.cells.size=size) (n m old:Nat) (xs news:List Value) (hx:xs.length=n * size) (hl:news.length=m * size)
 (h63:n+m≤maxLen) (hbase:base≤w.heap.size) :
 OwnRow (w.drew.alloc (.cells (xs.toArray++news.toArray++Builtin.zeroCells z.cells (grownCap w (n+m) old e - (n+m))) e)) base e size (some ⟨w.heap.size,0,none⟩) (n+m) (grownCap w (n+m) old e) (xs++news):=by
 have hge:=grownCap_ge w (n+m) old e
 have hlen:(xs++news).length=(n+m) * size:=by rw [List.length_append,hx,hl,Nat.add_mul]
 refine ⟨hge,grownCap_le_maxLen w (n+m) old e h63,hlen,.inr ⟨w.heap.size,0,_,rfl,hbase,heap_alloc_new w.drew _,?_,?_⟩⟩
 ·simp only [Array.size_append,List.size_toArray,size_zeroCells,hzs,hx,hl,← Nat.add_mul]
  rw [Nat.zero_add,show n+m+(grownCap w (n+m) old e - (n+m))=grownCap w (n+m) old e by omega]
  exact Nat.le_refl _
 ·simp only [Array.toList_append,List.append_assoc,List.drop_zero]
  rw [← List.append_assoc,← hlen]
  exact List.take_left
theorem run_append_row (w:World) (base:Nat) (t ty e:TypeId) (i:TypeInfo) (z:Value) (size bytes:Nat) (ht:P.underlying t=some (.slice e)) (hi:P.info? e=some i) (hz:i.zero=some z)
 (hsize:i.size=size) (hby:i.bytes=bytes) (hzs:z.cells.size=size)
 (a:Option Addr) (n cap:Nat) (xs:List Value) (hown:OwnRow w base e size a n cap xs)
 (xa:Option Addr) (m c:Nat) (news:List Value) (hl:news.length=m * size) (hnews:m=0∨∃ ad,xa=some ad∧∀ j u,news[j]? = some u→w.cell? (ad.add j)=some u) (h1:∀ u∈news,u.oneCell'=true)
 (h63:n+m≤maxLen) (hbytes:(n+m) * bytes≤140737488355328) (hbase:base≤w.heap.size) :
 ∃ a' cap' w',(Builtin.append_ #[t,t] ty #[.slice a n cap,.slice xa m c]).run P w=.ok (.slice a' (n+m) cap') w'∧OwnRow w' base e size a' (n+m) cap' (xs++news)∧w.grownBy w' (ownB a cap)∧(a'=a∧cap'=cap∨0 < m):=by
 subst hsize
 subst hby
 have hsmall:n+m≤9223372036854775807:=by simp only [maxLen] at h63;omega
 have hgrown:∀ (o:Obj) (row:Option Nat),w.grownBy (w.drew.alloc o) row:=fun o row=>⟨rfl,rfl,rfl,by simp,fun k hk _=>Below.heap_alloc w.drew _ k hk⟩
 by_cases hm:m=0
 ·subst hm
  have hn:news=[]:=List.eq_nil_of_length_eq_zero (by simpa using hl)
  subst hn
  have hle:=hown.le
  refine ⟨a,cap,w,?_,by simpa using hown,⟨rfl,rfl,rfl,Nat.le_refl _,fun _ _ _=>rfl⟩,.inl ⟨rfl,rfl⟩⟩
  cases a <;> cases xa <;> simp [Builtin.append_,run_underlying ht,sizeOf,typeInfo,hi,Builtin.lenOf,Builtin.firstCells,loadCells,loadCellsFrom,hle,storeCells]
 ·obtain ⟨ad,rfl,hnews'⟩:=hnews.resolve_left hm
  by_cases hroom:n+m≤cap
  ·rcases hown.own with h0 | ⟨g,off,cur,rfl,hb,hg,hfit,hx⟩
   ·omega
   ·have hfit' : off+n * i.size+news.length≤cur.size:=by
     rw [hl];have:n * i.size+m * i.size≤cap * i.size:=by rw [← Nat.add_mul];exact Nat.mul_le_mul_right _ hroom
     omega
    have hf:=run_firstCells_some (P:=P) w i.size m ad m c news hl hnews'
    have hst:=run_storeCells_at P g (off+n * i.size) e news 0 cur w hg (by simpa using hfit') h1
    simp only [Nat.add_zero] at hst
    have hlen:(xs++news).length=(n+m) * i.size:=by rw [List.length_append,hown.len,hl,Nat.add_mul]
    refine ⟨some ⟨g,off,none⟩,cap,w.setRow g (cur.toList.take (off+n * i.size)++news++cur.toList.drop (off+n * i.size+news.length)).toArray,?_,⟨hroom,hown.max,hlen,.inr ⟨g,off,_,rfl,hb,setRow_heap w g cur _ e _ hg,?_,?_⟩⟩,⟨rfl,rfl,rfl,by simp,fun k _ hk=>setRow_other w g k _ (fun e=>hk (by simp [ownB,e];omega))⟩,.inr (by omega)⟩
    ·simp [Builtin.append_,run_underlying ht,sizeOf,typeInfo,hi,Builtin.lenOf,hroom,hf,Addr.add_lit,hst]
    ·simp only [List.size_toArray,List.length_append,List.length_take,List.length_drop,Array.length_toList]
     omega
    ·have hcl:cur.toList.length=cur.size:=by simp
     have e1:cur.toList.take (off+n * i.size)=cur.toList.take off++xs:=by rw [List.take_add,hx]
     rw [show (off+n * i.size+news.length)=off+n * i.size+news.length from rfl,e1,List.append_assoc,List.append_assoc,]
     have e2:(cur.toList.take off).length=off:=by rw [List.length_take];omega
     show List.take _ (List.drop off (cur.toList.take off++(xs++(news++_))))=_
     rw [show List.drop off (cur.toList.take off++(xs++(news++List.drop (off+n * i.size+news.length) cur.toList)))=xs++(news++List.drop (off+n * i.size+news.length) cur.toList) from by
      conv=>lhs;rw [show off=(cur.toList.take off).length from e2.symm]
      simp only [e2]
      rw [List.drop_append_of_le_length (by omega),List.drop_of_length_le (by omega)];rfl]
     rw [← List.append_assoc,← hlen]
     exact List.take_left
  ·have hfit:=growslice_fits (need:=n+m) (old:=cap) (by omega) hbytes
   cases a with
   | none=>
    have hc0:cap=0:=by rcases hown.own with h0 | ⟨g,off,cur,h,_⟩;exact h0;cases h
    subst hc0
    have hn0:n=0:=by have:=hown.le;omega
    subst hn0
    have hx:xs=[]:=List.eq_nil_of_length_eq_zero (by simpa using hown.len)
    subst hx
    have hr:=run_append_nil (P:=P) w t ty e i z ht hi hz ad m c news hl hnews' (by omega) (by omega) (by have hb:=hbytes;simp only [Nat.zero_add] at hb;omega)
    have hgr:=grown_row w base e z i.size hzs 0 m 0 [] news (by simp) hl h63 hbase
    simp only [Nat.zero_add,List.nil_append,Array.empty_append] at hgr ⊢
    exact ⟨_,_,_,hr,hgr,hgrown _ _,.inr (by omega)⟩
   | some b=>
    have holds:∀ j v,xs[j]? = some v→w.cell? (b.add j)=some v:=by
     intro j v hv
     have hp:0 < xs.length:=by
      rcases Nat.lt_or_ge j xs.length with h | h
      ·omega
      ·rw [List.getElem?_eq_none h] at hv;cases hv
     obtain ⟨g,off,hb,_,_,hcell⟩:=hown.cell hp
     cases hb
     rw [Addr.add_lit];exact hcell j v hv
    have hr:=run_append_grow (P:=P) w t ty e i z ht hi hz b n cap xs hown.len holds ad m c news hl hnews' (by omega) (by omega) hfit
    exact ⟨_,_,_,hr,grown_row w base e z i.size hzs n m cap xs news hown.len hl h63 hbase,hgrown _ _,.inr (by omega)⟩
def TInfo (P:Program) (e:TypeId) (size bytes:Nat):Prop:=∃ i z,P.info? e=some i∧i.zero=some z∧i.size=size∧i.bytes=bytes∧z.cells.size=size∧0 < bytes
theorem TInfo.mk {P:Program} {e:TypeId} {size bytes:Nat} {z:Value} (h:(P.info? e).map (fun i=>(i.zero,i.size,i.bytes))=some (some z,size,bytes)) (hz:z.cells.size=size) (hb:0 < bytes):TInfo P e size bytes:=by
 cases hi:P.info? e with
 | none=>rw [hi] at h;cases h
 | some i=>
  rw [hi] at h
  simp only [Option.map_some,Option.some.injEq,Prod.mk.injEq] at h
  exact ⟨i,z,hi,h.1,h.2.1,h.2.2,hz,hb⟩
theorem wpList_append_row (w:World) {ops:Array Oper} {rest:List Oper} {o:Oper} {ac:Act} {Q:Exit→Act→World→Prop} (hgd:o.guard=none) (s x:Operand) (t:TypeId)
 (ho:o.op=.call { callee:=.builtin .append,args:=#[s,x],argTypes:=#[t,t] })
 (base:Nat) (e:TypeId) (size bytes:Nat) (ht:P.underlying t=some (.slice e)) (hE:TInfo P e size bytes)
 (a:Option Addr) (n cap:Nat) (xs:List Value) (hs:ac.eval s=.slice a n cap) (hown:OwnRow w base e size a n cap xs)
 (xa:Option Addr) (m c:Nat) (news:List Value) (hx:ac.eval x=.slice xa m c) (hl:news.length=m * size) (hnews:m=0∨∃ ad,xa=some ad∧∀ j u,news[j]? = some u→w.cell? (ad.add j)=some u) (h1:∀ u∈news,u.oneCell'=true)
 (hbytes:(n+m) * bytes≤140737488355328) (hbase:base≤w.heap.size)
 (h:∀ a' cap' w',OwnRow w' base e size a' (n+m) cap' (xs++news)→w.grownBy w' (ownB a cap)→(a'=a∧cap'=cap∨0 < m)→wpList P ops Q rest (ac.put o.dst (.slice a' (n+m) cap')) w'):wpList P ops Q (o :: rest) ac w:=
 wpList_plain hgd fun _ hK=>by
  obtain ⟨i,z,hi,hz,hsize,hby,hzs,hbp⟩:=hE
  have h63:n+m≤maxLen:=by
   have:=Nat.le_mul_of_pos_right (n+m) hbp
   unfold maxLen;omega
  obtain ⟨a',cap',w',hr,h2,h3,h4⟩:=run_append_row (P:=P) w base t o.type e i z size bytes ht hi hz hsize hby hzs a n cap xs hown xa m c news hl hnews h1 h63 hbytes hbase
  unfold Oper.wp execOp
  simp only [ho,resolve,invoke,builtin,Sem.run_bind,Sem.run_pure,Result.andThen_ok,List.map_toArray,List.map_cons,List.map_nil,hs,hx,hr]
  exact hK _ _ (h a' cap' w' h2 h3 h4)
theorem wpList_append_new {wb:World} {ops:Array Oper} {rest:List Oper} {o:Oper} {ac:Act} {Q:Exit→Act→World→Prop} {e' : TypeId} (hgd:o.guard=none) (s x:Operand) (t:TypeId)
 (ho:o.op=.call { callee:=.builtin .append,args:=#[s,x],argTypes:=#[t,t] })
 (base:Nat) (e:TypeId) (size bytes:Nat) (ht:P.underlying t=some (.slice e)) (hE:TInfo P e size bytes)
 (a:Option Addr) (n cap:Nat) (xs:List Value) (hs:ac.eval s=.slice a n cap) (hown:OwnRow wb base e size a n cap xs)
 (m c:Nat) (news:List Value) (hx:ac.eval x=.slice (some ⟨wb.heap.size,0,none⟩) m c) (hl:news.length=m * size) (h1:∀ u∈news,u.oneCell'=true)
 (hbytes:(n+m) * bytes≤140737488355328) (hbase:base≤wb.heap.size)
 (h:∀ a' cap' w',OwnRow w' base e size a' (n+m) cap' (xs++news)→Below base wb w'→wb.heap.size < w'.heap.size→wb.grownBy w' (ownB a cap)→wpList P ops Q rest (ac.put o.dst (.slice a' (n+m) cap')) w'):wpList P ops Q (o :: rest) ac (wb.alloc (.cells news.toArray e')):=
 wpList_append_row (wb.alloc (.cells news.toArray e')) hgd s x t ho base e size bytes ht hE a n cap xs hs (hown.alloc _) (some ⟨wb.heap.size,0,none⟩) m c news hx hl
  (.inr ⟨_,rfl,fun j u hu=>by rw [Addr.add_lit,Nat.zero_add,World.cell?_alloc_new];simpa using hu⟩) h1 hbytes (by simp;omega)
  fun a' cap' w' h2 h3 _=>h a' cap' w' h2 (((Below.refl _ _).alloc hbase _).grown h3 (by simp;omega) fun k hk=>(hown.base_le k hk).1) (by have:=h3.size;simp at this;omega)
   ⟨h3.os,h3.tape,h3.output,by have:=h3.size;simp at this;omega,fun k hk hne=>(h3.block k (by simp;omega) hne).trans (Below.heap_alloc _ _ _ hk)⟩
end
theorem strOfNums_append (xs ys:List Int):strOfNums xs++strOfNums ys=strOfNums (xs++ys):=by
 unfold strOfNums;rw [ByteArray.mk_append_mk,List.map_append]
theorem run_convert_row {P:Program} {w:World} {base:Nat} {e:TypeId} {a:Option Addr} {n cap:Nat} {xs:List Int} (h:OwnRow w base e 1 a n cap (xs.map (Value.int .u8))) (src:TypeId) (hs:P.underlying src=some (.slice e)) (he:P.underlying e=some (.int .u8)) :
 ∀ dst,P.underlying dst=some .string→(convert src dst (.slice a n cap)).run P w=.ok (.string (strOfNums xs)) w:=by
 intro dst hd
 have hlen:xs.length=n:=by simpa using h.len
 by_cases h0:xs=[]
 ·subst h0
  have hn:n=0:=by simpa using hlen.symm
  subst hn
  cases a with
  | none=>rw [run_convert_bytes_nil w src e hs he 0 cap dst hd];rfl
  | some ad=>
   rw [run_convert_bytes_string w src dst e _ 0 cap hs he hd,run_bytesToString w _ 0 cap [] (by simp [loadCells,loadCellsFrom])]
   rfl
 ·obtain ⟨g,off,rfl,_,_,hc⟩:=h.cell (by simp;exact List.length_pos_iff.2 h0)
  exact run_convert_bytes_arg w src e hs he g off n cap xs hlen (fun i hi=>hc i _ (by simp [List.getElem?_eq_getElem (show i < xs.length by omega)])) dst hd
theorem one1 {v:Value} (h:v.oneCell'=true):∀ u∈[v],u.oneCell'=true:=by intro u hu;simp at hu;subst hu;exact h
end Go.Proofs.YtneoeokfffnonaaGreatDoor
namespace Go.Proofs.YtneoeokfffnonaaGreatDoor
open Go.RowKit
section
variable {P:Program} {w w' : World} {base:Nat} {e:TypeId} {size:Nat} {a:Option Addr} {n cap:Nat} {xs:List Value}
theorem splice_len {α:Type} (xs vs:List α) (c:Nat) (h:c+vs.length≤xs.length):(xs.take c++vs++xs.drop (c+vs.length)).length=xs.length:=by
 simp only [List.length_append,List.length_take,List.length_drop];omega
theorem own_store (h:OwnRow w base e size a n cap xs) {g off:Nat} (ha:a=some ⟨g,off,none⟩) (c:Nat) (vs:List Value) (hc:c+vs.length≤xs.length) (h1:∀ v∈vs,v.oneCell'=true) (hp:0 < xs.length) :
 ∃ w',(storeCells ⟨g,off+c,none⟩ vs 0).run P w=.ok () w'∧OwnRow w' base e size a n cap (xs.take c++vs++xs.drop (c+vs.length))∧w.grownBy w' (some g):=by
 have hx:=h.len
 have hle:=h.le
 rcases h.own with h0 | ⟨g',off',cur,hb,hbg,hg,hfit,htake⟩
 ·subst h0;obtain rfl:n=0:=by omega
  rw [hx] at hp;omega
 ·rw [ha] at hb;cases hb
  have hn:n * size≤cap * size:=Nat.mul_le_mul_right _ hle
  have hst:=run_storeCells_at P g (off+c) e vs 0 cur w hg (by omega) h1
  simp only [Nat.add_zero] at hst
  refine ⟨_,hst,⟨hle,h.max,(splice_len xs vs c hc).trans hx,.inr ⟨g,off,_,ha,hbg,setRow_heap w g cur _ e _ hg,?_,?_⟩⟩,⟨rfl,rfl,rfl,by simp,fun k _ hk=>setRow_other w g k _ (fun e=>hk (by rw [e]))⟩⟩
  ·simp only [List.size_toArray,List.length_append,List.length_take,List.length_drop,Array.length_toList]
   omega
  ·have hcl:cur.toList.length=cur.size:=by simp
   generalize hcur:cur.toList=C at *
   have e1:C.take (off+c)=C.take off++(C.drop off).take c:=by rw [List.take_add]
   have e2:(C.take off).length=off:=by rw [List.length_take];omega
   have e3:(C.drop off).take c=xs.take c:=by rw [← htake,List.take_take];congr 1;omega
   have e4:List.drop off (C.take (off+c)++vs++C.drop (off+c+vs.length))=xs.take c++vs++C.drop (off+c+vs.length):=by
    rw [e1,e3,List.append_assoc,List.append_assoc,List.drop_append_of_le_length (by omega),List.drop_of_length_le (by omega),List.nil_append,List.append_assoc]
   show List.take (n * size) (List.drop off (C.take (off+c)++vs++C.drop (off+c+vs.length)))=_
   rw [e4]
   have e5:xs.drop (c+vs.length)=(C.drop (off+c+vs.length)).take (n * size - (c+vs.length)):=by
    rw [← htake,List.drop_take,List.drop_drop];congr 2;omega
   rw [e5]
   have e6:(xs.take c++vs).length=c+vs.length:=by simp only [List.length_append,List.length_take];omega
   rw [List.take_append,List.take_of_length_le (by omega),e6]
theorem OwnRow.take (h:OwnRow w base e size a n cap xs) (m:Nat) (hm:m≤n):OwnRow w base e size a m cap (xs.take (m * size)):=by
 have hx:=h.len
 have hmn:m * size≤n * size:=Nat.mul_le_mul_right _ hm
 refine ⟨Nat.le_trans hm h.le,h.max,by rw [List.length_take];omega,?_⟩
 rcases h.own with h0 | ⟨g,off,cur,ha,hb,hg,hfit,ht⟩
 ·exact .inl h0
 ·exact .inr ⟨g,off,cur,ha,hb,hg,hfit,by rw [← ht,List.take_take];congr 1;omega⟩
theorem grownBy_trans {a b c:World} {r:Option Nat} (h:a.grownBy b r) (k:b.grownBy c r):a.grownBy c r:=
 ⟨k.os.trans h.os,k.tape.trans h.tape,k.output.trans h.output,Nat.le_trans h.size k.size,fun i hi hr=>(k.block i (Nat.lt_of_lt_of_le hi h.size) hr).trans (h.block i hi hr)⟩
theorem grownBy_refl (w:World) (r:Option Nat):w.grownBy w r:=⟨rfl,rfl,rfl,Nat.le_refl _,fun _ _ _=>rfl⟩
theorem grownBy_below {w w' : World} (h:Below w.heap.size w w') (r:Option Nat):w.grownBy w' r:=⟨h.os,h.tape,h.output,h.size,fun k hk _=>h.block k hk⟩
theorem below_grownBy {w w' : World} {r:Option Nat} {B:Nat} (h:w.grownBy w' r) (hB:B≤w.heap.size) (hr:∀ k,r=some k→B≤k):Below B w w':=
 ⟨h.os,h.tape,h.output,h.size,fun k hk=>h.block k (by omega) (fun e=>by have:=hr k e.symm;omega)⟩
theorem wpList_store_own {ops:Array Oper} {rest:List Oper} {o:Oper} {ac:Act} {Q:Exit→Act→World→Prop} (hgd:o.guard=none) (ty:TypeId) (x y:Operand) (ho:o.op=.store ty x y)
 (h:OwnRow w base e size a n cap xs) {g off:Nat} (ha:a=some ⟨g,off,none⟩) (c:Nat) (vs:List Value) (hx:ac.eval x=.pointer (some ⟨g,off+c,none⟩)) (hy:ac.eval y=.agg vs.toArray)
 (hi:(P.info? ty).map (·.size)=some vs.length) (hc:c+vs.length≤xs.length) (h1:∀ v∈vs,v.oneCell'=true) (hp:0 < xs.length)
 (hk:∀ w',OwnRow w' base e size a n cap (xs.take c++vs++xs.drop (c+vs.length))→w.grownBy w' (some g)→wpList P ops Q rest (ac.put o.dst undef) w'):wpList P ops Q (o :: rest) ac w:=
 wpList_plain hgd fun _ hK=>by
  obtain ⟨w',hr,h2,h3⟩:=own_store (P:=P) h ha c vs hc h1 hp
  have hs:(storeVar ty ⟨g,off+c,none⟩ (.agg vs.toArray)).run P w=.ok () w':=by
   cases hq:P.info? ty with
   | none=>simp [hq] at hi
   | some i=>
    have hs:vs.length=i.size:=by simp [hq] at hi;omega
    simp [storeVar,sizeOf,typeInfo,hq,Value.cells,hs,hr]
  unfold Oper.wp execOp
  simp only [ho,hx,hy,Instr.storeAt,Instr.sureAddr,Sem.run_bind,Sem.run_pure,Result.andThen_ok,hs]
  exact hK _ _ (hk w' h2 h3)
theorem wpList_clear_own {ops:Array Oper} {rest:List Oper} {o:Oper} {ac:Act} {Q:Exit→Act→World→Prop} (hgd:o.guard=none) (s:Operand) (t:TypeId)
 (ho:o.op=.call { callee:=.builtin .clear,args:=#[s],argTypes:=#[t] }) (ht:P.underlying t=some (.slice e))
 (i:TypeInfo) (z:Value) (hi:P.info? e=some i) (hz:i.zero=some z) (hzs:z.cells.size=size) (hz1:∀ v∈z.cells,v.oneCell'=true) (hsz:0 < size)
 (h:OwnRow w base e size a n cap xs) {g off:Nat} (ha:a=some ⟨g,off,none⟩) (k m c:Nat) (hs:ac.eval s=.slice (some ⟨g,off+k * size,none⟩) m c) (hm:0 < m) (hkm:k+m≤n)
 (hk:∀ w' ys,OwnRow w' base e size a n cap (xs.take (k * size)++ys)→w.grownBy w' (some g)→wpList P ops Q rest (ac.put o.dst (.tuple #[])) w'):wpList P ops Q (o :: rest) ac w:=
 wpList_plain hgd fun _ hK=>by
  have hlen:(Builtin.zeroCells z.cells m).toList.length=m * size:=by rw [Array.length_toList,size_zeroCells,hzs]
  have hx:=h.len
  have hkn:k * size+m * size≤n * size:=by rw [← Nat.add_mul];exact Nat.mul_le_mul_right _ hkm
  have hms:0 < m * size:=Nat.mul_pos hm hsz
  obtain ⟨w',hr,h2,h3⟩:=own_store (P:=P) h ha (k * size) (Builtin.zeroCells z.cells m).toList (by omega) (fun v hv=>by
   simp only [Builtin.zeroCells,Array.toList_map,List.mem_map] at hv
   obtain ⟨j,_,rfl⟩:=hv
   have hj:j % z.cells.size < z.cells.size:=Nat.mod_lt _ (by omega)
   rw [getElem!_pos z.cells _ hj]
   exact hz1 _ (Array.getElem_mem hj)) (by omega)
  have hm0:m≠0:=by omega
  obtain ⟨m',rfl⟩:∃ m',m=m' + 1:=⟨m - 1,by omega⟩
  unfold Oper.wp execOp
  simp only [ho,resolve,invoke,builtin,Sem.run_bind,Sem.run_pure,Result.andThen_ok,List.map_toArray,List.map_cons,List.map_nil,hs]
  have hcl:(Builtin.clear_ #[t] o.type #[.slice (some ⟨g,off+k * size,none⟩) (m' + 1) c]).run P w=.ok (.tuple #[]) w':=by
   simp [Builtin.clear_,run_underlying ht,zeroValue,typeInfo,hi,hz,hr]
  rw [hcl]
  rw [List.append_assoc] at h2
  exact hK _ _ (hk w' _ h2 h3)
end
theorem flat_take (l:List Ch) (i:Nat):(flat l).take (i * 7)=flat (l.take i):=by
 induction l generalizing i with
 | nil=>simp [flat]
 | cons c l ih=>
  cases i with
  | zero=>simp [flat]
  | succ i=>
   rw [flat_cons,List.take_succ_cons,flat_cons,show (i+1) * 7=c.cells.length+i * 7 by simp;omega,List.take_length_add_append,ih]
theorem flat_drop (l:List Ch) (i:Nat):(flat l).drop (i * 7)=flat (l.drop i):=by
 induction l generalizing i with
 | nil=>simp [flat]
 | cons c l ih=>
  cases i with
  | zero=>simp [flat]
  | succ i=>
   rw [flat_cons,List.drop_succ_cons,show (i+1) * 7=c.cells.length+i * 7 by simp;omega,List.drop_length_add_append,ih]
theorem flat_set (l:List Ch) (i:Nat) (x:Ch) (h:i < l.length):flat (l.set i x)=(flat l).take (i * 7)++x.cells++(flat l).drop (i * 7+x.cells.length):=by
 rw [show i * 7+x.cells.length=(i+1) * 7 by simp;omega,flat_take,flat_drop,List.set_eq_take_append_cons_drop,if_pos h,flat_append,flat_cons,List.append_assoc]
end Go.Proofs.YtneoeokfffnonaaGreatDoor
namespace Go.Proofs.YtneoeokfffnonaaGreatDoor
open Go.RowKit
section
variable {P:Program} {w w' : World} {base:Nat} {e:TypeId} {size:Nat} {a:Option Addr} {n cap:Nat} {xs:List Value}
theorem OwnRow.widen (h:OwnRow w base e size a n cap xs) (m:Nat) (hm:n+m≤cap):∃ ys:List Value,ys.length=m * size∧OwnRow w base e size a (n+m) cap (xs++ys):=by
 have hx:=h.len
 rcases h.own with h0 | ⟨g,off,cur,ha,hb,hg,hfit,ht⟩
 ·obtain rfl:m=0:=by omega
  exact ⟨[],by simp,⟨hm,h.max,by simpa using hx,.inl h0⟩⟩
 ·have hmul:n * size+m * size≤cap * size:=by rw [← Nat.add_mul];exact Nat.mul_le_mul_right _ hm
  refine ⟨((cur.toList.drop off).drop (n * size)).take (m * size),?_,⟨hm,h.max,?_,.inr ⟨g,off,cur,ha,hb,hg,hfit,?_⟩⟩⟩
  ·simp only [List.length_take,List.length_drop,Array.length_toList];omega
  ·simp only [List.length_append,List.length_take,List.length_drop,Array.length_toList];rw [Nat.add_mul];omega
  ·rw [Nat.add_mul,List.take_add,ht]
theorem run_copy_own (h:OwnRow w base e size a n cap xs) {g off:Nat} (ha:a=some ⟨g,off,none⟩) (c:Nat) (vs:List Value) (dT sT ty:TypeId) (hdT:P.underlying dT=some (.slice e)) (hsz:(P.info? e).map (·.size)=some size)
 (dLen dCap:Nat) (xa:Addr) (sLen sCap:Nat) (hn:vs.length=Nat.min sLen dLen * size) (hsrc:∀ j v,vs[j]? = some v→w.cell? (xa.add j)=some v) (hc:c+vs.length≤xs.length) (h1:∀ v∈vs,v.oneCell'=true) (hp:0 < xs.length) :
 ∃ w',(Builtin.copy_ #[dT,sT] ty #[.slice (some ⟨g,off+c,none⟩) dLen dCap,.slice (some xa) sLen sCap]).run P w=.ok (goInt (Nat.min sLen dLen)) w'∧OwnRow w' base e size a n cap (xs.take c++vs++xs.drop (c+vs.length))∧w.grownBy w' (some g):=by
 obtain ⟨w',hr,h2,h3⟩:=own_store (P:=P) h ha c vs hc h1 hp
 refine ⟨w',?_,h2,h3⟩
 have hl:=run_firstCells_some (P:=P) w size (Nat.min sLen dLen) xa sLen sCap vs hn hsrc
 cases hq:P.info? e with
 | none=>simp [hq] at hsz
 | some i=>
  have hi:i.size=size:=by simpa [hq] using hsz
  simp only [Nat.min_def] at hl ⊢
  simp [Builtin.copy_,run_underlying hdT,Builtin.lenOf,sizeOf,typeInfo,hq,hi,Nat.min_def,hl,hr]
theorem wpList_copy_own {ops:Array Oper} {rest:List Oper} {o:Oper} {ac:Act} {Q:Exit→Act→World→Prop} (hgd:o.guard=none) (d s:Operand) (dT sT:TypeId)
 (ho:o.op=.call { callee:=.builtin .copy,args:=#[d,s],argTypes:=#[dT,sT] }) (hdT:P.underlying dT=some (.slice e)) (hsz:(P.info? e).map (·.size)=some size)
 (h:OwnRow w base e size a n cap xs) {g off:Nat} (ha:a=some ⟨g,off,none⟩) (c:Nat) (vs:List Value) (od dLen dCap:Nat) (hd:ac.eval d=.slice (some ⟨g,od,none⟩) dLen dCap) (hod:od=off+c)
 (xa:Addr) (sLen sCap:Nat) (hs:ac.eval s=.slice (some xa) sLen sCap) (hn:vs.length=Nat.min sLen dLen * size) (hsrc:∀ j v,vs[j]? = some v→w.cell? (xa.add j)=some v) (hc:c+vs.length≤xs.length)
 (h1:∀ v∈vs,v.oneCell'=true) (hp:0 < xs.length)
 (hk:∀ w',OwnRow w' base e size a n cap (xs.take c++vs++xs.drop (c+vs.length))→w.grownBy w' (some g)→wpList P ops Q rest (ac.put o.dst (goInt (Nat.min sLen dLen))) w'):wpList P ops Q (o :: rest) ac w:=
 wpList_plain hgd fun _ hK=>by
  subst hod
  obtain ⟨w',hr,h2,h3⟩:=run_copy_own (P:=P) h ha c vs dT sT o.type hdT hsz dLen dCap xa sLen sCap hn hsrc hc h1 hp
  unfold Oper.wp execOp
  simp only [ho,resolve,invoke,builtin,Sem.run_bind,Sem.run_pure,Result.andThen_ok,List.map_toArray,List.map_cons,List.map_nil,hd,hs,hr]
  exact hK _ _ (hk w' h2 h3)
theorem run_append_zeros_row (w:World) (base:Nat) (t tn ty e:TypeId) (kn:IntKind) (size bytes:Nat) (ht:P.underlying t=some (.slice e)) (htn:P.underlying tn=some (.int kn)) (hE:TInfo P e size bytes) (hsz:0 < size)
 (a:Option Addr) (i cap:Nat) (xs:List Value) (hown:OwnRow w base e size a i cap xs) (hi0:0 < xs.length∨i=0) (k:Nat) (h0:0 < k) (hg:cap < i+k) (hbytes:(i+k) * bytes≤140737488355328) :
 ∃ G zs w1,(Builtin.append_ #[t,tn] ty #[.slice a i cap,.int .i64 (k:Int)]).run P w=.ok (.slice (some ⟨w.heap.size,0,none⟩) (i+k) G) w1∧
  OwnRow w1 w.heap.size e size (some ⟨w.heap.size,0,none⟩) (i+k) G (xs++zs)∧zs.length=k * size∧Below w.heap.size w w1:=by
 obtain ⟨f,z,hi,hz,hsize,hby,hzs,hbp⟩:=hE
 have h63:i+k≤maxLen:=by
  have:=Nat.le_mul_of_pos_right (i+k) hbp
  unfold maxLen;omega
 have hsmall:i+k≤9223372036854775807:=by simp only [maxLen] at h63;omega
 subst hsize;subst hby
 have hold:(Builtin.firstCells f.size i (.slice a i cap)).run P w.drew=.ok xs.toArray w.drew:=by
  rcases hown.own with hc0 | ⟨g,off,cur,ha,hb,hgg,hfit,htk⟩
  ·have hz0:i=0:=by have:=hown.le;omega
   subst hz0
   have hx:xs=[]:=List.eq_nil_of_length_eq_zero (by simpa using hown.len)
   subst hx
   cases a <;> simp [Builtin.firstCells,loadCells,loadCellsFrom]
  ·subst ha
   refine run_firstCells_some (P:=P) w.drew f.size i _ i cap xs hown.len fun j v hj=>?_
   rcases hi0 with hp | hz0
   ·obtain ⟨g',off',he,_,_,hcell⟩:=hown.cell hp
    cases he
    rw [Addr.add_lit];exact hcell j v hj
   ·have hx:xs=[]:=List.eq_nil_of_length_eq_zero (by rw [hown.len,hz0];simp)
    subst hx;simp at hj
 have hkb:k * f.bytes≤281474976710656:=by
  have:k * f.bytes≤(i+k) * f.bytes:=Nat.mul_le_mul_right _ (by omega)
  omega
 have hr:=Lib.run_append_grow_zeros (P:=P) w t tn ty e f z .i64 kn ht htn hi hz a i cap xs hold k h0 hsz hg (by omega) hkb (growslice_fits hg hbytes)
 refine ⟨_,(Builtin.zeroCells z.cells k).toList,_,hr,?_,by rw [Array.length_toList,size_zeroCells,hzs],⟨rfl,rfl,rfl,by simp,fun q hq=>Below.heap_alloc w.drew _ q hq⟩⟩
 have hgr:=grown_row w w.heap.size e z f.size hzs i k cap xs (Builtin.zeroCells z.cells k).toList hown.len (by rw [Array.length_toList,size_zeroCells,hzs]) h63 (Nat.le_refl _)
 simpa using hgr
theorem wpList_append_zeros {ops:Array Oper} {rest:List Oper} {o:Oper} {ac:Act} {Q:Exit→Act→World→Prop} (w:World) (hgd:o.guard=none) (s x:Operand) (t tn:TypeId) (kn:IntKind)
 (ho:o.op=.call { callee:=.builtin .append,args:=#[s,x],argTypes:=#[t,tn] })
 (base:Nat) (e:TypeId) (size bytes:Nat) (ht:P.underlying t=some (.slice e)) (htn:P.underlying tn=some (.int kn)) (hE:TInfo P e size bytes) (hsz:0 < size)
 (a:Option Addr) (i cap:Nat) (xs:List Value) (hs:ac.eval s=.slice a i cap) (hown:OwnRow w base e size a i cap xs) (hi0:0 < xs.length∨i=0) (k:Nat) (hx:ac.eval x=.int .i64 (k:Int)) (h0:0 < k) (hg:cap < i+k) (hbytes:(i+k) * bytes≤140737488355328)
 (hk:∀ G zs w1,OwnRow w1 w.heap.size e size (some ⟨w.heap.size,0,none⟩) (i+k) G (xs++zs)→zs.length=k * size→Below w.heap.size w w1→w.heap.size < w1.heap.size→wpList P ops Q rest (ac.put o.dst (.slice (some ⟨w.heap.size,0,none⟩) (i+k) G)) w1):wpList P ops Q (o :: rest) ac w:=
 wpList_plain hgd fun _ hK=>by
  obtain ⟨G,zs,w1,hr,h2,h3,h4⟩:=run_append_zeros_row (P:=P) w base t tn o.type e kn size bytes ht htn hE hsz a i cap xs hown hi0 k h0 hg hbytes
  have hlt:w.heap.size < w1.heap.size:=by
   rcases h2.own with hG0 | ⟨g,off,cur,ha,hb,hgg,_⟩
   ·have:=h2.le;omega
   ·cases ha;exact (Array.getElem?_eq_some_iff.1 hgg).1
  unfold Oper.wp execOp
  simp only [ho,resolve,invoke,builtin,Sem.run_bind,Sem.run_pure,Result.andThen_ok,List.map_toArray,List.map_cons,List.map_nil,hs,hx,hr]
  exact hK _ _ (hk G zs w1 h2 h3 h4 hlt)
theorem step_append_new {wb:World} {ops:Array Oper} {o:Oper} {ac:Act} {K:Act→World→Prop} {Q:Exit→Act→World→Prop} {E:Prop} {e' : TypeId} (hgd:o.guard=none) (s x:Operand) (t:TypeId)
 (ho:o.op=.call { callee:=.builtin .append,args:=#[s,x],argTypes:=#[t,t] })
 (base:Nat) (e:TypeId) (size bytes:Nat) (ht:P.underlying t=some (.slice e)) (hE:TInfo P e size bytes)
 (a:Option Addr) (n cap:Nat) (xs:List Value) (hs:ac.eval s=.slice a n cap) (hown:OwnRow wb base e size a n cap xs)
 (m c:Nat) (news:List Value) (hx:ac.eval x=.slice (some ⟨wb.heap.size,0,none⟩) m c) (hl:news.length=m * size) (h1:∀ u∈news,u.oneCell'=true)
 (hbytes:(n+m) * bytes≤140737488355328) (hbase:base≤wb.heap.size)
 (h:∀ a' cap' w',OwnRow w' base e size a' (n+m) cap' (xs++news)→Below base wb w'→wb.heap.size < w'.heap.size→wb.grownBy w' (ownB a cap)→K (ac.put o.dst (.slice a' (n+m) cap')) w') :
 if Region.wanted o (yielded ops ac.tmps)=true then Oper.wp P o ac (wb.alloc (.cells news.toArray e')) K Q else E:=by
 have hw:Region.wanted o (yielded ops ac.tmps)=true:=by simp [Region.wanted,hgd]
 rw [if_pos hw]
 obtain ⟨i,z,hi,hz,hsize,hby,hzs,hbp⟩:=hE
 have h63:n+m≤maxLen:=by
  have:=Nat.le_mul_of_pos_right (n+m) hbp
  unfold maxLen;omega
 have hown' : OwnRow (wb.alloc (.cells news.toArray e')) base e size a n cap xs:=hown.alloc _
 obtain ⟨a',cap',w',hr,h2,h3,h4⟩:=run_append_row (P:=P) (wb.alloc (.cells news.toArray e')) base t o.type e i z size bytes ht hi hz hsize hby hzs a n cap xs hown' (some ⟨wb.heap.size,0,none⟩) m c news hl
  (.inr ⟨_,rfl,fun j u hu=>by rw [Addr.add_lit,Nat.zero_add,World.cell?_alloc_new];simpa using hu⟩) h1 h63 hbytes (by simp;omega)
 unfold Oper.wp execOp
 simp only [ho,resolve,invoke,builtin,Sem.run_bind,Sem.run_pure,Result.andThen_ok,List.map_toArray,List.map_cons,List.map_nil,hs,hx,hr]
 exact h a' cap' w' h2 (((Below.refl _ _).alloc hbase _).grown h3 (by simp;omega) fun k hk=>(hown.base_le k hk).1) (by have:=h3.size;simp at this;omega)
  ⟨h3.os,h3.tape,h3.output,by have:=h3.size;simp at this;omega,fun k hk hne=>(h3.block k (by simp;omega) hne).trans (Below.heap_alloc _ _ _ hk)⟩
end
end Go.Proofs.YtneoeokfffnonaaGreatDoor
namespace Go.Proofs.YtneoeokfffnonaaGreatDoor
open Go.RowKit
section
variable {P:Program}
theorem step_append_row (w:World) {ops:Array Oper} {o:Oper} {ac:Act} {K:Act→World→Prop} {Q:Exit→Act→World→Prop} {E:Prop} (hgd:o.guard=none) (s x:Operand) (t:TypeId)
 (ho:o.op=.call { callee:=.builtin .append,args:=#[s,x],argTypes:=#[t,t] })
 (base:Nat) (e:TypeId) (size bytes:Nat) (ht:P.underlying t=some (.slice e)) (hE:TInfo P e size bytes)
 (a:Option Addr) (n cap:Nat) (xs:List Value) (hs:ac.eval s=.slice a n cap) (hown:OwnRow w base e size a n cap xs)
 (xa:Option Addr) (m c:Nat) (news:List Value) (hx:ac.eval x=.slice xa m c) (hl:news.length=m * size) (hnews:m=0∨∃ ad,xa=some ad∧∀ j u,news[j]? = some u→w.cell? (ad.add j)=some u) (h1:∀ u∈news,u.oneCell'=true)
 (hbytes:(n+m) * bytes≤140737488355328) (hbase:base≤w.heap.size)
 (h:∀ a' cap' w',OwnRow w' base e size a' (n+m) cap' (xs++news)→w.grownBy w' (ownB a cap)→K (ac.put o.dst (.slice a' (n+m) cap')) w') :
 if Region.wanted o (yielded ops ac.tmps)=true then Oper.wp P o ac w K Q else E:=by
 have hw:Region.wanted o (yielded ops ac.tmps)=true:=by simp [Region.wanted,hgd]
 rw [if_pos hw]
 obtain ⟨i,z,hi,hz,hsize,hby,hzs,hbp⟩:=hE
 have h63:n+m≤maxLen:=by
  have:=Nat.le_mul_of_pos_right (n+m) hbp
  unfold maxLen;omega
 obtain ⟨a',cap',w',hr,h2,h3,_⟩:=run_append_row (P:=P) w base t o.type e i z size bytes ht hi hz hsize hby hzs a n cap xs hown xa m c news hl hnews h1 h63 hbytes hbase
 unfold Oper.wp execOp
 simp only [ho,resolve,invoke,builtin,Sem.run_bind,Sem.run_pure,Result.andThen_ok,List.map_toArray,List.map_cons,List.map_nil,hs,hx,hr]
 exact h a' cap' w' h2 h3
end
theorem SlCh.take_cells {w:World} {a:Option Addr} {cap:Nat} {l:List Ch} (h:SlCh w a cap l) (i:Nat):i=0∨l.length=0∨∃ ad,a=some ad∧∀ j u,(flat (l.take i))[j]? = some u→w.cell? (ad.add j)=some u:=by
 by_cases hi:i=0
 ·exact .inl hi
 by_cases hl:l.length=0
 ·exact .inr (.inl hl)
 obtain ⟨b,off,rfl,_⟩:=h.nth (k:=0) (by omega)
 exact .inr (.inr ⟨_,rfl,(h.take i).cells _ rfl⟩)
theorem SlCh.drop_cells {w:World} {b off:Nat} {cap:Nat} {l:List Ch} (h:SlCh w (some ⟨b,off,none⟩) cap l) (i:Nat):∀ j u,(flat (l.drop i))[j]? = some u→w.cell? ((⟨b,off+i * 7,none⟩:Addr).add j)=some u:=by
 intro j u hu
 rw [Addr.add_lit,Nat.add_assoc,← Addr.add_lit]
 refine h.cells _ rfl _ _ ?_
 rw [← hu,← flat_drop,List.getElem?_drop]
end Go.Proofs.YtneoeokfffnonaaGreatDoor
namespace Go.Proofs.YtneoeokfffnonaaGreatDoor
open Go.RowKit
structure Calm (wz:World) where
 w:World
 h:Below wz.heap.size wz w
instance (wz:World):Inhabited (Calm wz):=⟨⟨wz,Below.refl _ _⟩⟩
end Go.Proofs.YtneoeokfffnonaaGreatDoor
namespace Go.Proofs.YtneoeokfffnonaaGreatDoor
open Go.RowKit
def Later (w w' : World):Prop:=Below w.heap.size w w'
theorem Later.refl (w:World):Later w w:=Below.refl _ _
theorem Later.trans {a b c:World} (h:Later a b) (k:Later b c):Later a c:=Below.trans h (Below.mono k (Below.size h))
theorem later_drew (w:World):Later w { w with drawn:=w.drawn+1 }:=Below.drew (Below.refl _ _)
structure Lt (w:World) where
 v:World
 h:Later w v
instance (w:World):Inhabited (Lt w):=⟨⟨w,Later.refl w⟩⟩
@[simp] theorem later_self (w:World):Later w w:=Later.refl w
@[simp] theorem later_drew' (w:World):Later w w.drew:=later_drew w
@[simp] theorem later_alloc (w:World) (o:Obj):Later w (w.alloc o):=Below.alloc (Below.refl _ _) (Nat.le_refl _) o
structure EftR (R:World→World→Prop):Prop where
 tr:∀ {a b c},R a b→R b c→R a c
 of:∀ {w w'},Later w w'→R w w'
theorem laterR:EftR Later:=⟨Later.trans,id⟩
def effE (H:List Nat) (R:World→World→Prop) (i:Nat) (w w' : World):Prop:=H.contains i=true∨R w w'
inductive OTree
 | nil
 | op (k:Nat) (t:OTree)
 | fork (k1:Nat) (t1:OTree) (k2:Nat) (t2:OTree)
def OTree.len:OTree→Nat
 | .nil=>0
 | .op _ t=>t.len+1
 | .fork _ t1 _ _=>t1.len+1
def OTree.left:OTree→List Nat
 | .nil=>[]
 | .op k t=>k :: t.left
 | .fork k1 t1 _ _=>k1 :: t1.left
def OTree.ops (l:List Nat) (t:OTree):OTree:=l.foldr OTree.op t
section
variable {P:Program} {ops:Array Oper} {md:Region.Mode} {cuts H:List Nat} {R:World→World→Prop} {E:Nat→World→World→Prop} {Q:Act→World→Prop}
def upE (E:World→World→Prop) (P:Program) (o:Oper) (a:Act) (w:World) (K:Act→World→Prop):Result Next→Prop
 | .ok (.value v) w'=>E w w'∧K (a.put o.dst v) w'
 | .ok .skip w'=>E w w'∧K (a.put o.dst undef) w'
 | .ok (.enter f args) w'=>E w w'∧Calls P f args w' fun e w''=>∃ v,e=.returned v∧E w w''∧K (a.put o.dst v) w''
 | _=>False
theorem upE_mono {E E' : World→World→Prop} {o:Oper} {a:Act} {w:World} {K K' : Act→World→Prop} (hE:∀ w w',E w w'→E' w w') (h:∀ a w',K a w'→K' a w') {r:Result Next} (hh:upE E P o a w K r):upE E' P o a w K' r:=by
 cases r with
 | ok n w'=>
  cases n <;> simp only [upE] at hh ⊢
  case enter f args=>exact ⟨hE _ _ hh.1,hh.2.mono fun e w'' ⟨v,h1,h2,h3⟩=>⟨v,h1,hE _ _ h2,h _ _ h3⟩⟩
  all_goals exact ⟨hE _ _ hh.1,h _ _ hh.2⟩
 | halt x w'=>simp only [upE] at hh
def opE (E:Nat→World→World→Prop) (P:Program) (ops:Array Oper) (i:Nat) (K:Act→World→Prop) (a:Act) (w:World):Prop:=
 match ops[i]? with
 | none=>K a w
 | some o=>if Region.wanted o (yielded ops a.tmps) then ∀ w1,Later w w1→upE (E i) P o a w1 K ((execOp a.eval o).run P w1) else K (a.put o.dst undef) w
theorem opE_mono {i:Nat} {a:Act} {w:World} {K K' : Act→World→Prop} (h:∀ a w',K a w'→K' a w') (hh:opE E P ops i K a w):opE E P ops i K' a w:=by
 unfold opE at *
 split
 ·rename_i ho;simp only [ho] at hh;exact h _ _ hh
 ·rename_i o ho
  simp only [ho] at hh
  split
  ·rename_i hw;simp only [hw,if_true] at hh;exact fun w1 h1=>upE_mono (fun _ _ h=>h) h (hh w1 h1)
  ·rename_i hw;simp only [hw] at hh;exact h _ _ hh
theorem opE_later {i:Nat} {a:Act} {w w' : World} {K:Act→World→Prop} (hK:∀ a w w',Later w w'→K a w→K a w') (hl:Later w w') (hh:opE E P ops i K a w):opE E P ops i K a w':=by
 unfold opE at *
 split
 ·rename_i ho;simp only [ho] at hh;exact hK _ _ _ hl hh
 ·rename_i o ho
  simp only [ho] at hh
  split
  ·rename_i hw;simp only [hw,if_true] at hh;exact fun w1 h1=>hh w1 (hl.trans h1)
  ·rename_i hw;simp only [hw] at hh;exact hK _ _ _ hl hh
def wpE (E:Nat→World→World→Prop) (P:Program) (md:Region.Mode) (ops:Array Oper) (Q:Act→World→Prop):Nat→Array Bool→Act→World→Prop
 | 0,listed,a,w=>Region.ready md ops listed=[]∧∀ w',Later w w'→Q a w'
 | fuel+1,listed,a,w=>
  (Region.ready md ops listed=[]→∀ w',Later w w'→Q a w')∧
  ∀ i∈Region.ready md ops listed,opE E P ops i (wpE E P md ops Q fuel (listed.setIfInBounds i true)) a w
theorem wpE_later:∀ (fuel:Nat) (listed:Array Bool) (a:Act) (w w' : World),Later w w'→wpE E P md ops Q fuel listed a w→wpE E P md ops Q fuel listed a w'
 | 0,_,_,_,_,hl,h=>⟨h.1,fun w2 h2=>h.2 w2 (hl.trans h2)⟩
 | fuel+1,_,_,_,_,hl,h=>⟨fun h0 w2 h2=>h.1 h0 w2 (hl.trans h2),fun i hi=>opE_later (fun a w w'=>wpE_later fuel _ a w w') hl (h.2 i hi)⟩
theorem wpOp_of_E {i:Nat} {a:Act} {w:World} {K K' : Act→World→Prop} {Q' : Exit→Act→World→Prop} (h:∀ a w',K a w'→K' a w') (hh:opE E P ops i K a w):wpOp P ops Q' i K' a w:=by
 unfold opE at hh
 unfold wpOp
 split
 ·rename_i ho;simp only [ho] at hh;exact h _ _ hh
 ·rename_i o ho
  simp only [ho] at hh
  split
  ·rename_i hw
   simp only [hw,if_true] at hh
   refine .inl ?_
   have h1:=hh w (Later.refl w)
   unfold Oper.wp
   generalize (execOp a.eval o).run P w=r at *
   cases r with
   | ok n w'=>
    cases n <;> simp only [upE] at h1 <;> simp only [Oper.upon]
    case value u=>exact h _ _ h1.2
    case skip=>exact h _ _ h1.2
    case enter f args=>exact h1.2.mono fun e w'' ⟨v,he,_,hk⟩=>by subst he;exact h _ _ hk
   | halt x w'=>simp only [upE] at h1
  ·rename_i hw;simp only [hw] at hh;exact h _ _ hh
theorem wpAny_of_E {Q' : Exit→Act→World→Prop} (hQ:∀ a w,Q a w→Q' .normal a w):∀ (fuel:Nat) (listed:Array Bool) (a:Act) (w:World),
 wpE E P md ops Q fuel listed a w→wpAny P md ops Q' fuel listed a w
 | 0,_,_,w,h=>⟨h.1,hQ _ _ (h.2 w (Later.refl w))⟩
 | fuel+1,_,_,w,h=>⟨fun h0=>hQ _ _ (h.1 h0 w (Later.refl w)),fun i hi=>wpOp_of_E (fun a' w'=>wpAny_of_E hQ fuel _ a' w') (h.2 i hi)⟩
def YieldsE (R:World→World→Prop) (P:Program) (ops:Array Oper) (o:Oper) (v:Value) (a:Act) (w:World):Prop:=
 (Region.wanted o (yielded ops a.tmps)=true∧∀ w1,R w w1→o.quietAt P a (Later w1) w1 v)∨
 (Region.wanted o (yielded ops a.tmps)=false∧v=undef)
theorem YieldsE.later (hR:EftR R) {o:Oper} {v:Value} {a:Act} {w w' : World} (hl:R w w') (h:YieldsE R P ops o v a w):YieldsE R P ops o v a w':=
 h.imp (fun h=>⟨h.1,fun w1 h1=>h.2 w1 (hR.tr hl h1)⟩) id
theorem YieldsE.opE (hR:EftR R) {i:Nat} {o:Oper} {v:Value} {a:Act} {w:World} (hi:ops[i]? = some o) (hy:YieldsE R P ops o v a w) {K:Act→World→Prop} (hK:∀ a w w',Later w w'→K a w→K a w') (h:K (a.put o.dst v) w):opE (effE H R) P ops i K a w:=by
 unfold Proofs.YtneoeokfffnonaaGreatDoor.opE
 simp only [hi]
 have hE:∀ {w w'},Later w w'→effE H R i w w':=fun h=>.inr (hR.of h)
 rcases hy with ⟨hw,hv⟩ | ⟨hw,rfl⟩
 ·simp only [hw,if_true]
  intro w1 h1
  have h2:=hv w1 (hR.of h1)
  unfold Oper.quietAt at h2
  generalize (execOp a.eval o).run P w1=r at *
  cases r with
  | ok n w'=>
   cases n <;> simp only [Oper.quietUpon] at h2 <;> simp only [upE]
   case value u=>obtain ⟨rfl,rfl⟩:=h2;exact ⟨hE (Later.refl _),hK _ _ _ h1 h⟩
   case skip=>obtain ⟨rfl,rfl⟩:=h2;exact ⟨hE (Later.refl _),hK _ _ _ h1 h⟩
   case enter f args=>
    obtain ⟨rfl,hc⟩:=h2
    exact ⟨hE (Later.refl _),hc.mono fun e w'' ⟨he,hl⟩=>⟨v,he,hE hl,hK _ _ _ (h1.trans hl) h⟩⟩
  | halt x w'=>simp only [Oper.quietUpon] at h2
 ·simp only [hw,Bool.false_eq_true,if_false];exact h
theorem YieldsE.of_same {o:Oper} {v:Value} {a a' : Act} {w:World} (hy:YieldsE R P ops o v a w) (he:execOp a'.eval o=execOp a.eval o)
 (hw:Region.wanted o (yielded ops a'.tmps)=Region.wanted o (yielded ops a.tmps)):YieldsE R P ops o v a' w:=by
 unfold YieldsE Oper.quietAt at *
 rw [he,hw]
 exact hy
theorem opE_put (hR:EftR R) {j:Nat} {oi oj:Oper} {v:Value} (hjH:H.contains j=false) (hj:ops[j]? = some oj) (hap:oi.apart ops oj=true)
 (hsi:∀ cs b,oi.op≠.select cs b) (hsj:∀ cs b,oj.op≠.select cs b) {K:Act→World→Prop} {a:Act} {w:World}
 (hy:YieldsE R P ops oi v a w) (h:opE (effE H R) P ops j K (a.put oi.dst v) w) :
 opE (effE H R) P ops j (fun a' w'=>YieldsE R P ops oi v a' w'∧K (a'.put oi.dst v) w') a w:=by
 obtain ⟨h1,h2,h3⟩:=Oper.apart_spec hap
 have keep:∀ u w1 w',Later w w1→effE H R j w1 w'→YieldsE R P ops oi v (a.put oj.dst u) w':=fun u w1 w' hl he=>
  YieldsE.later hR (hR.tr (hR.of hl) (he.resolve_left (by rw [hjH];exact Bool.false_ne_true))) (hy.of_same (execOp_put oi hsi a oj.dst u h3) (wanted_put oi a oj.dst u h3))
 unfold opE at *
 simp only [hj] at *
 rw [wanted_put oj a oi.dst v h1] at h
 split
 ·rename_i hw
  simp only [hw,if_true] at h
  intro w1 hl
  have h4:=h w1 hl
  rw [execOp_put oj hsj a oi.dst v h1] at h4
  generalize (execOp a.eval oj).run P w1=r at *
  cases r with
  | ok n w'=>
   cases n <;> simp only [upE] at h4 ⊢
   case value u=>exact ⟨h4.1,keep u _ _ hl h4.1,by rw [← Act.put_comm a v u h2];exact h4.2⟩
   case skip=>exact ⟨h4.1,keep undef _ _ hl h4.1,by rw [← Act.put_comm a v undef h2];exact h4.2⟩
   case enter f args=>
    exact ⟨h4.1,h4.2.mono fun e w'' ⟨u,he,hl2,hk⟩=>⟨u,he,hl2,keep u _ _ hl hl2,by rw [← Act.put_comm a v u h2];exact hk⟩⟩
  | halt x w'=>simp only [upE] at h4
 ·rename_i hw
  simp only [hw] at h
  exact ⟨keep undef w w (Later.refl _) (.inr (hR.of (Later.refl _))),by rw [← Act.put_comm a v undef h2];exact h⟩
def Closed (md:Region.Mode) (ops:Array Oper) (listed:Array Bool):Prop:=∀ j o,ops[j]? = some o→listed.getD j false=true→∀ e∈o.after,Region.binds md e=true→listed.getD e.on false=true
theorem Closed.step {listed:Array Bool} {j:Nat} (h:Closed md ops listed) (hj:j∈Region.ready md ops listed):Closed md ops (listed.setIfInBounds j true):=by
 intro i o ho hi e he hb
 by_cases hij:i=j
 ·subst hij
  obtain ⟨_,o',ho',hall⟩:=mem_ready.1 hj
  rw [ho] at ho';cases ho'
  exact getD_set_true (hall e he hb)
 ·rw [getD_set_ne false (Ne.symm hij)] at hi
  exact getD_set_true (h i o ho hi e he hb)
def edge (md:Region.Mode) (ops:Array Oper) (j i:Nat):Bool:=match ops[j]? with
 | none=>false
 | some o=>o.after.any fun e=>Region.binds md e&&e.on==i
def chkH (md:Region.Mode) (ops:Array Oper):List Nat→List Nat→Bool
 | _,[]=>true
 | done,i :: rest=>done.any (fun j=>edge md ops j i)&&chkH md ops (i :: done) rest
theorem edge_spec {j i:Nat} (h:edge md ops j i=true):∃ o,ops[j]? = some o∧∃ e∈o.after,Region.binds md e=true∧e.on=i:=by
 unfold edge at h
 split at h
 ·cases h
 ·rename_i o ho
  simp only [Array.any_eq_true',Bool.and_eq_true,beq_iff_eq] at h
  obtain ⟨e,he,h1,h2⟩:=h
  exact ⟨o,ho,e,he,h1,h2⟩
theorem chkH_spec {listed:Array Bool} (hc:Closed md ops listed):∀ (rev done:List Nat),(∀ j∈done,∀ i,edge md ops j i=true→listed.getD i false=true)→chkH md ops done rev=true→∀ i∈rev,listed.getD i false=true
 | [],_,_,_,i,hi=>by cases hi
 | k :: rest,done,hd,h,i,hi=>by
  simp only [chkH,Bool.and_eq_true,List.any_eq_true] at h
  obtain ⟨⟨j,hj,he⟩,h2⟩:=h
  have hk:=hd j hj k he
  rcases List.mem_cons.1 hi with rfl | hi
  ·exact hk
  ·refine chkH_spec hc rest (k :: done) (fun j' hj' i' he'=>?_) h2 i hi
   rcases List.mem_cons.1 hj' with rfl | hj'
   ·obtain ⟨o,ho,e,hem,hb,rfl⟩:=edge_spec he'
    exact hc _ o ho hk e hem hb
   ·exact hd j' hj' i' he'
theorem hard_waits {listed:Array Bool} {k' i:Nat} {bef:List Nat} (hc:Closed md ops listed) (hr:k'∈Region.ready md ops listed) (h:chkH md ops [k'] bef=true) (hi:i∈bef):listed.getD i false=true:=by
 refine chkH_spec hc bef [k'] (fun j hj i' he=>?_) h i hi
 simp only [List.mem_singleton] at hj
 subst hj
 obtain ⟨o,ho,e,hem,hb,rfl⟩:=edge_spec he
 obtain ⟨_,o',ho',hall⟩:=mem_ready.1 hr
 rw [ho] at ho';cases ho'
 exact hall e hem hb
theorem unlisted_false {listed:Array Bool} {i:Nat} (h:listed.getD i true=false):listed.getD i false=false:=by
 rcases Nat.lt_or_ge i listed.size with h' | h'
 ·simp [h'] at h ⊢;exact h
 ·simp [Array.getElem?_eq_none h']
theorem listed_same {listed:Array Bool} {i:Nat}:(listed.setIfInBounds i true).getD i true=true:=by
 rcases Nat.lt_or_ge i listed.size with h' | h' <;> simp [h']
theorem listed_keep {listed:Array Bool} {i j:Nat} (h:listed.getD i true=true):(listed.setIfInBounds j true).getD i true=true:=by
 by_cases hij:i=j
 ·subst hij;exact listed_same
 ·rw [getD_set_ne true (Ne.symm hij)];exact h
theorem wpE_first (hR:EftR R) {i:Nat} {oi:Oper} {v:Value} (hi:ops[i]? = some oi) (hsel:∀ (j:Nat) (o:Oper) cs b,ops[j]? = some o→o.op≠.select cs b) :
 ∀ (fuel:Nat) (listed:Array Bool) (a:Act) (w:World),Closed md ops listed→
  (∀ k',H.contains k'=true→listed.getD k' true=true∨∀ listed',Closed md ops listed'→k'∈Region.ready md ops listed'→k'≠i→listed'.getD i false=true)→
  (∀ j oj,ops[j]? = some oj→j≠i→listed.getD j true=false→(∀ e∈oj.after,Region.binds md e=true→e.on≠i)→oi.apart ops oj=true)→
  i∈Region.ready md ops listed→YieldsE R P ops oi v a w→
  wpE (effE H R) P md ops Q fuel (listed.setIfInBounds i true) (a.put oi.dst v) w→wpE (effE H R) P md ops Q (fuel+1) listed a w:=by
 intro fuel
 induction fuel with
 | zero=>
  intro listed a w _ _ _ hr hy HH
  refine ⟨fun h=>(by rw [h] at hr;cases hr),fun j hj=>?_⟩
  by_cases hji:j=i
  ·subst hji;exact YieldsE.opE hR hi hy (fun a w w'=>wpE_later _ _ a w w') HH
  ·have:=ready_mono hj hji
   rw [HH.1] at this
   cases this
 | succ fuel ih=>
  intro listed a w hcl hwait hfree hr hy HH
  refine ⟨fun h=>(by rw [h] at hr;cases hr),fun j hj=>?_⟩
  by_cases hji:j=i
  ·subst hji;exact YieldsE.opE hR hi hy (fun a w w'=>wpE_later _ _ a w w') HH
  ·have hjH:H.contains j=false:=by
    cases e:H.contains j
    ·rfl
    ·exfalso
     rcases hwait j e with h1 | h1
     ·rw [(mem_ready.1 hj).1] at h1;cases h1
     ·have h2:=h1 listed hcl hj hji
      rw [unlisted_false (mem_ready.1 hr).1] at h2;cases h2
   obtain ⟨hjun,oj,hoj,hall⟩:=mem_ready.1 hj
   have hnot:∀ e∈oj.after,Region.binds md e=true→e.on≠i:=fun e he hb heq=>by
    have h1:=hall e he hb
    rw [heq,unlisted_false (mem_ready.1 hr).1] at h1;cases h1
   have hfree' : ∀ k ok,ops[k]? = some ok→k≠i→(listed.setIfInBounds j true).getD k true=false→
    (∀ e∈ok.after,Region.binds md e=true→e.on≠i)→oi.apart ops ok=true:=fun k ok hk hki hun hno=>by
    refine hfree k ok hk hki ?_ hno
    by_cases hjk:j=k
    ·subst hjk;exact hjun
    ·rw [getD_set_ne true hjk] at hun;exact hun
   refine opE_mono (fun a' w' h3=>ih (listed.setIfInBounds j true) a' w' (hcl.step hj) (fun k' hk'=>(hwait k' hk').imp listed_keep id) hfree' (ready_mono hr (Ne.symm hji)) h3.1 ?_)
    (opE_put hR hjH hoj (hfree j oj hoj hji hjun hnot) (fun cs b=>hsel i oi cs b hi) (fun cs b=>hsel j oj cs b hoj) hy (HH.2 j (ready_mono hj hji)))
   rw [Array.setIfInBounds_comm _ _ hji]
   exact h3.2
def wpT (R:World→World→Prop) (P:Program) (ops:Array Oper) (cuts H:List Nat) (Q:Act→World→Prop):OTree→Act→World→Prop
 | .nil,a,w=>∀ w',Later w w'→Q a w'
 | .op k t,a,w=>(opE (effE H R) P ops k (wpT R P ops cuts H Q t) a w∧(cuts++H).contains k=true)∨∃ o v,ops[k]? = some o∧(cuts++H).contains k=false∧YieldsE R P ops o v a w∧wpT R P ops cuts H Q t (a.put o.dst v) w
 | .fork k1 t1 k2 t2,a,w=>opE (effE H R) P ops k1 (wpT R P ops cuts H Q t1) a w∧opE (effE H R) P ops k2 (wpT R P ops cuts H Q t2) a w
def mixFromF (md:Region.Mode) (ops:Array Oper) (cuts H:List Nat):OTree→Array Bool→Bool
 | .nil,listed=>(Region.ready md ops listed).isEmpty
 | .op k t,listed=>(if cuts.contains k then Region.ready md ops listed==[k] else (Region.ready md ops listed).contains k&&Region.free md ops listed k)&&mixFromF md ops cuts H t (listed.setIfInBounds k true)
 | .fork k1 t1 k2 t2,listed=>(Region.ready md ops listed==[k1,k2]&&(t1.len==t2.len)&&(H.all fun k=>!(k1 :: t1.left).contains k||(k2 :: t2.left).contains k))&&mixFromF md ops cuts H t1 (listed.setIfInBounds k1 true)&&mixFromF md ops cuts H t2 (listed.setIfInBounds k2 true)
def hardBF (md:Region.Mode) (ops:Array Oper) (H:List Nat):OTree→List Nat→Bool
 | .nil,_=>true
 | .op k t,bef=>(if H.contains k then chkH md ops [k] bef else true)&&hardBF md ops H t (k :: bef)
 | .fork k1 t1 _ t2,bef=>(if H.contains k1 then chkH md ops [k1] bef else true)&&hardBF md ops H t1 bef&&hardBF md ops H t2 bef
theorem hardBF_spec {k' : Nat} (hk:H.contains k'=true):∀ (t:OTree) (bef:List Nat),hardBF md ops H t bef=true→k'∈t.left→∃ bef',(∀ x∈bef,x∈bef')∧chkH md ops [k'] bef'=true
 | .nil,_,_,h=>by cases h
 | .op k t,bef,hB,h=>by
  simp only [hardBF,Bool.and_eq_true] at hB
  rcases List.mem_cons.1 h with rfl | h
  ·exact ⟨bef,fun x hx=>hx,by have h1:=hB.1;simp only [hk,if_true] at h1;exact h1⟩
  ·obtain ⟨b,h1,h2⟩:=hardBF_spec hk t (k :: bef) hB.2 h
   exact ⟨b,fun x hx=>h1 x (List.mem_cons_of_mem _ hx),h2⟩
 | .fork k1 t1 k2 t2,bef,hB,h=>by
  simp only [hardBF,Bool.and_eq_true] at hB
  rcases List.mem_cons.1 h with rfl | h
  ·exact ⟨bef,fun x hx=>hx,by have h1:=hB.1.1;simp only [hk,if_true] at h1;exact h1⟩
  ·exact hardBF_spec hk t1 bef hB.1.2 h
theorem wpT_later (hR:EftR R):∀ (t:OTree) (a:Act) (w w' : World),Later w w'→wpT R P ops cuts H Q t a w→wpT R P ops cuts H Q t a w'
 | .nil,_,_,_,hl,h=>fun w2 h2=>h w2 (hl.trans h2)
 | .op _ t,_,_,_,hl,h=>h.imp (fun h=>⟨opE_later (fun a w w'=>wpT_later hR t a w w') hl h.1,h.2⟩) fun ⟨o,v,h1,h2,h3,h4⟩=>⟨o,v,h1,h2,YieldsE.later hR (hR.of hl) h3,wpT_later hR t _ _ _ hl h4⟩
 | .fork _ t1 _ t2,_,_,_,hl,h=>⟨opE_later (fun a w w'=>wpT_later hR t1 a w w') hl h.1,opE_later (fun a w w'=>wpT_later hR t2 a w w') hl h.2⟩
theorem wpE_lex (hR:EftR R) (hs:Region.noSelect ops=true):∀ (t:OTree) (bef:List Nat) (listed:Array Bool) (a:Act) (w:World),Closed md ops listed→
 (∀ k',H.contains k'=true→k'∈t.left∨listed.getD k' true=true)→hardBF md ops H t bef=true→
 mixFromF md ops (cuts++H) H t listed=true→wpT R P ops cuts H Q t a w→wpE (effE H R) P md ops Q t.len listed a w
 | .nil,_,_,_,_,_,_,_,hB,h=>⟨by simpa [mixFromF] using hB,h⟩
 | .fork k1 t1 k2 t2,bef,listed,a,w,hcl,hin,hhb,hB,h=>by
  simp only [mixFromF,Bool.and_eq_true,beq_iff_eq] at hB
  obtain ⟨⟨⟨⟨hr,hlen⟩,hall⟩,hB1⟩,hB2⟩:=hB
  simp only [hardBF,Bool.and_eq_true] at hhb
  have step:∀ (k:Nat) (t:OTree),(∀ k',H.contains k'=true→k'∈k :: t.left∨listed.getD k' true=true)→∀ k',H.contains k'=true→k'∈t.left∨(listed.setIfInBounds k true).getD k' true=true:=fun k t hin k' hk'=>by
   rcases hin k' hk' with h1 | h1
   ·rcases List.mem_cons.1 h1 with rfl | h1
    ·exact .inr listed_same
    ·exact .inl h1
   ·exact .inr (listed_keep h1)
  have r1:k1∈Region.ready md ops listed:=by rw [hr];simp
  have r2:k2∈Region.ready md ops listed:=by rw [hr];simp
  have hin2:∀ k',H.contains k'=true→k'∈k2 :: t2.left∨listed.getD k' true=true:=fun k' hk'=>by
   rcases hin k' hk' with h1 | h1
   ·left
    have h2:=List.all_eq_true.1 hall k' (by simpa using hk')
    have h3:(k1 :: t1.left).contains k'=true:=by
     have h4:k'∈k1 :: t1.left:=h1
     simpa using h4
    simp only [h3,Bool.not_true,Bool.false_or] at h2
    simpa using h2
   ·exact .inr h1
  refine ⟨fun h2=>(by rw [hr] at h2;cases h2),fun i hi=>?_⟩
  rw [hr] at hi
  simp only [List.mem_cons,List.not_mem_nil,or_false] at hi
  rcases hi with rfl | rfl
  ·exact opE_mono (fun a w=>wpE_lex hR hs t1 bef _ a w (hcl.step r1) (step i t1 hin) hhb.1.2 hB1) h.1
  ·show opE _ P ops i (wpE _ P md ops Q t1.len _) a w
   rw [hlen]
   exact opE_mono (fun a w=>wpE_lex hR hs t2 bef _ a w (hcl.step r2) (step i t2 hin2) hhb.2 hB2) h.2
 | .op k t,bef,listed,a,w,hcl,hin,hhb,hB,h=>by
  simp only [mixFromF,Bool.and_eq_true] at hB
  obtain ⟨hB1,hB'⟩:=hB
  have hhb' : hardBF md ops H t (k :: bef)=true:=by simp only [hardBF,Bool.and_eq_true] at hhb;exact hhb.2
  have hrk:k∈Region.ready md ops listed:=by
   by_cases hc:(cuts++H).contains k=true
   ·simp only [hc,if_true,beq_iff_eq] at hB1;rw [hB1];simp
   ·simp only [hc,Bool.false_eq_true,if_false,Bool.and_eq_true] at hB1;simpa using hB1.1
  have ih:=fun a w=>wpE_lex hR hs t (k :: bef) (listed.setIfInBounds k true) a w (hcl.step hrk) (fun k' hk'=>by
   rcases hin k' hk' with h1 | h1
   ·rcases List.mem_cons.1 h1 with rfl | h1
    ·exact .inr listed_same
    ·exact .inl h1
   ·exact .inr (listed_keep h1)) hhb' hB'
  rcases h with ⟨h,hc⟩ | ⟨o,v,h0,hc,hy,hK⟩
  ·simp only [hc,if_true,beq_iff_eq] at hB1
   refine ⟨fun h2=>(by rw [hB1] at h2;cases h2),fun i hi=>?_⟩
   rw [hB1] at hi
   obtain rfl:i=k:=by simpa using hi
   exact opE_mono ih h
  ·simp only [hc,Bool.false_eq_true,if_false,Bool.and_eq_true] at hB1
   refine wpE_first hR h0 (Region.noSelect_spec hs) t.len listed a w hcl (fun k' hk'=>?_) (Region.free_spec h0 hB1.2) hrk hy (ih _ _ hK)
   rcases hin k' hk' with h1 | h1
   ·right
    intro listed' hc' hr' hne
    rcases List.mem_cons.1 h1 with rfl | h1
    ·exact absurd rfl hne
    ·obtain ⟨b,hb1,hb2⟩:=hardBF_spec hk' t (k :: bef) hhb' h1
     exact hard_waits hc' hr' hb2 (hb1 k (List.mem_cons_self ..))
   ·exact .inl h1
def mixFB (md:Region.Mode) (ops:Array Oper) (cuts H:List Nat) (t:OTree):Bool:=Region.noSelect ops&&(t.len==ops.size)&&mixFromF md ops (cuts++H) H t (Array.replicate ops.size false)&&hardBF md ops H t []&&H.all fun k=>t.left.contains k
theorem wp_region_E (hR:EftR R) {id:Nat} {Q:Exit→Act→World→Prop} {a:Act} {w:World} {t:OTree} (hm:P.follows .mixedOrders=true) (hB:mixFB .any ops cuts H t=true)
 (h:wpT R P ops cuts H (fun a' w'=>Q .normal a' w') t a w):(Code.region id ops true).wp P Q a w:=by
 simp only [mixFB,Bool.and_eq_true,beq_iff_eq] at hB
 obtain ⟨⟨⟨⟨h1,h2⟩,h3⟩,h4⟩,h5⟩:=hB
 refine wp_region_any hm (wpAny_of_E (E:=effE H R) (Q:=fun a' w'=>Q .normal a' w') (fun _ _ h=>h) _ _ _ _ ?_)
 have:=wpE_lex (md:=.any) hR h1 t [] (Array.replicate ops.size false) a { w with drawn:=w.drawn+1 } (fun j o _ hj=>by
  exfalso
  rw [Array.getD_eq_getD_getElem?,Array.getElem?_replicate] at hj
  split at hj <;> simp at hj) (fun k' hk'=>.inl (by simpa using List.all_eq_true.1 h5 k' (by simpa using hk'))) h4 h3 (wpT_later hR t a w _ (later_drew w) h)
 rwa [h2] at this
end
section
variable {P:Program} {ops:Array Oper} {cuts H:List Nat} {Q:Act→World→Prop} {o:Oper} {t t1 t2:OTree} {l:List Nat} {k k1 k2:Nat} {a:Act} {w:World} {R:World→World→Prop}
def Oper.mixUpon (P:Program) (o:Oper) (a:Act) (w:World) (K:Act→World→Prop) (r:Result Next):Prop:=upE Later P o a w K r
def Oper.hardUpon (P:Program) (o:Oper) (a:Act) (w:World) (K:Act→World→Prop) (r:Result Next):Prop:=upE (fun _ _=>True) P o a w K r
@[go_sem] theorem mixUpon_value (K:Act→World→Prop) (w' : World) (v:Value):Oper.mixUpon P o a w K (.ok (.value v) w')=(Later w w'∧K (a.put o.dst v) w'):=rfl
@[go_sem] theorem mixUpon_skip (K:Act→World→Prop) (w' : World):Oper.mixUpon P o a w K (.ok .skip w')=(Later w w'∧K (a.put o.dst undef) w'):=rfl
@[go_sem] theorem mixUpon_enter (K:Act→World→Prop) (w' : World) (f:FuncId) (args:Array Value):Oper.mixUpon P o a w K (.ok (.enter f args) w')=(Later w w'∧Calls P f args w' fun e w''=>∃ v,e=.returned v∧Later w w''∧K (a.put o.dst v) w''):=rfl
@[go_sem] theorem hardUpon_value (K:Act→World→Prop) (w' : World) (v:Value):Oper.hardUpon P o a w K (.ok (.value v) w')=K (a.put o.dst v) w':=by simp only [Oper.hardUpon,upE,true_and]
@[go_sem] theorem hardUpon_skip (K:Act→World→Prop) (w' : World):Oper.hardUpon P o a w K (.ok .skip w')=K (a.put o.dst undef) w':=by simp only [Oper.hardUpon,upE,true_and]
@[go_sem] theorem hardUpon_enter (K:Act→World→Prop) (w' : World) (f:FuncId) (args:Array Value):Oper.hardUpon P o a w K (.ok (.enter f args) w')=Calls P f args w' fun e w''=>∃ v,e=.returned v∧K (a.put o.dst v) w'':=by simp only [Oper.hardUpon,upE,true_and]
theorem opE_step {K K' : Act→World→Prop} (ho:ops[k]? = some o) (hK:∀ a w,K a w→K' a w) (h:if Region.wanted o (yielded ops a.tmps) then
 (if H.contains k then ∀ p:Lt w,Oper.hardUpon P o a p.v K ((execOp a.eval o).run P p.v)
  else ∀ p:Lt w,upE R P o a p.v K ((execOp a.eval o).run P p.v))
 else K (a.put o.dst undef) w):opE (effE H R) P ops k K' a w:=by
 unfold opE
 simp only [ho]
 split
 ·rename_i hw
  rw [if_pos hw] at h
  intro w1 h1
  split at h
  ·rename_i hH;exact upE_mono (fun _ _ _=>.inl hH) hK (h ⟨w1,h1⟩)
  ·exact upE_mono (fun _ _ h=>.inr h) hK (h ⟨w1,h1⟩)
 ·rename_i hw;rw [if_neg hw] at h;exact hK _ _ h
theorem wpT_step {K:Act→World→Prop} {qt:Value→Prop} (ho:ops[k]? = some o) (hK:∀ a w,K a w→wpT R P ops cuts H Q t a w) (hq:∀ v,qt v→∀ w1,R w w1→o.quietAt P a (fun w''=>∃ q:Lt w1,w''=q.v) w1 v) (h:if Region.wanted o (yielded ops a.tmps) then
 (if H.contains k then ∀ p:Lt w,Oper.hardUpon P o a p.v K ((execOp a.eval o).run P p.v)
  else if cuts.contains k then ∀ p:Lt w,upE R P o a p.v K ((execOp a.eval o).run P p.v)
  else ∃ v,qt v∧K (a.put o.dst v) w)
 else K (a.put o.dst undef) w):wpT R P ops cuts H Q (.op k t) a w:=by
 by_cases hc:(cuts++H).contains k=true
 ·refine .inl ⟨opE_step ho hK ?_,hc⟩
  split
  ·rename_i hw
   rw [if_pos hw] at h
   split
   ·rename_i hH;rw [if_pos hH] at h;exact h
   ·rename_i hH
    rw [if_neg hH,if_pos (by simp only [List.contains_iff_mem,List.mem_append] at *;exact hc.resolve_right hH)] at h
    exact h
  ·rename_i hw;rw [if_neg hw] at h;exact h
 ·have hc' : ¬ cuts.contains k=true∧¬ H.contains k=true:=by simp only [List.contains_iff_mem,List.mem_append,not_or] at *;exact hc
  rw [if_neg hc'.2,if_neg hc'.1] at h
  right
  split at h
  ·rename_i hw
   obtain ⟨v,hv,hn⟩:=h
   refine ⟨o,v,ho,by simpa using hc,.inl ⟨hw,fun w1 hw1=>?_⟩,hK _ _ hn⟩
   have h2:=hq v hv w1 hw1
   unfold Oper.quietAt at *
   generalize (execOp a.eval o).run P w1=r at *
   cases r with
   | ok n w'=>
    cases n <;> simp only [Oper.quietUpon] at h2 ⊢
    case enter f args=>exact ⟨h2.1,h2.2.mono fun e w'' ⟨he,q,hq⟩=>⟨he,hq ▸ q.h⟩⟩
    all_goals exact h2
   | halt x w'=>simp only [Oper.quietUpon] at h2
  ·rename_i hw;exact ⟨o,undef,ho,by simpa using hc,.inr ⟨by simpa using hw,rfl⟩,hK _ _ h⟩
structure wpMix (P:Program) (ops:Array Oper) (cuts:List Nat) (Q:Act→World→Prop) (l:List Nat) (a:Act) (w:World):Prop where
 out:wpT Later P ops cuts [] Q (.ops l .nil) a w
def mixB (md:Region.Mode) (ops:Array Oper) (cuts ord:List Nat):Bool:=mixFB md ops cuts [] (.ops ord .nil)
theorem wp_region_mix {id:Nat} {Q:Exit→Act→World→Prop} {a:Act} {w:World} {ops:Array Oper} (cuts ord:List Nat) (hm:P.follows .mixedOrders=true) (hB:mixB .any ops cuts ord=true)
 (h:wpMix P ops cuts (fun a' w'=>Q .normal a' w') ord a w):(Code.region id ops true).wp P Q a w:=wp_region_E laterR hm hB h.out
theorem wpMix_nil (h:∀ w',Later w w'→Q a w'):wpMix P ops cuts Q [] a w:=⟨h⟩
theorem wpMix_step (ho:ops[k]? = some o) (h:∀ K:Act→World→Prop,(∀ a w,wpMix P ops cuts Q l a w→K a w)→
 if Region.wanted o (yielded ops a.tmps) then
  (if cuts.contains k then ∀ p:Lt w,Oper.mixUpon P o a p.v K ((execOp a.eval o).run P p.v)
   else ∃ v,(∀ p:Lt w,o.quietAt P a (fun w''=>∃ q:Lt p.v,w''=q.v) p.v v)∧K (a.put o.dst v) w)
 else K (a.put o.dst undef) w):wpMix P ops cuts Q (k :: l) a w:=⟨wpT_step (t:=.ops l .nil) (K:=wpMix P ops cuts Q l) ho (fun _ _ h=>h.out) (fun _ hv w1 hw1=>hv ⟨w1,hw1⟩) (h _ fun _ _ h=>h)⟩
structure wpMixH (P:Program) (ops:Array Oper) (cuts H:List Nat) (Q:Act→World→Prop) (l:List Nat) (a:Act) (w:World):Prop where
 out:wpT Later P ops cuts H Q (.ops l .nil) a w
def mixHB (md:Region.Mode) (ops:Array Oper) (cuts H ord:List Nat):Bool:=mixFB md ops cuts H (.ops ord .nil)
theorem wp_region_mixh {id:Nat} {Q:Exit→Act→World→Prop} {a:Act} {w:World} {ops:Array Oper} (cuts H ord:List Nat) (hm:P.follows .mixedOrders=true) (hB:mixHB .any ops cuts H ord=true)
 (h:wpMixH P ops cuts H (fun a' w'=>Q .normal a' w') ord a w):(Code.region id ops true).wp P Q a w:=wp_region_E laterR hm hB h.out
theorem wpMixH_nil (h:∀ w',Later w w'→Q a w'):wpMixH P ops cuts H Q [] a w:=⟨h⟩
theorem wpMixH_step (ho:ops[k]? = some o) (h:∀ K:Act→World→Prop,(∀ a w,wpMixH P ops cuts H Q l a w→K a w)→
 if Region.wanted o (yielded ops a.tmps) then
  (if H.contains k then ∀ p:Lt w,Oper.hardUpon P o a p.v K ((execOp a.eval o).run P p.v)
   else if cuts.contains k then ∀ p:Lt w,Oper.mixUpon P o a p.v K ((execOp a.eval o).run P p.v)
   else ∃ v,(∀ p:Lt w,o.quietAt P a (fun w''=>∃ q:Lt p.v,w''=q.v) p.v v)∧K (a.put o.dst v) w)
 else K (a.put o.dst undef) w):wpMixH P ops cuts H Q (k :: l) a w:=⟨wpT_step (t:=.ops l .nil) (K:=wpMixH P ops cuts H Q l) ho (fun _ _ h=>h.out) (fun _ hv w1 hw1=>hv ⟨w1,hw1⟩) (h _ fun _ _ h=>h)⟩
theorem quietM {f:FuncId} {args:Array Value} {w:World} {v:Value} (p:Lt w)
 (h:Calls P f args p.v fun e w'=>e=.returned v∧Below p.v.heap.size p.v w'):Calls P f args p.v fun e w''=>e=.returned v∧∃ q:Lt p.v,w''=q.v:=
 h.mono fun _ w' ⟨he,hb⟩=>⟨he,⟨w',hb⟩,rfl⟩
theorem quietM_same {f:FuncId} {args:Array Value} {w:World} {v:Value} (p:Lt w)
 (h:Calls P f args p.v fun e w'=>e=.returned v∧w'=p.v):Calls P f args p.v fun e w''=>e=.returned v∧∃ q:Lt p.v,w''=q.v:=
 h.mono fun _ w' ⟨he,hb⟩=>⟨he,⟨w',by rw [hb];exact Later.refl _⟩,rfl⟩
end
theorem later_cell {w:World} {b o:Nat} {v:Value} (h:w.cell? ⟨b,o,none⟩=some v):∀ W,Later w W→W.cell? ⟨b,o,none⟩=some v:=
 fun _ hC=>(Below.cell hC (p:=⟨b,o,none⟩) (World.block_lt_of_cell? w _ h)).trans h
namespace MB
def Eff (B:Nat) (w w' : World):Prop:=B≤w.heap.size→Below B w w'
theorem Eff.of {B:Nat} {w w' : World} (h:Later w w'):Eff B w w':=fun hB=>Below.mono h hB
theorem effR (B:Nat):EftR (Eff B):=⟨fun h k hB=>(h hB).trans (k (Nat.le_trans hB (h hB).size)),Eff.of⟩
structure LtB (B:Nat) (w:World) where
 v:World
 h:Below B w v
instance (B:Nat) (w:World):Inhabited (LtB B w):=⟨⟨w,Below.refl B w⟩⟩
@[simp] theorem eff_self {B:Nat} {w:World}:Eff B w w:=fun _=>Below.refl _ _
theorem quiet_same {P:Program} {f:FuncId} {args:Array Value} {W:World} {v:Value} (h:Calls P f args W fun e w'=>e=.returned v∧w'=W):Calls P f args W fun e w''=>e=.returned v∧∃ q:Lt W,w''=q.v:=
 h.mono fun _ w' ⟨he,hb⟩=>⟨he,⟨w',by rw [hb];exact Later.refl _⟩,rfl⟩
theorem cellB {B:Nat} {w:World} {a:Addr} {v:Value} (h:w.cell? a=some v) (hb:a.block < B):∀ q:LtB B w,q.v.cell? a=some v:=fun q=>(q.h.cell (p:=a) hb).trans h
section
variable {B:Nat} {P:Program} {ops:Array Oper} {cuts H:List Nat} {Q:Act→World→Prop} {o:Oper} {t t1 t2:OTree} {k k1 k2:Nat} {a:Act} {w:World}
def mixUpon (B:Nat) (P:Program) (o:Oper) (a:Act) (w:World) (K:Act→World→Prop) (r:Result Next):Prop:=upE (Eff B) P o a w K r
@[go_sem] theorem mixUpon_value (K:Act→World→Prop) (w' : World) (v:Value):mixUpon B P o a w K (.ok (.value v) w')=(Eff B w w'∧K (a.put o.dst v) w'):=rfl
@[go_sem] theorem mixUpon_skip (K:Act→World→Prop) (w' : World):mixUpon B P o a w K (.ok .skip w')=(Eff B w w'∧K (a.put o.dst undef) w'):=rfl
@[go_sem] theorem mixUpon_enter (K:Act→World→Prop) (w' : World) (f:FuncId) (args:Array Value):mixUpon B P o a w K (.ok (.enter f args) w')=(Eff B w w'∧Calls P f args w' fun e w''=>∃ v,e=.returned v∧Eff B w w''∧K (a.put o.dst v) w''):=rfl
structure wpMixF (B:Nat) (P:Program) (ops:Array Oper) (cuts H:List Nat) (Q:Act→World→Prop) (t:OTree) (a:Act) (w:World):Prop where
 out:wpT (Eff B) P ops cuts H Q t a w
def wpCut (B:Nat) (P:Program) (ops:Array Oper) (H:List Nat) (k:Nat) (K:Act→World→Prop) (a:Act) (w:World):Prop:=opE (effE H (Eff B)) P ops k K a w
theorem wp_region_mixb {id:Nat} {Q:Exit→Act→World→Prop} {a:Act} {w:World} {ops:Array Oper} (B:Nat) (cuts H:List Nat) (t:OTree) (hm:P.follows .mixedOrders=true) (hB:mixFB .any ops cuts H t=true)
 (h:wpMixF B P ops cuts H (fun a' w'=>Q .normal a' w') t a w):(Code.region id ops true).wp P Q a w:=wp_region_E (effR B) hm hB h.out
theorem wpMixF_nil (h:∀ w',Later w w'→Q a w'):wpMixF B P ops cuts H Q .nil a w:=⟨h⟩
theorem wpMixF_step (hB:B≤w.heap.size) (ho:ops[k]? = some o) (h:∀ K:Act→World→Prop,(∀ a w,wpMixF B P ops cuts H Q t a w→K a w)→
 if Region.wanted o (yielded ops a.tmps) then
  (if H.contains k then ∀ p:Lt w,Oper.hardUpon P o a p.v K ((execOp a.eval o).run P p.v)
   else if cuts.contains k then ∀ p:Lt w,mixUpon B P o a p.v K ((execOp a.eval o).run P p.v)
   else ∃ v,(∀ p:LtB B w,o.quietAt P a (fun w''=>∃ q:Lt p.v,w''=q.v) p.v v)∧K (a.put o.dst v) w)
 else K (a.put o.dst undef) w):wpMixF B P ops cuts H Q (.op k t) a w:=⟨wpT_step (K:=wpMixF B P ops cuts H Q t) ho (fun _ _ h=>h.out) (fun _ hv w1 hw1=>hv ⟨w1,hw1 hB⟩) (h _ fun _ _ h=>h)⟩
theorem wpCut_step (ho:ops[k]? = some o) (h:∀ K:Act→World→Prop,(∀ a w,wpMixF B P ops cuts H Q t a w→K a w)→
 if Region.wanted o (yielded ops a.tmps) then
  (if H.contains k then ∀ p:Lt w,Oper.hardUpon P o a p.v K ((execOp a.eval o).run P p.v)
   else ∀ p:Lt w,mixUpon B P o a p.v K ((execOp a.eval o).run P p.v))
 else K (a.put o.dst undef) w):wpCut B P ops H k (wpMixF B P ops cuts H Q t) a w:=opE_step ho (fun _ _ h=>h) (h _ fun _ _ h=>h)
theorem wpMixF_fork (h1:wpCut B P ops H k1 (wpMixF B P ops cuts H Q t1) a w) (h2:wpCut B P ops H k2 (wpMixF B P ops cuts H Q t2) a w):wpMixF B P ops cuts H Q (.fork k1 t1 k2 t2) a w:=⟨opE_mono (fun _ _ h=>h.out) h1,opE_mono (fun _ _ h=>h.out) h2⟩
end
end MB
namespace MG
section
variable {P:Program} {ops:Array Oper} {cuts H:List Nat} {Q:Act→World→Prop} {o:Oper} {t t1 t2:OTree} {k k1 k2:Nat} {a:Act} {w:World}
structure wpMixF (P:Program) (ops:Array Oper) (cuts H:List Nat) (Q:Act→World→Prop) (t:OTree) (a:Act) (w:World):Prop where
 out:wpT Later P ops cuts H Q t a w
def wpCut (P:Program) (ops:Array Oper) (H:List Nat) (k:Nat) (K:Act→World→Prop) (a:Act) (w:World):Prop:=opE (effE H Later) P ops k K a w
theorem wp_region_mixf {id:Nat} {Q:Exit→Act→World→Prop} {a:Act} {w:World} {ops:Array Oper} (cuts H:List Nat) (t:OTree) (hm:P.follows .mixedOrders=true) (hB:mixFB .any ops cuts H t=true)
 (h:wpMixF P ops cuts H (fun a' w'=>Q .normal a' w') t a w):(Code.region id ops true).wp P Q a w:=wp_region_E laterR hm hB h.out
theorem wpMixF_nil (h:∀ w',Later w w'→Q a w'):wpMixF P ops cuts H Q .nil a w:=⟨h⟩
theorem wpMixF_step (ho:ops[k]? = some o) (h:∀ K:Act→World→Prop,(∀ a w,wpMixF P ops cuts H Q t a w→K a w)→
 if Region.wanted o (yielded ops a.tmps) then
  (if H.contains k then ∀ p:Lt w,Oper.hardUpon P o a p.v K ((execOp a.eval o).run P p.v)
   else if cuts.contains k then ∀ p:Lt w,Oper.mixUpon P o a p.v K ((execOp a.eval o).run P p.v)
   else ∃ v,(∀ p:Lt w,o.quietAt P a (fun w''=>∃ q:Lt p.v,w''=q.v) p.v v)∧K (a.put o.dst v) w)
 else K (a.put o.dst undef) w):wpMixF P ops cuts H Q (.op k t) a w:=⟨wpT_step (K:=wpMixF P ops cuts H Q t) ho (fun _ _ h=>h.out) (fun _ hv w1 hw1=>hv ⟨w1,hw1⟩) (h _ fun _ _ h=>h)⟩
theorem wpCut_step (ho:ops[k]? = some o) (h:∀ K:Act→World→Prop,(∀ a w,wpMixF P ops cuts H Q t a w→K a w)→
 if Region.wanted o (yielded ops a.tmps) then
  (if H.contains k then ∀ p:Lt w,Oper.hardUpon P o a p.v K ((execOp a.eval o).run P p.v)
   else ∀ p:Lt w,Oper.mixUpon P o a p.v K ((execOp a.eval o).run P p.v))
 else K (a.put o.dst undef) w):wpCut P ops H k (wpMixF P ops cuts H Q t) a w:=opE_step ho (fun _ _ h=>h) (h _ fun _ _ h=>h)
theorem wpMixF_fork (h1:wpCut P ops H k1 (wpMixF P ops cuts H Q t1) a w) (h2:wpCut P ops H k2 (wpMixF P ops cuts H Q t2) a w):wpMixF P ops cuts H Q (.fork k1 t1 k2 t2) a w:=⟨opE_mono (fun _ _ h=>h.out) h1,opE_mono (fun _ _ h=>h.out) h2⟩
end
end MG
end Go.Proofs.YtneoeokfffnonaaGreatDoor
namespace Go.Proofs.YtneoeokfffnonaaGreatDoor
open Go.RowKit
def isWriter (x:Int):Bool:=decide (0≤x)&&decide (x < 4)
def bitOf (x:Int):Int:=if x=0 then 1 else if x=1 then 2 else if x=2 then 4 else if x=3 then 8 else 0
def Ch.knowsIn (c:Ch) (seen by_:Int):Bool:=decide (c.In≤seen)||c.By==by_
def Ch.knowsOut (c:Ch) (seen by_:Int):Bool:=(decide (0 < c.Out)&&decide (c.Out≤seen))||bits .and .i64 c.Gone (bitOf by_) !=0
def Ch.sees (c:Ch) (seen by_:Int):Bool:=c.knowsIn seen by_&&!c.knowsOut seen by_
def Ch.same (a b:Ch):Bool:=a.By==b.By&&a.No==b.No&&a.K==b.K
def vis (seen by_:Int) (l:List Ch):List Ch:=l.filter fun c=>c.sees seen by_
def viewN (seen by_:Int) (l:List Ch):List Int:=(vis seen by_ l).map Ch.C
def viewV (seen by_:Int) (l:List Ch):List Value:=(viewN seen by_ l).map (Value.int .u8)
theorem vis_snoc (seen by_:Int) (l:List Ch) (k:Nat) (h:k < l.length):vis seen by_ (l.take (k+1))=vis seen by_ (l.take k)++(if l[k].sees seen by_ then [l[k]] else []):=by
 unfold vis
 rw [List.take_succ_eq_append_getElem h,List.filter_append]
 congr 1
 by_cases hs:l[k].sees seen by_ <;> simp [hs]
theorem vis_le (seen by_:Int) (l:List Ch):(vis seen by_ l).length≤l.length:=List.length_filter_le _ _
def behindFrom (seen by_:Int):List Ch→Int→Int→Int
 | [],_,_=>-1
 | c :: l,n,i=>if c.sees seen by_ then (if n=1 then i+1 else behindFrom seen by_ l (n - 1) (i+1)) else behindFrom seen by_ l n (i+1)
def behind (seen by_:Int) (l:List Ch) (n:Int):Int:=if n=0 then 0 else behindFrom seen by_ l n 0
theorem behindFrom_neg (seen by_:Int) (l:List Ch):∀ (n i:Int),n < 1→behindFrom seen by_ l n i=-1:=by
 induction l with
 | nil=>intros;rfl
 | cons c l ih=>
  intro n i h
  unfold behindFrom
  rw [if_neg (show ¬ n=1 by omega),ih _ _ h,ih _ _ (show n - 1 < 1 by omega)]
  simp
def findFrom (c:Ch):List Ch→Int→Int
 | [],_=>-1
 | x :: l,i=>if x.same c then i else findFrom c l (i+1)
def find (l:List Ch) (c:Ch):Int:=findFrom c l 0
def i64ok (x:Int):Prop:=-9223372036854775808≤x∧x < 9223372036854775808
def Ch.ok (c:Ch):Prop:=(0≤c.C∧c.C < 256)∧i64ok c.By∧i64ok c.No∧i64ok c.K∧i64ok c.In∧i64ok c.Out∧i64ok c.Gone
theorem nat_and_pow (n k:Nat):n&&& 2 ^ k=if n.testBit k then 2 ^ k else 0:=by
 apply Nat.eq_of_testBit_eq
 intro j
 rw [Nat.testBit_and,Nat.testBit_two_pow]
 by_cases hj:k=j
 ·subst hj
  cases hb:n.testBit k <;> simp
 ·cases hb:n.testBit k <;> simp [hj]
theorem bits_and_pow (g:Int) (k:Nat) (hk:k < 62):bits .and .i64 g ((2 ^ k:Nat):Int)=if ((g % 18446744073709551616).toNat).testBit k then ((2 ^ k:Nat):Int) else 0:=by
 have hp:(2:Nat) ^ k < 2 ^ 62:=Nat.pow_lt_pow_right (by omega) hk
 have e2:(BitVec.ofInt 64 ((2 ^ k:Nat):Int)).toNat=2 ^ k:=by
  rw [BitVec.toNat_ofInt]
  have:((2 ^ k:Nat):Int) % ((2 ^ 64:Nat):Int)=((2 ^ k:Nat):Int):=Int.emod_eq_of_lt (Int.natCast_nonneg _) (Int.ofNat_lt.2 (Nat.lt_trans hp (by decide)))
  rw [this];rfl
 have e1:(BitVec.ofInt 64 g).toNat=(g % 18446744073709551616).toNat:=by rw [BitVec.toNat_ofInt];rfl
 show IntKind.i64.wrap ((BitVec.ofInt 64 g&&& BitVec.ofInt 64 ((2 ^ k:Nat):Int)).toNat:Int)=_
 rw [BitVec.toNat_and,e1,e2,nat_and_pow]
 have hp' : ((2 ^ k:Nat):Int) < 4611686018427387904:=Int.lt_of_lt_of_le (Int.ofNat_lt.2 hp) (by decide)
 have hp0:(0:Int)≤((2 ^ k:Nat):Int):=Int.natCast_nonneg _
 split
 ·generalize ((2 ^ k:Nat):Int)=q at *
  rw [IntKind.wrap_i64];omega
 ·rfl
def took (g x:Int):Bool:=bits .and .i64 g (bitOf x) !=0
theorem bits_zero (g:Int):bits .and .i64 g 0=0:=by
 show IntKind.i64.wrap ((BitVec.ofInt 64 g&&& BitVec.ofInt 64 0).toNat:Int)=_
 simp;rfl
theorem took_no (g x:Int) (h:isWriter x=false):took g x=false:=by
 have:bitOf x=0:=by
  simp [isWriter] at h;unfold bitOf;repeat (rw [if_neg (by omega)])
 unfold took;rw [this,bits_zero];rfl
theorem took_pow (g:Int) (k:Nat) (hk:k < 62) (x:Int) (hx:bitOf x=((2 ^ k:Nat):Int)):took g x=((g % 18446744073709551616).toNat).testBit k:=by
 unfold took;rw [hx,bits_and_pow g k hk]
 have hp:0 < (2:Nat) ^ k:=Nat.pow_pos (by omega)
 cases hb:((g % 18446744073709551616).toNat).testBit k
 ·simp
 ·rw [if_pos rfl]
  have:((2 ^ k:Nat):Int)≠0:=by intro h0;have:=Int.ofNat_eq_zero.1 h0;omega
  simpa [bne_iff_ne] using this
theorem took_0 (g:Int):took g 0=decide (g % 2=1):=by
 rw [took_pow g 0 (by omega) 0 rfl,Nat.testBit_eq_decide_div_mod_eq];congr 1;simp only [Nat.reducePow];apply propext;omega
theorem took_1 (g:Int):took g 1=decide (g / 2 % 2=1):=by
 rw [took_pow g 1 (by omega) 1 rfl,Nat.testBit_eq_decide_div_mod_eq];congr 1;simp only [Nat.reducePow];apply propext;omega
theorem took_2 (g:Int):took g 2=decide (g / 4 % 2=1):=by
 rw [took_pow g 2 (by omega) 2 rfl,Nat.testBit_eq_decide_div_mod_eq];congr 1;simp only [Nat.reducePow];apply propext;omega
theorem took_3 (g:Int):took g 3=decide (g / 8 % 2=1):=by
 rw [took_pow g 3 (by omega) 3 rfl,Nat.testBit_eq_decide_div_mod_eq];congr 1;simp only [Nat.reducePow];apply propext;omega
theorem isWriter_cases {x:Int} (h:isWriter x=true):x=0∨x=1∨x=2∨x=3:=by simp [isWriter] at h;omega
theorem took_compl (g x:Int) (h:isWriter x=true):took (-g - 1) x = !took g x:=by
 rcases isWriter_cases h with rfl | rfl | rfl | rfl
 ·rw [took_0,took_0];by_cases h:g % 2=1 <;> simp [h] <;> omega
 ·rw [took_1,took_1];by_cases h:g / 2 % 2=1 <;> simp [h] <;> omega
 ·rw [took_2,took_2];by_cases h:g / 4 % 2=1 <;> simp [h] <;> omega
 ·rw [took_3,took_3];by_cases h:g / 8 % 2=1 <;> simp [h] <;> omega
def halves:Nat→Int→Int
 | 0,g=>g
 | n+1,g=>halves n (g / 2)
theorem took_halves (g:Int) (x:Int) (h:isWriter x=true):took g x=(halves x.toNat g % 2==1):=by
 have e:∀ a:Int,(a==1)=decide (a=1):=fun a=>by by_cases h:a=1 <;> simp [h]
 rcases isWriter_cases h with rfl | rfl | rfl | rfl
 ·rw [took_0,e];rfl
 ·rw [took_1,e];rfl
 ·rw [took_2,e];show decide (g / 4 % 2=1)=decide (g / 2 / 2 % 2=1);congr 2;omega
 ·rw [took_3,e];show decide (g / 8 % 2=1)=decide (g / 2 / 2 / 2 % 2=1);congr 2;omega
theorem knowsOut_took (c:Ch) (seen by_:Int):c.knowsOut seen by_=(took c.Gone by_||(decide (0 < c.Out)&&decide (c.Out≤seen))):=by
 unfold Ch.knowsOut took;rw [Bool.or_comm]
def bad1 (c:Ch):Bool:=!isWriter c.By||decide (c.No < 1)||decide (c.K < 0)||decide (20≤c.K)||decide (c.Gone < 0)||decide (16≤c.Gone)
def bad2 (log:Int) (c:Ch):Bool:=(c.In !=1073741824&&(decide (c.In < 1)||decide (log < c.In)))||decide (c.Out < 0)||decide (log < c.Out)
def bad3 (c:Ch):Bool:=decide (0 < c.Out)&&(decide (c.Out≤c.In)||c.Gone==0)
def chk (log:Int):List Ch→List Ch→Int
 | _,[]=>0
 | pre,c :: r=>if bad1 c then 1 else if bad2 log c then 1 else if bad3 c then 3 else if 0≤find pre c then 6 else chk log (pre++[c]) r
def listFault (l:List Ch) (log:Int):Int:=if 200 < l.length then 10 else chk log [] l
theorem bad1_cases (c:Ch):(bad1 c=true∧isWriter c.By=false)∨(bad1 c=true∧isWriter c.By=true∧c.No < 1)∨(bad1 c=true∧isWriter c.By=true∧1≤c.No∧c.K < 0)∨
 (bad1 c=true∧isWriter c.By=true∧1≤c.No∧0≤c.K∧20≤c.K)∨(bad1 c=true∧isWriter c.By=true∧1≤c.No∧0≤c.K∧c.K < 20∧c.Gone < 0)∨
 (bad1 c=true∧isWriter c.By=true∧1≤c.No∧0≤c.K∧c.K < 20∧0≤c.Gone∧16≤c.Gone)∨(bad1 c=false∧isWriter c.By=true∧1≤c.No∧0≤c.K∧c.K < 20∧0≤c.Gone∧c.Gone < 16):=by
 unfold bad1
 cases isWriter c.By <;> simp <;> omega
theorem bad2_cases (log:Int) (c:Ch):(bad2 log c=true∧(c.In !=1073741824)=true∧c.In < 1)∨(bad2 log c=true∧(c.In !=1073741824)=true∧1≤c.In∧log < c.In)∨
 (bad2 log c=true∧(c.In !=1073741824)=false∧c.Out < 0)∨(bad2 log c=true∧(c.In !=1073741824)=true∧1≤c.In∧c.In≤log∧c.Out < 0)∨
 (bad2 log c=true∧(c.In !=1073741824)=false∧0≤c.Out∧log < c.Out)∨(bad2 log c=true∧(c.In !=1073741824)=true∧1≤c.In∧c.In≤log∧0≤c.Out∧log < c.Out)∨
 (bad2 log c=false∧(c.In !=1073741824)=false∧0≤c.Out∧c.Out≤log)∨(bad2 log c=false∧(c.In !=1073741824)=true∧1≤c.In∧c.In≤log∧0≤c.Out∧c.Out≤log):=by
 unfold bad2
 by_cases h:c.In=1073741824 <;> simp [h] <;> omega
theorem bad3_cases (c:Ch):(bad3 c=false∧c.Out≤0)∨(bad3 c=true∧0 < c.Out∧c.Out≤c.In)∨(bad3 c=true∧0 < c.Out∧c.In < c.Out∧(c.Gone==0)=true)∨(bad3 c=false∧0 < c.Out∧c.In < c.Out∧(c.Gone==0)=false):=by
 unfold bad3
 by_cases h:c.Gone=0 <;> simp [h] <;> omega
end Go.Proofs.YtneoeokfffnonaaGreatDoor
namespace Go.Proofs.YtneoeokfffnonaaGreatDoor
theorem vis_cons (seen by_:Int) (c:Ch) (l:List Ch):vis seen by_ (c :: l)=(if c.sees seen by_ then [c] else [])++vis seen by_ l:=by
 unfold vis;by_cases h:c.sees seen by_ <;> simp [h]
theorem behindFrom_spec (seen by_:Int) (l:List Ch):∀ (n:Nat) (i:Int),1≤n→
 (n≤(vis seen by_ l).length∧∃ k,1≤k∧∃ h:k - 1 < l.length,behindFrom seen by_ l n i=i+k∧(vis seen by_ (l.take k)).length=n∧l[k - 1].sees seen by_=true)∨
 ((vis seen by_ l).length < n∧behindFrom seen by_ l n i=-1):=by
 induction l with
 | nil=>intro n i h;right;exact ⟨by simp [vis];omega,rfl⟩
 | cons c l ih=>
  intro n i hn
  have hv:=vis_cons seen by_ c l
  unfold behindFrom
  cases hs:c.sees seen by_
  ·simp only [hs,Bool.false_eq_true,if_false,List.nil_append] at hv ⊢
   rcases ih n (i+1) hn with ⟨h1,k,hk,hkl,he,ht,hl⟩ | ⟨h1,he⟩
   ·left
    refine ⟨by rw [hv];exact h1,k+1,by omega,by simp;omega,by rw [he];omega,?_,?_⟩
    ·rw [List.take_succ_cons,vis_cons,hs];simpa using ht
    ·have:k+1 - 1=(k - 1)+1:=by omega
     simp only [this,List.getElem_cons_succ];exact hl
   ·right;exact ⟨by rw [hv];exact h1,he⟩
  ·simp only [hs,if_true,List.cons_append,List.nil_append] at hv ⊢
   by_cases h1:n=1
   ·subst h1
    left
    refine ⟨by rw [hv];simp,1,by omega,by simp,by simp,by rw [List.take_succ_cons,List.take_zero,vis_cons,hs];simp [vis],by simpa using hs⟩
   ·rw [if_neg (by omega)]
    have e:((n:Int) - 1)=((n - 1:Nat):Int):=by omega
    rw [e]
    rcases ih (n - 1) (i+1) (by omega) with ⟨h2,k,hk,hkl,he,ht,hl⟩ | ⟨h2,he⟩
    ·left
     refine ⟨by rw [hv];simp;omega,k+1,by omega,by simp;omega,by rw [he];omega,?_,?_⟩
     ·rw [List.take_succ_cons,vis_cons,hs];simp only [if_true,List.cons_append,List.nil_append,List.length_cons,ht];omega
     ·have:k+1 - 1=(k - 1)+1:=by omega
      simp only [this,List.getElem_cons_succ];exact hl
    ·right;exact ⟨by rw [hv];simp;omega,he⟩
theorem behind_pos (seen by_:Int) (l:List Ch) (n:Nat) (h1:1≤n) (h:n≤(vis seen by_ l).length) :
 ∃ k,∃ h:k < l.length,behind seen by_ l n=(k:Int)+1∧(vis seen by_ (l.take (k+1))).length=n∧l[k].sees seen by_=true:=by
 rcases behindFrom_spec seen by_ l n 0 h1 with ⟨_,k,hk,hkl,he,ht,hl⟩ | ⟨h2,_⟩
 ·exact ⟨k - 1,hkl,by unfold behind;rw [if_neg (by omega),he];omega,by rw [show k - 1+1=k by omega];exact ht,hl⟩
 ·omega
theorem behind_no (seen by_:Int) (l:List Ch) (n:Int) (h:n < 0∨((vis seen by_ l).length:Int) < n):behind seen by_ l n=-1:=by
 unfold behind
 rw [if_neg (by omega)]
 by_cases h0:n < 1
 ·exact behindFrom_neg _ _ _ _ _ h0
 ·obtain ⟨m,rfl⟩:=Int.eq_ofNat_of_zero_le (show 0≤n by omega)
  rcases behindFrom_spec seen by_ l m 0 (by omega) with ⟨h2,_⟩ | ⟨_,he⟩
  ·omega
  ·exact he
end Go.Proofs.YtneoeokfffnonaaGreatDoor
namespace Go.Proofs.YtneoeokfffnonaaGreatDoor
open Go.RowKit
def doneB (least:Int) (c:Ch):Bool:=decide (0 < c.Out)&&decide (c.Out≤least)
def clearOf (least:Int) (l:List Ch):List Ch:=l.filter fun c=>!doneB least c
theorem clearOf_le (least:Int) (l:List Ch):(clearOf least l).length≤l.length:=List.length_filter_le _ _
theorem clearOf_snoc (least:Int) (l:List Ch) (k:Nat) (h:k < l.length):clearOf least (l.take (k+1))=clearOf least (l.take k)++(if doneB least l[k] then [] else [l[k]]):=by
 unfold clearOf
 rw [List.take_succ_eq_append_getElem h,List.filter_append]
 congr 1;cases hd:doneB least l[k] <;> simp [hd]
theorem done_sees (least seen by_:Int) (c:Ch) (h:least≤seen) (hd:doneB least c=true):c.sees seen by_=false:=by
 simp [doneB] at hd
 have:c.knowsOut seen by_=true:=by unfold Ch.knowsOut;simp;left;omega
 simp [Ch.sees,this]
theorem vis_clear (least seen by_:Int) (l:List Ch) (h:least≤seen):vis seen by_ (clearOf least l)=vis seen by_ l:=by
 unfold vis clearOf
 rw [List.filter_filter]
 apply List.filter_congr
 intro c _
 cases hd:doneB least c
 ·simp
 ·simp [done_sees least seen by_ c h hd]
end Go.Proofs.YtneoeokfffnonaaGreatDoor
namespace Go.Proofs.YtneoeokfffnonaaGreatDoor
open Go.RowKit
structure Dd where
 (Kind By No Seen At Many:Int) (Text:ByteArray)
 deriving DecidableEq
def Dd.cells (d:Dd):List Value:=[.int .i64 d.Kind,.int .i64 d.By,.int .i64 d.No,.int .i64 d.Seen,.int .i64 d.At,.int .i64 d.Many,.string d.Text]
def Dd.ok (d:Dd):Prop:=i64ok d.Kind∧i64ok d.By∧i64ok d.No∧i64ok d.Seen∧i64ok d.At∧i64ok d.Many∧d.Text.size≤maxLen
def bytesOf (s:ByteArray):List Int:=s.data.toList.map fun u=>(u.toNat:Int)
theorem bytesOf_length (s:ByteArray):(bytesOf s).length=s.size:=by simp [bytesOf]
def badByte (x:Int):Bool:=decide (x < 32)||decide (126 < x)
def textOk (s:ByteArray):Bool:=decide (0 < s.size)&&decide (s.size≤20)&&(bytesOf s).all fun x=>!badByte x
def deedRange (d:Dd):Bool:=!isWriter d.By||decide (d.No < 1)||decide (120 < d.No)||decide (d.Seen < 0)||decide (120 < d.Seen)||decide (d.At < 0)||decide (200 < d.At)
def deedFault (d:Dd):Int:=
 if d.Kind=1 then
  if deedRange d then 1 else if d.Many=0 then (if textOk d.Text then 0 else 4) else 3
 else if d.Kind=2 then
  if deedRange d then 1 else if d.Text.size=0 then (if d.Many < 1∨200 < d.Many then 1 else 0) else 3
 else 2
theorem deedFault_zero {d:Dd} (h:deedFault d=0):isWriter d.By=true∧1≤d.No∧d.No≤120∧0≤d.Seen∧d.Seen≤120∧0≤d.At∧d.At≤200∧
 ((d.Kind=1∧d.Many=0∧textOk d.Text=true)∨(d.Kind=2∧1≤d.Many∧d.Many≤200∧d.Text.size=0)):=by
 unfold deedFault at h
 by_cases h1:d.Kind=1
 ·rw [if_pos h1] at h
  by_cases hr:deedRange d=true
  ·rw [if_pos hr] at h;omega
  ·rw [if_neg hr] at h
   simp only [Bool.not_eq_true] at hr
   simp only [deedRange,Bool.or_eq_false_iff,Bool.not_eq_false',decide_eq_false_iff_not] at hr
   by_cases hm:d.Many=0
   ·rw [if_pos hm] at h
    by_cases ht:textOk d.Text=true
    ·exact ⟨hr.1.1.1.1.1.1,by omega,by omega,by omega,by omega,by omega,by omega,.inl ⟨h1,hm,ht⟩⟩
    ·rw [if_neg ht] at h;omega
   ·rw [if_neg hm] at h;omega
 ·rw [if_neg h1] at h
  by_cases h2:d.Kind=2
  ·rw [if_pos h2] at h
   by_cases hr:deedRange d=true
   ·rw [if_pos hr] at h;omega
   ·rw [if_neg hr] at h
    simp only [Bool.not_eq_true] at hr
    simp only [deedRange,Bool.or_eq_false_iff,Bool.not_eq_false',decide_eq_false_iff_not] at hr
    by_cases hm:d.Text.size=0
    ·rw [if_pos hm] at h
     by_cases ht:d.Many < 1∨200 < d.Many
     ·rw [if_pos ht] at h;omega
     ·exact ⟨hr.1.1.1.1.1.1,by omega,by omega,by omega,by omega,by omega,by omega,.inr ⟨h2,by omega,by omega,hm⟩⟩
    ·rw [if_neg hm] at h;omega
  ·rw [if_neg h2] at h;omega
def newOf (d:Dd) (number:Int):List Ch:=(bytesOf d.Text).mapIdx fun k c=>⟨c,d.By,d.No,k,number,0,0⟩
theorem newOf_length (d:Dd) (number:Int):(newOf d number).length=d.Text.size:=by rw [newOf,List.length_mapIdx,bytesOf_length]
def mayDo (l:List Ch) (d:Dd):Int:=
 if deedFault d=0 then
  if ((vis d.Seen d.By l).length:Int) < d.At+d.Many then 1 else if 200 < l.length+d.Text.size then 9 else 0
 else deedFault d
theorem mayDo_zero {l:List Ch} {d:Dd} (h:mayDo l d=0):deedFault d=0∧d.At+d.Many≤((vis d.Seen d.By l).length:Int)∧l.length+d.Text.size≤200:=by
 unfold mayDo at h
 by_cases h1:deedFault d=0
 ·rw [if_pos h1] at h
  by_cases h2:((vis d.Seen d.By l).length:Int) < d.At+d.Many
  ·rw [if_pos h2] at h;omega
  ·rw [if_neg h2] at h
   by_cases h3:200 < l.length+d.Text.size
   ·rw [if_pos h3] at h;omega
   ·exact ⟨h1,by omega,by omega⟩
 ·rw [if_neg h1] at h;exact absurd h h1
theorem mayDo_intro {l:List Ch} {d:Dd} (h1:deedFault d=0) (h2:d.At+d.Many≤((vis d.Seen d.By l).length:Int)) (h3:l.length+d.Text.size≤200):mayDo l d=0:=by
 unfold mayDo;rw [if_pos h1,if_neg (by omega),if_neg (by omega)]
def openOther (by_:Int) (c:Ch):Bool:=c.In==1073741824&&c.By !=by_
def skip (by_:Int) (l:List Ch) (k:Nat):Nat:=k+((l.drop k).takeWhile (openOther by_)).length
def putAt (l:List Ch) (d:Dd):Nat:=skip d.By l (behind d.Seen d.By l d.At).toNat
theorem skip_le (by_:Int) (l:List Ch) (k:Nat) (h:k≤l.length):k≤skip by_ l k∧skip by_ l k≤l.length:=by
 unfold skip
 have:=(List.takeWhile_sublist (openOther by_) (l:=l.drop k)).length_le
 rw [List.length_drop] at this
 omega
theorem skip_step (by_:Int) (l:List Ch) (k:Nat) (h:k < l.length):skip by_ l k=if openOther by_ l[k] then skip by_ l (k+1) else k:=by
 unfold skip
 rw [List.drop_eq_getElem_cons h,List.takeWhile_cons]
 split
 ·simp only [List.length_cons];omega
 ·simp
theorem skip_end (by_:Int) (l:List Ch) (k:Nat) (h:l.length≤k):skip by_ l k=k:=by
 unfold skip;rw [List.drop_of_length_le h];rfl
def mark (by_ number:Int) (c:Ch):Ch:={ c with Gone:=c.Gone+bitOf by_,Out:=if number≠1073741824∧(c.Out=0∨number < c.Out) then number else c.Out }
def takeGo (seen by_ lo hi number:Int):List Ch→Int→List Ch
 | [],_=>[]
 | c :: l,k=>if c.sees seen by_ then (if lo≤k∧k < hi then mark by_ number c else c) :: takeGo seen by_ lo hi number l (k+1) else c :: takeGo seen by_ lo hi number l k
theorem takeGo_length (seen by_ lo hi number:Int) (l:List Ch):∀ k,(takeGo seen by_ lo hi number l k).length=l.length:=by
 induction l with
 | nil=>intro k;rfl
 | cons c l ih=>intro k;unfold takeGo;split <;> simp [ih]
theorem takeGo_get (seen by_ lo hi number:Int) (l:List Ch):∀ (k:Int) (i:Nat),(takeGo seen by_ lo hi number l k)[i]? =
 (l[i]?).map fun c=>if c.sees seen by_=true∧lo≤k+(vis seen by_ (l.take i)).length∧k+(vis seen by_ (l.take i)).length < hi then mark by_ number c else c:=by
 induction l with
 | nil=>intro k i;simp [takeGo]
 | cons c l ih=>
  intro k i
  unfold takeGo
  cases i with
  | zero=>
   cases hs:c.sees seen by_ <;> simp [hs,vis]
  | succ i=>
   have hv:=vis_cons seen by_ c (l.take i)
   cases hs:c.sees seen by_
   ·simp only [hs,Bool.false_eq_true,if_false,List.getElem?_cons_succ,ih,List.take_succ_cons,hv,List.nil_append]
   ·simp only [hs,if_true,List.getElem?_cons_succ,ih,List.take_succ_cons,hv,List.cons_append,List.nil_append,List.length_cons]
    have e:k+1+((vis seen by_ (l.take i)).length:Int)=k+(((vis seen by_ (l.take i)).length+1:Nat):Int):=by omega
    rw [e]
def doF (l:List Ch) (d:Dd) (number:Int):List Ch × Int:=
 if mayDo l d=0 then
  if number < 1 then ([],1)
  else if d.Kind=1 then (l.take (putAt l d)++newOf d number++l.drop (putAt l d),0)
  else (takeGo d.Seen d.By d.At (d.At+d.Many) number l 0,0)
 else ([],mayDo l d)
theorem doF_cases (l:List Ch) (d:Dd) (number:Int) :
 (mayDo l d≠0∧doF l d number=([],mayDo l d))∨(mayDo l d=0∧number < 1∧doF l d number=([],1))∨
 (mayDo l d=0∧1≤number∧d.Kind=1∧doF l d number=(l.take (putAt l d)++newOf d number++l.drop (putAt l d),0))∨
 (mayDo l d=0∧1≤number∧d.Kind=2∧doF l d number=(takeGo d.Seen d.By d.At (d.At+d.Many) number l 0,0)):=by
 by_cases h:mayDo l d=0
 ·by_cases hn:number < 1
  ·exact .inr (.inl ⟨h,hn,by unfold doF;rw [if_pos h,if_pos hn]⟩)
  ·by_cases hk:d.Kind=1
   ·exact .inr (.inr (.inl ⟨h,by omega,hk,by unfold doF;rw [if_pos h,if_neg hn,if_pos hk]⟩))
   ·refine .inr (.inr (.inr ⟨h,by omega,?_,by unfold doF;rw [if_pos h,if_neg hn,if_neg hk]⟩))
    rcases (deedFault_zero (mayDo_zero h).1).2.2.2.2.2.2.2 with ⟨h1,_⟩ | ⟨h2,_⟩
    ·exact absurd h1 hk
    ·exact h2
 ·exact .inl ⟨h,by unfold doF;rw [if_neg h]⟩
theorem behind_le (seen by_:Int) (l:List Ch) (n:Int):behind seen by_ l n≤l.length:=by
 by_cases h:n < 0∨((vis seen by_ l).length:Int) < n
 ·rw [behind_no seen by_ l n h];omega
 ·by_cases h0:n=0
  ·unfold behind;rw [if_pos h0];omega
  ·obtain ⟨m,rfl⟩:=Int.eq_ofNat_of_zero_le (show 0≤n by omega)
   obtain ⟨k,hk,he,_⟩:=behind_pos seen by_ l m (by omega) (by omega)
   omega
theorem putAt_le (l:List Ch) (d:Dd):putAt l d≤l.length:=by
 have:=behind_le d.Seen d.By l d.At
 exact (skip_le d.By l _ (by omega)).2
def allFrom:List Ch→Int→List Dd→List Ch × Int × Int
 | out,_,[]=>(out,0,0)
 | out,i,d :: ds=>if (doF out d (i+1)).2=0 then allFrom (doF out d (i+1)).1 (i+1) ds else ([],(doF out d (i+1)).2,i)
def allF (ds:List Dd):List Ch × Int × Int:=allFrom [] 0 ds
theorem allFrom_cons (out:List Ch) (i:Int) (d:Dd) (ds:List Dd):allFrom out i (d :: ds)=if (doF out d (i+1)).2=0 then allFrom (doF out d (i+1)).1 (i+1) ds else ([],(doF out d (i+1)).2,i):=rfl
theorem allFrom_append (ds es:List Dd):∀ (out:List Ch) (i:Int),allFrom out i (ds++es)=if (allFrom out i ds).2.1=0 then allFrom (allFrom out i ds).1 (i+ds.length) es else allFrom out i ds:=by
 induction ds with
 | nil=>intro out i;simp [allFrom]
 | cons d ds ih=>
  intro out i
  rw [List.cons_append,allFrom_cons,allFrom_cons]
  by_cases h:(doF out d (i+1)).2=0
  ·rw [if_pos h,if_pos h,ih]
   have e:i+1+(ds.length:Int)=i+((d :: ds).length:Int):=by simp;omega
   rw [e]
  ·rw [if_neg h,if_neg h]
   exact (if_neg h).symm
def textF (l:List Ch):List Int:=viewN 1073741823 (-1) l
end Go.Proofs.YtneoeokfffnonaaGreatDoor
namespace Go.Proofs.YtneoeokfffnonaaGreatDoor
open Go.RowKit
theorem dec_congr {p q:Prop} [Decidable p] [Decidable q] (h:p↔q):decide p=decide q:=by simp [h]
theorem took_add_self (g b:Int) (hb:isWriter b=true) (h:took g b=false):took (g+bitOf b) b=true:=by
 rcases isWriter_cases hb with rfl | rfl | rfl | rfl
 ·rw [took_0] at *;simp [bitOf] at *;omega
 ·rw [took_1] at *;simp [bitOf] at *;omega
 ·rw [took_2] at *;simp [bitOf] at *;omega
 ·rw [took_3] at *;simp [bitOf] at *;omega
theorem took_add_other (g b x:Int) (hb:isWriter b=true) (h:took g b=false) (hx:x≠b):took (g+bitOf b) x=took g x:=by
 cases hw:isWriter x
 ·rw [took_no _ _ hw,took_no _ _ hw]
 ·rcases isWriter_cases hb with rfl | rfl | rfl | rfl <;> rcases isWriter_cases hw with rfl | rfl | rfl | rfl <;>
   first
   | exact absurd rfl hx
   | (simp only [took_0,took_1,took_2,took_3,decide_eq_false_iff_not] at *;simp only [bitOf];apply dec_congr;omega)
theorem sees_took {c:Ch} {seen by_:Int} (h:c.sees seen by_=true):took c.Gone by_=false:=by
 unfold Ch.sees at h;rw [knowsOut_took] at h
 cases ht:took c.Gone by_
 ·rfl
 ·simp [ht] at h
theorem mark_early (seen by_ number:Int) (c:Ch) (hb:isWriter by_=true) (h:c.sees seen by_=true) (seen' by' : Int) (hne:by'≠by_) (hlt:seen' < number):(mark by_ number c).sees seen' by'=c.sees seen' by':=by
 unfold Ch.sees;rw [knowsOut_took,knowsOut_took]
 have e:took (mark by_ number c).Gone by'=took c.Gone by':=took_add_other _ _ _ hb (sees_took h) hne
 rw [e]
 have e2:(decide (0 < (mark by_ number c).Out)&&decide ((mark by_ number c).Out≤seen'))=(decide (0 < c.Out)&&decide (c.Out≤seen')):=by
  unfold mark
  simp only
  split
  ·rename_i hc
   rw [Bool.eq_iff_iff];simp;omega
  ·rfl
 rw [e2];rfl
theorem vis_append (seen by_:Int) (a b:List Ch):vis seen by_ (a++b)=vis seen by_ a++vis seen by_ b:=by simp [vis]
theorem viewN_append (seen by_:Int) (a b:List Ch):viewN seen by_ (a++b)=viewN seen by_ a++viewN seen by_ b:=by simp [viewN,vis_append]
theorem viewN_none (seen by_:Int) (l:List Ch) (h:∀ c∈l,c.sees seen by_=false):viewN seen by_ l=[]:=by
 unfold viewN vis;rw [List.filter_eq_nil_iff.2 (fun c hc=>by simp [h c hc])];rfl
theorem newOf_mem {d:Dd} {number:Int} {c:Ch} (h:c∈newOf d number):c.By=d.By∧c.No=d.No∧c.In=number∧c.Out=0∧c.Gone=0∧0≤c.K∧c.K < d.Text.size:=by
 unfold newOf at h
 obtain ⟨i,hi,rfl⟩:=List.mem_mapIdx.1 h
 rw [bytesOf_length] at hi
 exact ⟨rfl,rfl,rfl,rfl,rfl,by simp,by simp;omega⟩
theorem took_zero (x:Int):took 0 x=false:=by
 cases hw:isWriter x
 ·exact took_no _ _ hw
 ·rcases isWriter_cases hw with rfl | rfl | rfl | rfl
  ·rw [took_0];rfl
  ·rw [took_1];rfl
  ·rw [took_2];rfl
  ·rw [took_3];rfl
theorem fresh_sees {c:Ch} (h0:c.Out=0) (hg:c.Gone=0) (seen by_:Int):c.sees seen by_=c.knowsIn seen by_:=by
 unfold Ch.sees;rw [knowsOut_took,hg,took_zero,h0];simp
theorem newOf_early (d:Dd) (number seen by_:Int) (h:seen < number) (hne:by_≠d.By):viewN seen by_ (newOf d number)=[]:=by
 apply viewN_none
 intro c hc
 obtain ⟨h1,_,h3,h4,h5,_⟩:=newOf_mem hc
 rw [fresh_sees h4 h5];unfold Ch.knowsIn;simp [h3,h1,h];exact fun e=>hne e.symm
theorem viewN_length (seen by_:Int) (l:List Ch):(viewN seen by_ l).length=(vis seen by_ l).length:=by simp [viewN]
theorem takeGo_early (seen by_ lo hi number:Int) (hb:isWriter by_=true) (l:List Ch) (seen' by' : Int) (hne:by'≠by_) (hlt:seen' < number):∀ k:Int,
 viewN seen' by' (takeGo seen by_ lo hi number l k)=viewN seen' by' l:=by
 induction l with
 | nil=>intro k;rfl
 | cons c l ih=>
  intro k
  unfold takeGo
  have hv:∀ (c:Ch) (l:List Ch),viewN seen' by' (c :: l)=(if c.sees seen' by' then [c.C] else [])++viewN seen' by' l:=fun c l=>by
   unfold viewN;rw [vis_cons];split <;> simp
  cases hs:c.sees seen by_
  ·simp only [Bool.false_eq_true,if_false];rw [hv,hv,ih]
  ·simp only [if_true]
   rw [hv,hv,ih]
   split
   ·rw [mark_early seen by_ number c hb hs seen' by' hne hlt];rfl
   ·rfl
theorem others_early (l:List Ch) (d:Dd) (number:Int) (h:(doF l d number).2=0) (seen by_:Int) (hne:by_≠d.By) (hlt:seen < number):viewN seen by_ (doF l d number).1=viewN seen by_ l:=by
 rcases doF_cases l d number with ⟨h1,e⟩ | ⟨_,_,e⟩ | ⟨h1,hn,hk,e⟩ | ⟨h1,hn,hk,e⟩
 ·rw [e] at h;exact absurd h h1
 ·rw [e] at h;cases h
 ·rw [e]
  simp only
  rw [viewN_append,viewN_append,newOf_early d number seen by_ hlt hne,List.append_nil,← viewN_append,List.take_append_drop]
 ·rw [e]
  exact takeGo_early _ _ _ _ _ (deedFault_zero (mayDo_zero h1).1).1 _ _ _ hne hlt 0
end Go.Proofs.YtneoeokfffnonaaGreatDoor
namespace Go.Proofs.YtneoeokfffnonaaGreatDoor
open Go.RowKit
def out1 (n:Int) (o:Int):Int:=if n≠1073741824∧(o=0∨n < o) then n else o
theorem mark_Out (b n:Int) (c:Ch):(mark b n c).Out=out1 n c.Out:=rfl
end Go.Proofs.YtneoeokfffnonaaGreatDoor
namespace Go.Proofs.YtneoeokfffnonaaGreatDoor
open Go.RowKit
def cntBy (w:Int) (ds:List Dd):Int:=((ds.filter fun d=>d.By==w).length:Nat)
def numbered (ds:List Dd):Prop:=∀ i (h:i < ds.length),isWriter ds[i].By=true∧ds[i].No=cntBy ds[i].By (ds.take i)+1∧ds[i].Seen≤i
def sumText (ds:List Dd):Nat:=(ds.map fun d=>d.Text.size).sum
def key (c:Ch):Int × Int × Int:=(c.By,c.No,c.K)
theorem same_key (a b:Ch):a.same b=decide (key a=key b):=by
 unfold Ch.same key
 rw [Bool.eq_iff_iff];simp [and_assoc]
theorem takeGo_key (seen by_ lo hi number:Int) (l:List Ch):∀ k,(takeGo seen by_ lo hi number l k).map key=l.map key:=by
 induction l with
 | nil=>intro k;rfl
 | cons c l ih=>
  intro k;unfold takeGo;split
  ·rw [List.map_cons,List.map_cons,ih];split <;> rfl
  ·rw [List.map_cons,List.map_cons,ih]
theorem takeGo_mem (seen by_ lo hi number:Int) (l:List Ch):∀ k,∀ x∈takeGo seen by_ lo hi number l k,∃ c∈l,x=c∨(c.sees seen by_=true∧x=mark by_ number c):=by
 induction l with
 | nil=>intro k x hx;simp [takeGo] at hx
 | cons c l ih=>
  intro k x hx
  unfold takeGo at hx
  split at hx
  ·rename_i hs
   rw [List.mem_cons] at hx
   rcases hx with h | h
   ·refine ⟨c,by simp,?_⟩
    rw [h];split
    ·exact .inr ⟨hs,rfl⟩
    ·exact .inl rfl
   ·obtain ⟨y,hy,h⟩:=ih _ x h
    exact ⟨y,by simp [hy],h⟩
  ·rw [List.mem_cons] at hx
   rcases hx with h | h
   ·exact ⟨c,by simp,.inl h⟩
   ·obtain ⟨y,hy,h⟩:=ih _ x h
    exact ⟨y,by simp [hy],h⟩
theorem pairwise_key (l:List Ch):l.Pairwise (fun a b=>a.same b=false)↔(l.map key).Pairwise (·≠·):=by
 rw [List.pairwise_map]
 constructor <;> intro h <;> refine h.imp ?_ <;> intro a b <;> rw [same_key] <;> simp
theorem findFrom_none (c:Ch) (l:List Ch):∀ i,(∀ x∈l,x.same c=false)→findFrom c l i=-1:=by
 induction l with
 | nil=>intro i _;rfl
 | cons y l ih=>
  intro i h
  unfold findFrom
  rw [h y (by simp),if_neg (by simp)]
  exact ih _ fun x hx=>h x (by simp [hx])
theorem chk_zero (log:Int) (l:List Ch):∀ pre,(∀ c∈l,bad1 c=false∧bad2 log c=false∧bad3 c=false)→(pre++l).Pairwise (fun a b=>a.same b=false)→chk log pre l=0:=by
 induction l with
 | nil=>intro pre _ _;rfl
 | cons c l ih=>
  intro pre h hp
  unfold chk
  obtain ⟨h1,h2,h3⟩:=h c (by simp)
  have hf:find pre c=-1:=findFrom_none c pre 0 fun x hx=>(List.pairwise_append.1 hp).2.2 x hx c (by simp)
  rw [h1,h2,h3,hf]
  simp only [Bool.false_eq_true,if_false]
  rw [if_neg (by omega)]
  exact ih _ (fun x hx=>h x (by simp [hx])) (by simpa using hp)
structure Good (k:Nat) (ds:List Dd) (c:Ch):Prop where
 b1:bad1 c=false
 in1:1≤c.In
 in2:c.In≤k
 out0:0≤c.Out
 out1:c.Out≤k
 out2:0 < c.Out→c.In < c.Out∧0 < c.Gone
 no:c.No≤cntBy c.By (ds.take k)
theorem cntBy_snoc (w:Int) (ds:List Dd) (k:Nat) (h:k < ds.length):cntBy w (ds.take (k+1))=cntBy w (ds.take k)+if ds[k].By=w then 1 else 0:=by
 unfold cntBy
 rw [List.take_succ_eq_append_getElem h,List.filter_append]
 by_cases e:ds[k].By=w <;> simp [e]
theorem cntBy_nonneg (w:Int) (ds:List Dd):0≤cntBy w ds:=by unfold cntBy;omega
theorem bad1_false {c:Ch} (h:bad1 c=false):isWriter c.By=true∧1≤c.No∧0≤c.K∧c.K < 20∧0≤c.Gone∧c.Gone < 16:=by
 rcases bad1_cases c with h1 | h1 | h1 | h1 | h1 | h1 | h1 <;> first | exact ⟨h1.2.1,h1.2.2.1,h1.2.2.2.1,h1.2.2.2.2.1,h1.2.2.2.2.2⟩ | (rw [h1.1] at h;cases h)
theorem bad1_intro {c:Ch} (h1:isWriter c.By=true) (h2:1≤c.No) (h3:0≤c.K) (h4:c.K < 20) (h5:0≤c.Gone) (h6:c.Gone < 16):bad1 c=false:=by
 unfold bad1;rw [h1];simp;omega
theorem gone_add (g b:Int) (hb:isWriter b=true) (h:took g b=false) (h0:0≤g) (h1:g < 16):0 < g+bitOf b∧g+bitOf b < 16:=by
 rcases isWriter_cases hb with rfl | rfl | rfl | rfl
 ·rw [took_0] at h;simp [bitOf] at *;omega
 ·rw [took_1] at h;simp [bitOf] at *;omega
 ·rw [took_2] at h;simp [bitOf] at *;omega
 ·rw [took_3] at h;simp [bitOf] at *;omega
structure Made (k:Nat) (ds:List Dd) (l:List Ch):Prop where
 good:∀ c∈l,Good k ds c
 apart:l.Pairwise (fun a b=>a.same b=false)
 len:l.length=sumText (ds.take k)
 max:l.length≤200
theorem textOk_size {s:ByteArray} (h:textOk s=true):0 < s.size∧s.size≤20:=by
 unfold textOk at h;simp only [Bool.and_eq_true,decide_eq_true_eq] at h;exact h.1
theorem newOf_apart (d:Dd) (n:Int):(newOf d n).Pairwise (fun a b=>a.same b=false):=by
 rw [List.pairwise_iff_getElem]
 intro i j hi hj hij
 have hK:∀ i (h:i < (newOf d n).length),((newOf d n)[i]).K=i:=by intro i h;simp [newOf]
 have h1:=hK i hi
 have h2:=hK j hj
 rw [same_key]
 simp only [key,decide_eq_false_iff_not,Prod.mk.injEq]
 omega
theorem made_step (k:Nat) (ds:List Dd) (hk:k < ds.length) (hds:ds.length≤150) (hn:numbered ds) (l:List Ch) (h:Made k ds l) (h0:(doF l ds[k] (k+1)).2=0):Made (k+1) ds (doF l ds[k] (k+1)).1:=by
 obtain ⟨hw,hno,hseen⟩:=hn k hk
 have hcs:=fun w=>cntBy_snoc w ds k hk
 have hst:sumText (ds.take (k+1))=sumText (ds.take k)+ds[k].Text.size:=by
  unfold sumText;rw [List.take_succ_eq_append_getElem hk,List.map_append,List.sum_append];simp
 have hc0:=cntBy_nonneg ds[k].By (ds.take k)
 generalize hd:ds[k]=d at *
 have up:∀ c,Good k ds c→Good (k+1) ds c:=fun c g=>⟨g.b1,g.in1,by have:=g.in2;omega,g.out0,by have:=g.out1;omega,g.out2,by have:=g.no;rw [hcs];split <;> omega⟩
 rcases doF_cases l d (k+1) with ⟨h1,e⟩ | ⟨_,hn,e⟩ | ⟨h1,hn,hk2,e⟩ | ⟨h1,hn,hk2,e⟩
 ·rw [e] at h0;exact absurd h0 h1
 ·omega
 ·rw [e]
  obtain ⟨f1,f2,f3⟩:=mayDo_zero h1
  have hq:=(deedFault_zero f1).2.2.2.2.2.2.2
  have ht:textOk d.Text=true:=by
   rcases hq with ⟨_,_,h⟩ | ⟨h,_⟩
   ·exact h
   ·omega
  have hts:=textOk_size ht
  refine ⟨fun c hc=>?_,?_,?_,?_⟩
  ·simp only [List.mem_append] at hc
   rcases hc with (hc | hc) | hc
   ·exact up _ (h.good c (List.mem_of_mem_take hc))
   ·obtain ⟨a1,a2,a3,a4,a5,a6,a7⟩:=newOf_mem hc
    refine ⟨bad1_intro (by rw [a1];exact hw) (by omega) a6 (by omega) (by omega) (by omega),by omega,by omega,by omega,by omega,by omega,?_⟩
    rw [hcs,a1,if_pos rfl];omega
   ·exact up _ (h.good c (List.mem_of_mem_drop hc))
  ·have hap:=h.apart
   rw [← List.take_append_drop (putAt l d) l] at hap
   have hold:∀ x∈l,∀ y∈newOf d (k+1),x.same y=false∧y.same x=false:=by
    intro x hx y hy
    obtain ⟨a1,a2,_⟩:=newOf_mem hy
    have g:=(h.good x hx).no
    have hne:key x≠key y∧key y≠key x:=by
     unfold key
     constructor
     ·intro e;simp only [Prod.mk.injEq] at e
      rw [e.1,a1] at g;omega
     ·intro e;simp only [Prod.mk.injEq] at e
      rw [← e.1,a1] at g;omega
    rw [same_key,same_key];simp only [decide_eq_false_iff_not];exact hne
   simp only
   rw [List.append_assoc,List.pairwise_append] at *
   obtain ⟨p1,p2,p3⟩:=hap
   refine ⟨p1,List.pairwise_append.2 ⟨newOf_apart d _,p2,fun x hx y hy=>(hold y (List.mem_of_mem_drop hy) x hx).2⟩,fun x hx y hy=>?_⟩
   rw [List.mem_append] at hy
   rcases hy with hy | hy
   ·exact (hold x (List.mem_of_mem_take hx) y hy).1
   ·exact p3 x hx y hy
  ·have:=putAt_le l d
   have hl:=h.len
   simp only [List.length_append,newOf_length,List.length_take,List.length_drop]
   omega
  ·have:=putAt_le l d
   simp only [List.length_append,newOf_length,List.length_take,List.length_drop]
   omega
 ·rw [e]
  obtain ⟨f1,f2,f3⟩:=mayDo_zero h1
  have hq:=(deedFault_zero f1).2.2.2.2.2.2.2
  have ht:d.Text.size=0:=by
   rcases hq with ⟨h,_⟩ | ⟨_,_,_,h⟩
   ·omega
   ·exact h
  refine ⟨fun x hx=>?_,?_,?_,?_⟩
  ·obtain ⟨c,hc,rfl | ⟨hs,rfl⟩⟩:=takeGo_mem _ _ _ _ _ _ _ x hx
   ·exact up _ (h.good _ hc)
   ·have g:=h.good c hc
    obtain ⟨b1,b2,b3,b4,b5,b6⟩:=bad1_false g.b1
    have ga:=gone_add c.Gone d.By hw (sees_took hs) b5 b6
    have hno:(mark d.By (k+1) c).Out=c.Out∧0 < c.Out∨(mark d.By (k+1) c).Out=k+1:=by
     rw [mark_Out];unfold out1
     have:=g.out0
     split
     ·exact .inr rfl
     ·exact .inl ⟨rfl,by omega⟩
    have hg2:=g.out2
    have hg3:=g.in2
    refine ⟨bad1_intro b1 b2 b3 b4 (by show 0≤c.Gone+bitOf d.By;omega) ga.2,g.in1,?_,?_,?_,?_,(up _ g).no⟩
    ·show c.In≤_;omega
    ·have:=g.out0;omega
    ·have:=g.out1;omega
    ·intro _
     refine ⟨?_,ga.1⟩
     show c.In < _
     rcases hno with ⟨h1,h2⟩ | h1
     ·rw [h1];exact (hg2 h2).1
     ·rw [h1];omega
  ·rw [pairwise_key];simp only;rw [takeGo_key,← pairwise_key];exact h.apart
  ·simp only;rw [takeGo_length,h.len,hst];omega
  ·simp only;rw [takeGo_length];exact h.max
theorem lists (ds:List Dd) (hds:ds.length≤150) (hn:numbered ds):∀ k,k≤ds.length→(allF (ds.take k)).2.1=0→Made k ds (allF (ds.take k)).1:=by
 intro k
 induction k with
 | zero=>intro _ _;exact ⟨fun c hc=>by simp [allF,allFrom] at hc,by simp [allF,allFrom],by simp [allF,allFrom,sumText],by simp [allF,allFrom]⟩
 | succ k ih=>
  intro hk h
  have hk' : k < ds.length:=by omega
  unfold allF at h ih ⊢
  rw [List.take_succ_eq_append_getElem hk',allFrom_append] at h ⊢
  by_cases h0:(allFrom [] 0 (ds.take k)).2.1=0
  ·rw [if_pos h0] at h ⊢
   have hl:((ds.take k).length:Int)=k:=by simp;omega
   rw [hl,Int.zero_add,allFrom_cons] at h ⊢
   by_cases h1:(doF (allFrom [] 0 (ds.take k)).1 ds[k] (k+1)).2=0
   ·rw [if_pos h1] at h ⊢
    exact made_step k ds hk' hds hn _ (ih (by omega) h0) h1
   ·rw [if_neg h1] at h;exact absurd h h1
  ·rw [if_neg h0] at h;exact absurd h h0
theorem lists_check (ds:List Dd) (hds:ds.length≤150) (hn:numbered ds) (h:(allF ds).2.1=0):listFault (allF ds).1 ds.length=0∧(allF ds).1.length=sumText ds:=by
 have m:=lists ds hds hn ds.length (Nat.le_refl _) (by rw [List.take_length];exact h)
 rw [List.take_length] at m
 refine ⟨?_,by rw [m.len,List.take_length]⟩
 unfold listFault
 rw [if_neg (by have:=m.max;omega)]
 refine chk_zero _ _ [] (fun c hc=>?_) (by simpa using m.apart)
 have g:=m.good c hc
 refine ⟨g.b1,?_,?_⟩
 ·unfold bad2
  have:=g.in1;have:=g.in2;have:=g.out0;have:=g.out1
  have e1:(decide (c.In < 1)||decide ((ds.length:Int) < c.In))=false:=by simp;omega
  rw [e1];simp;omega
 ·unfold bad3
  by_cases ho:0 < c.Out
  ·have:=g.out2 ho
   simp;omega
  ·simp [ho]
end Go.Proofs.YtneoeokfffnonaaGreatDoor
namespace Go.Proofs.YtneoeokfffnonaaGreatDoor
open Go.RowKit
structure Base (n:Nat) (bs:List Int) (l:List Ch):Prop where
 c:l.map Ch.C=bs
 fact:∀ c∈l,c.By=0∧c.Out=0∧c.Gone=0∧c.In≤n
theorem Base.len {n:Nat} {bs:List Int} {l:List Ch} (h:Base n bs l):l.length=bs.length:=by rw [← h.c,List.length_map]
theorem Base.sees {n:Nat} {bs:List Int} {l:List Ch} (h:Base n bs l) (seen by_:Int) (hs:n≤seen):∀ c∈l,c.sees seen by_=true:=by
 intro c hc
 obtain ⟨a1,a2,a3,a4⟩:=h.fact c hc
 rw [fresh_sees a2 a3];unfold Ch.knowsIn;simp;omega
end Go.Proofs.YtneoeokfffnonaaGreatDoor
namespace Go.Proofs.YtneoeokfffnonaaGreatDoor
open Go.RowKit
theorem bits_or_add (g p:Int) (h:bits .and .i64 g p=0) (hr : -9223372036854775808≤g+p∧g+p < 9223372036854775808):bits .or .i64 g p=g+p:=by
 have h1:IntKind.i64.wrap ((BitVec.ofInt 64 g&&& BitVec.ofInt 64 p).toNat:Int)=0:=h
 have hz:(BitVec.ofInt 64 g&&& BitVec.ofInt 64 p)=0#64:=by
  have hl:=(BitVec.ofInt 64 g&&& BitVec.ofInt 64 p).isLt
  generalize (BitVec.ofInt 64 g&&& BitVec.ofInt 64 p)=x at *
  rw [IntKind.wrap_i64] at h1
  apply BitVec.eq_of_toNat_eq
  show x.toNat=0
  omega
 have ho:=BitVec.add_eq_or_of_and_eq_zero _ _ hz
 show IntKind.i64.wrap ((BitVec.ofInt 64 g||| BitVec.ofInt 64 p).toNat:Int)=_
 rw [← ho,← BitVec.ofInt_add,BitVec.toNat_ofInt]
 generalize g+p=q at *
 have e:((q % ((2 ^ 64:Nat):Int)).toNat:Int)=q % 18446744073709551616:=by
  have:((2 ^ 64:Nat):Int)=18446744073709551616:=by decide
  rw [this,Int.toNat_of_nonneg (Int.emod_nonneg _ (by decide))]
 rw [e,IntKind.wrap_i64]
 omega
theorem gone_or (g b:Int) (hb:isWriter b=true) (h:took g b=false) (hg:i64ok g):bits .or .i64 g (bitOf b)=g+bitOf b:=by
 have h0:bits .and .i64 g (bitOf b)=0:=by
  unfold took at h;simpa using h
 refine bits_or_add g _ h0 ?_
 unfold i64ok at hg
 rcases isWriter_cases hb with rfl | rfl | rfl | rfl
 ·rw [took_0] at h;simp [bitOf] at *;omega
 ·rw [took_1] at h;simp [bitOf] at *;omega
 ·rw [took_2] at h;simp [bitOf] at *;omega
 ·rw [took_3] at h;simp [bitOf] at *;omega
def cntTo (l:List Ch) (d:Dd) (i:Nat):Nat:=(vis d.Seen d.By (l.take i)).length
def isTaken (l:List Ch) (d:Dd) (i:Nat):Bool:=match l[i]? with
 | none=>false
 | some c=>c.sees d.Seen d.By&&(decide (d.At≤cntTo l d i)&&decide ((cntTo l d i:Int) < d.At+d.Many))
def takenTo (l:List Ch) (d:Dd) (k:Nat):List Nat:=(List.range k).filter (isTaken l d)
theorem takenTo_snoc (l:List Ch) (d:Dd) (k:Nat):takenTo l d (k+1)=takenTo l d k++if isTaken l d k then [k] else []:=by
 unfold takenTo
 rw [List.range_succ,List.filter_append]
 cases h:isTaken l d k <;> simp [h]
theorem cntTo_snoc (l:List Ch) (d:Dd) (k:Nat) (h:k < l.length):cntTo l d (k+1)=cntTo l d k+if l[k].sees d.Seen d.By then 1 else 0:=by
 unfold cntTo
 rw [vis_snoc _ _ _ _ h];split <;> simp
theorem isTaken_at (l:List Ch) (d:Dd) (k:Nat) (h:k < l.length):isTaken l d k=(l[k].sees d.Seen d.By&&(decide (d.At≤cntTo l d k)&&decide ((cntTo l d k:Int) < d.At+d.Many))):=by
 unfold isTaken;rw [List.getElem?_eq_getElem h]
theorem cntTo_le (l:List Ch) (d:Dd) (k:Nat):cntTo l d k≤k:=Nat.le_trans (vis_le ..) (by simp;omega)
theorem takenTo_le (l:List Ch) (d:Dd) (k:Nat):(takenTo l d k).length≤k:=by
 have:=List.length_filter_le (isTaken l d) (List.range k);simpa [takenTo] using this
def idxV (l:List Nat):List Value:=l.map fun (i:Nat)=>.int .i64 (i:Int)
def marked (l:List Ch) (d:Dd) (number:Int) (T:List Nat) (j:Nat):List Ch:=l.mapIdx fun i c=>if (T.take j).contains i then mark d.By number c else c
theorem marked_length (l:List Ch) (d:Dd) (n:Int) (T:List Nat) (j:Nat):(marked l d n T j).length=l.length:=by simp [marked]
theorem marked_zero (l:List Ch) (d:Dd) (n:Int) (T:List Nat):marked l d n T 0=l:=by
 unfold marked;apply List.ext_getElem (by simp);intro i h1 h2;simp
theorem marked_get (l:List Ch) (d:Dd) (n:Int) (T:List Nat) (j i:Nat) (h:i < l.length):(marked l d n T j)[i]? = some (if (T.take j).contains i then mark d.By n l[i] else l[i]):=by
 unfold marked;rw [List.getElem?_mapIdx,List.getElem?_eq_getElem h];rfl
theorem take_not_mem {T:List Nat} (hT:T.Nodup) (j:Nat) (h:j < T.length):(T.take j).contains T[j]=false:=by
 rw [List.contains_eq_mem,decide_eq_false_iff_not]
 intro hm
 obtain ⟨i,hi,he⟩:=List.getElem_of_mem hm
 rw [List.length_take] at hi
 rw [List.getElem_take] at he
 exact (List.pairwise_iff_getElem.1 hT) i j (by omega) h (by omega) he
theorem marked_step (l:List Ch) (d:Dd) (n:Int) (T:List Nat) (hT:T.Nodup) (j:Nat) (h:j < T.length) (hl:T[j] < l.length) :
 marked l d n T (j+1)=(marked l d n T j).set T[j] (mark d.By n l[T[j]])∧(marked l d n T j)[T[j]]? = some l[T[j]]:=by
 have hn:=take_not_mem hT j h
 constructor
 ·apply List.ext_getElem?
  intro i
  rw [List.getElem?_set]
  by_cases hi:i < l.length
  ·rw [marked_get _ _ _ _ _ _ hi,marked_get _ _ _ _ _ _ hi,List.take_succ_eq_append_getElem h]
   by_cases he:T[j]=i
   ·subst he
    have e1:(T.take j++[T[j]]).contains T[j]=true:=by rw [List.contains_eq_mem,decide_eq_true_eq,List.mem_append];exact .inr (List.mem_singleton.2 rfl)
    rw [e1,marked_length]
    simp [hi]
   ·rw [if_neg he]
    have:(T.take j++[T[j]]).contains i=(T.take j).contains i:=by
     rw [List.contains_append];simp;intro h;exact absurd h.symm he
    rw [this]
  ·rw [List.getElem?_eq_none (by rw [marked_length];omega)]
   rw [List.getElem?_eq_none (by rw [marked_length];omega)]
   split
   ·split
    ·rename_i h1 h2;rw [marked_length] at h2;omega
    ·rfl
   ·rfl
 ·rw [marked_get _ _ _ _ _ _ hl,hn];rfl
theorem takenTo_nodup (l:List Ch) (d:Dd) (k:Nat):(takenTo l d k).Nodup:=List.Pairwise.filter _ List.nodup_range
theorem marked_all (l:List Ch) (d:Dd) (n:Int):marked l d n (takenTo l d l.length) (takenTo l d l.length).length=takeGo d.Seen d.By d.At (d.At+d.Many) n l 0:=by
 apply List.ext_getElem?
 intro i
 rw [takeGo_get]
 by_cases hi:i < l.length
 ·rw [marked_get _ _ _ _ _ _ hi,List.getElem?_eq_getElem hi,List.take_length]
  simp only [Option.map_some,Option.some.injEq]
  have e:(takenTo l d l.length).contains i=isTaken l d i:=by
   unfold takenTo
   rw [List.contains_eq_mem,Bool.eq_iff_iff,decide_eq_true_eq,List.mem_filter,List.mem_range]
   exact ⟨fun h=>h.2,fun h=>⟨hi,h⟩⟩
  rw [e,isTaken_at l d i hi]
  unfold cntTo
  simp only [Bool.and_eq_true,decide_eq_true_eq,Int.zero_add]
 ·rw [List.getElem?_eq_none (by rw [marked_length];omega),List.getElem?_eq_none (show l.length≤i by omega)];rfl
theorem takenTo_mem {l:List Ch} {d:Dd} {k j:Nat} (h:j < (takenTo l d k).length):(takenTo l d k)[j] < k∧isTaken l d (takenTo l d k)[j]=true:=by
 have:=List.getElem_mem h
 unfold takenTo at this ⊢
 rw [List.mem_filter,List.mem_range] at this
 exact this
section
variable {P:Program} {w:World} {base:Nat} {e:TypeId} {size:Nat} {a:Option Addr} {n cap:Nat} {xs:List Value}
theorem wpList_store_own1 {ops:Array Oper} {rest:List Oper} {o:Oper} {ac:Act} {Q:Exit→Act→World→Prop} (hgd:o.guard=none) (ty:TypeId) (x y:Operand) (ho:o.op=.store ty x y)
 (h:OwnRow w base e size a n cap xs) {g off:Nat} (ha:a=some ⟨g,off,none⟩) (c:Nat) (v:Value) (od:Nat) (hx:ac.eval x=.pointer (some ⟨g,od,none⟩)) (hod:od=off+c) (hy:ac.eval y=v) (hcells:v.cells=#[v])
 (hi:(P.info? ty).map (·.size)=some 1) (hc:c < xs.length) (h1:v.oneCell'=true)
 (hk:∀ w',OwnRow w' base e size a n cap (xs.set c v)→w.grownBy w' (some g)→wpList P ops Q rest (ac.put o.dst undef) w'):wpList P ops Q (o :: rest) ac w:=
 wpList_plain hgd fun _ hK=>by
  subst hod
  obtain ⟨w',hr,h2,h3⟩:=own_store (P:=P) h ha c [v] (by simp;omega) (one1 h1) (by omega)
  have hs:(storeVar ty ⟨g,off+c,none⟩ v).run P w=.ok () w':=by
   cases hq:P.info? ty with
   | none=>simp [hq] at hi
   | some i=>
    have hs:i.size=1:=by simpa [hq] using hi
    simp [storeVar,sizeOf,typeInfo,hq,hcells,hs,hr]
  have e2:xs.take c++[v]++xs.drop (c+[v].length)=xs.set c v:=by
   rw [List.set_eq_take_append_cons_drop,if_pos hc];simp
  rw [e2] at h2
  unfold Oper.wp execOp
  simp only [ho,hx,hy,Instr.storeAt,Instr.sureAddr,Sem.run_bind,Sem.run_pure,Result.andThen_ok,hs]
  exact hK _ _ (hk w' h2 h3)
end
theorem flat_set_cell (l:List Ch) (i j:Nat) (h:i < l.length) (hj:j < 7) (v:Value) (x:Ch) (hx:x.cells=l[i].cells.set j v):(flat l).set (i * 7+j) v=flat (l.set i x):=by
 rw [flat_set l i x h,hx]
 have hl:=flat_length l
 have e1:(flat l).take (i * 7)++l[i].cells++(flat l).drop (i * 7+7)=flat l:=by
  have:=flat_set l i l[i] h
  rw [List.set_getElem_self] at this
  simpa using this.symm
 conv=>lhs;rw [← e1]
 have e2:((flat l).take (i * 7)).length=i * 7:=by rw [List.length_take];omega
 rw [List.append_assoc,List.set_append_right _ _ (by omega),e2,show i * 7+j - i * 7=j by omega,List.set_append_left _ _ (by simp;omega)]
 simp
end Go.Proofs.YtneoeokfffnonaaGreatDoor
namespace Go.Proofs.YtneoeokfffnonaaGreatDoor
open Go.RowKit
theorem ba_ext {a b:ByteArray} (h:a.data.toList=b.data.toList):a=b:=by
 cases a;cases b;congr 1;exact Array.toList_inj.1 h
theorem strOfNums_list (xs:List Int):(strOfNums xs).data.toList=xs.map (fun n=>UInt8.ofNat n.toNat):=by
 unfold strOfNums;simp
end Go.Proofs.YtneoeokfffnonaaGreatDoor
namespace Go.Proofs.YtneoeokfffnonaaGreatDoor
open Go.RowKit
def insGo (P Q:Ch→Bool) (T:List Ch):List Ch→Nat→List Ch
 | [],_=>T
 | c :: l,0=>if Q c then c :: insGo P Q T l 0 else T++c :: l
 | c :: l,k+1=>c :: insGo P Q T l (if P c then k else k+1)
theorem insGo_zero (P Q:Ch→Bool) (T l:List Ch):insGo P Q T l 0=l.take (l.takeWhile Q).length++T++l.drop (l.takeWhile Q).length:=by
 induction l with
 | nil=>simp [insGo]
 | cons c l ih=>
  unfold insGo
  by_cases h:Q c=true
  ·rw [if_pos h,ih,List.takeWhile_cons,if_pos h];simp
  ·rw [if_neg h,List.takeWhile_cons,if_neg h];simp
theorem insGo_behind (seen by_:Int) (Q:Ch→Bool) (T l:List Ch):∀ (k:Nat) (i:Int),1≤k→k≤(vis seen by_ l).length→
 ∃ b:Nat,b≤l.length∧behindFrom seen by_ l k i=i+b∧insGo (fun c=>c.sees seen by_) Q T l k=l.take b++insGo (fun c=>c.sees seen by_) Q T (l.drop b) 0:=by
 induction l with
 | nil=>intro k i h1 h2;simp [vis] at h2;omega
 | cons c l ih=>
  intro k i h1 h2
  rw [vis_cons] at h2
  obtain ⟨m,rfl⟩:∃ m,k=m+1:=⟨k - 1,by omega⟩
  rw [behindFrom,insGo]
  cases hs:c.sees seen by_
  ·simp only [hs,Bool.false_eq_true,if_false,List.nil_append] at h2 ⊢
   obtain ⟨b,hb,e1,e2⟩:=ih (m+1) (i+1) h1 h2
   exact ⟨b+1,by simp;omega,by rw [e1];omega,by rw [e2];simp⟩
  ·simp only [hs,if_true,List.cons_append,List.nil_append,List.length_cons] at h2 ⊢
   by_cases hm:m=0
   ·subst hm
    exact ⟨1,by simp,by rw [if_pos (by simp)];omega,by simp⟩
   ·rw [if_neg (by omega),show ((m+1:Nat):Int) - 1=(m:Nat) by omega]
    obtain ⟨b,hb,e1,e2⟩:=ih m (i+1) (by omega) (by omega)
    exact ⟨b+1,by simp;omega,by rw [e1];omega,by rw [e2];simp⟩
def ap (l:List Ch) (d:Dd) (number:Int):List Ch:=
 if d.Kind=1 then insGo (fun c=>c.sees d.Seen d.By) (openOther d.By) (newOf d number) l d.At.toNat
 else takeGo d.Seen d.By d.At (d.At+d.Many) number l 0
theorem insGo_put (l:List Ch) (d:Dd) (T:List Ch) (h0:0≤d.At) (h:d.At≤((vis d.Seen d.By l).length:Int)) :
 insGo (fun c=>c.sees d.Seen d.By) (openOther d.By) T l d.At.toNat=l.take (putAt l d)++T++l.drop (putAt l d):=by
 unfold putAt
 by_cases hz:d.At=0
 ·have hb:behind d.Seen d.By l d.At=0:=by unfold behind;rw [if_pos hz]
  rw [hb,hz]
  show insGo _ _ T l 0=_
  rw [insGo_zero]
  unfold skip;simp
 ·obtain ⟨m,hm⟩:=Int.eq_ofNat_of_zero_le h0
  obtain ⟨b,hb,e1,e2⟩:=insGo_behind d.Seen d.By (openOther d.By) T l m 0 (by omega) (by omega)
  have hbe:behind d.Seen d.By l d.At=(b:Int):=by unfold behind;rw [if_neg hz,hm,e1];omega
  rw [hbe,hm,Int.toNat_natCast,Int.toNat_natCast,e2,insGo_zero]
  unfold skip
  rw [List.take_add,List.drop_drop]
  simp only [List.append_assoc]
theorem doF_ap {l:List Ch} {d:Dd} {number:Int} (h:mayDo l d=0) (hn:1≤number):doF l d number=(ap l d number,0):=by
 obtain ⟨h2,h3,_⟩:=mayDo_zero h
 obtain ⟨hw,_,_,_,hs,hat,_,hq⟩:=deedFault_zero h2
 unfold ap
 rcases doF_cases l d number with ⟨h1,e⟩ | ⟨_,hn,e⟩ | ⟨h1,hn,hk,e⟩ | ⟨h1,hn,hk,e⟩
 ·exact absurd h h1
 ·omega
 ·have hm:d.Many=0:=by rcases hq with ⟨_,hm,_⟩ | ⟨h2,_⟩ <;> omega
  rw [e,if_pos hk,insGo_put l d _ hat (by omega)]
 ·rw [e,if_neg (by omega)]
theorem doF_zero {l:List Ch} {d:Dd} {number:Int} (h:(doF l d number).2=0):mayDo l d=0∧1≤number:=by
 rcases doF_cases l d number with ⟨h1,e⟩ | ⟨_,hn,e⟩ | ⟨h1,hn,hk,e⟩ | ⟨h1,hn,hk,e⟩
 ·rw [e] at h;exact absurd h h1
 ·rw [e] at h;cases h
 ·exact ⟨h1,hn⟩
 ·exact ⟨h1,hn⟩
theorem ap_length {l:List Ch} {d:Dd} {number:Int} (h:mayDo l d=0):(ap l d number).length=l.length+d.Text.size:=by
 obtain ⟨h2,h3,_⟩:=mayDo_zero h
 obtain ⟨hw,_,_,_,hs,hat,_,hq⟩:=deedFault_zero h2
 unfold ap
 rcases hq with ⟨hk,hm,_⟩ | ⟨hk,_,_,ht⟩
 ·rw [if_pos hk,insGo_put l d _ hat (by omega)]
  have:=putAt_le l d
  simp only [List.length_append,List.length_take,List.length_drop,newOf_length];omega
 ·rw [if_neg (by omega),takeGo_length,ht];rfl
section
variable {P Q P' Q' : Ch→Bool} {T T' : List Ch}
theorem insGo_append_skip (hP:∀ c∈T',P c=false) (l:List Ch) (k:Nat):insGo P Q T (T'++l) (k+1)=T'++insGo P Q T l (k+1):=by
 induction T' with
 | nil=>rfl
 | cons c T' ih=>
  rw [List.cons_append,insGo,hP c (by simp)]
  simp only [Bool.false_eq_true,if_false,List.cons_append]
  rw [ih fun x hx=>hP x (by simp [hx])]
theorem insGo_append_q (hQ:∀ c∈T',Q c=true) (l:List Ch):insGo P Q T (T'++l) 0=T'++insGo P Q T l 0:=by
 induction T' with
 | nil=>rfl
 | cons c T' ih=>
  rw [List.cons_append,insGo,hQ c (by simp)]
  simp only [if_true,List.cons_append]
  rw [ih fun x hx=>hQ x (by simp [hx])]
theorem insGo_noq {l:List Ch} (hQ:∀ c∈l,Q c=false):insGo P Q T l 0=T++l:=by
 cases l with
 | nil=>simp [insGo]
 | cons c l=>rw [insGo,hQ c (by simp)];simp
theorem insGo_comm (h1:∀ c∈T',P c=false) (h2:∀ c∈T',Q c=true) (h3:∀ c∈T,P' c=false) (h4:∀ c∈T,Q' c=false) :
 ∀ (l:List Ch),(∀ c∈l,Q' c=false)→∀ (k j:Nat),(k≤(l.filter P).length)→(j≤(l.filter P').length)→
  insGo P Q T (insGo P' Q' T' l j) k=insGo P' Q' T' (insGo P Q T l k) j:=by
 intro l
 induction l with
 | nil=>
  intro _ k j hk hj
  simp at hk hj
  subst hk;subst hj
  simp only [insGo]
  rw [← List.append_nil T',insGo_append_q h2]
  simp only [insGo,List.append_nil]
  rw [insGo_noq h4]
 | cons c l ih=>
  intro hq k j hk hj
  have hql:∀ x∈l,Q' x=false:=fun x hx=>hq x (by simp [hx])
  have hqc:=hq c (by simp)
  cases j with
  | zero=>
   rw [insGo_noq hq]
   have hall:∀ k,k≤((c :: l).filter P).length→∀ x∈insGo P Q T (c :: l) k,Q' x=false:=by
    intro k _ x hx
    have:∀ (l:List Ch) (k:Nat),∀ x∈insGo P Q T l k,x∈T∨x∈l:=by
     intro l
     induction l with
     | nil=>intro k x hx;exact .inl hx
     | cons c l ih=>
      intro k x hx
      cases k with
      | zero=>
       rw [insGo] at hx
       split at hx
       ·rw [List.mem_cons] at hx
        rcases hx with h | h
        ·exact .inr (by simp [h])
        ·rcases ih _ x h with h | h
         ·exact .inl h
         ·exact .inr (by simp [h])
       ·rw [List.mem_append] at hx
        exact hx
      | succ k=>
       rw [insGo,List.mem_cons] at hx
       rcases hx with h | h
       ·exact .inr (by simp [h])
       ·rcases ih _ x h with h | h
        ·exact .inl h
        ·exact .inr (by simp [h])
    rcases this _ _ x hx with h | h
    ·exact h4 x h
    ·exact hq x h
   rw [insGo_noq (hall k hk)]
   cases k with
   | zero=>rw [insGo_append_q h2]
   | succ k=>rw [insGo_append_skip h1]
  | succ j=>
   cases k with
   | zero=>
    rw [insGo,insGo]
    by_cases hQc:Q c=true
    ·rw [insGo,if_pos hQc,if_pos hQc]
     rw [insGo]
     congr 1
     refine ih hql 0 _ (Nat.zero_le _) ?_
     simp only [List.filter_cons] at hj
     split <;> rename_i hp
     ·rw [if_pos hp] at hj;simp at hj;omega
     ·rw [if_neg hp] at hj;exact hj
    ·rw [insGo,if_neg hQc,if_neg hQc]
     rw [insGo_append_skip h3]
     rw [insGo]
   | succ k=>
    rw [insGo,insGo,insGo,insGo]
    congr 1
    refine ih hql _ _ ?_ ?_
    ·simp only [List.filter_cons] at hk
     split <;> rename_i hp
     ·rw [if_pos hp] at hk;simp at hk;omega
     ·rw [if_neg hp] at hk;exact hk
    ·simp only [List.filter_cons] at hj
     split <;> rename_i hp
     ·rw [if_pos hp] at hj;simp at hj;omega
     ·rw [if_neg hp] at hj;exact hj
end
theorem insGo_mem (P Q:Ch→Bool) (T:List Ch):∀ (l:List Ch) (k:Nat),∀ x∈insGo P Q T l k,x∈T∨x∈l:=by
 intro l
 induction l with
 | nil=>intro k x hx;exact .inl hx
 | cons c l ih=>
  intro k x hx
  cases k with
  | zero=>
   rw [insGo] at hx
   split at hx
   ·rw [List.mem_cons] at hx
    rcases hx with h | h
    ·exact .inr (by simp [h])
    ·rcases ih _ x h with h | h
     ·exact .inl h
     ·exact .inr (by simp [h])
   ·rw [List.mem_append] at hx
    exact hx
  | succ k=>
   rw [insGo,List.mem_cons] at hx
   rcases hx with h | h
   ·exact .inr (by simp [h])
   ·rcases ih _ x h with h | h
    ·exact .inl h
    ·exact .inr (by simp [h])
theorem insGo_takeGo (P Q:Ch→Bool) (T:List Ch) (seen by_ lo hi number:Int) (hT:∀ c∈T,c.sees seen by_=false) :
 ∀ (l:List Ch),(∀ c∈l,c.sees seen by_=true→P (mark by_ number c)=P c∧Q (mark by_ number c)=Q c)→∀ (j:Nat) (k:Int),
  insGo P Q T (takeGo seen by_ lo hi number l k) j=takeGo seen by_ lo hi number (insGo P Q T l j) k:=by
 have skipT:∀ (T l:List Ch),(∀ c∈T,c.sees seen by_=false)→∀ k,takeGo seen by_ lo hi number (T++l) k=T++takeGo seen by_ lo hi number l k:=by
  intro T
  induction T with
  | nil=>intro l _ k;rfl
  | cons c T ih=>
   intro l h k
   rw [List.cons_append,takeGo,h c (by simp)]
   simp only [Bool.false_eq_true,if_false,List.cons_append]
   rw [ih l fun x hx=>h x (by simp [hx])]
 intro l
 induction l with
 | nil=>
  intro _ j k
  simp only [takeGo,insGo]
  have:=skipT T [] hT k
  simp only [List.append_nil,takeGo] at this
  rw [this]
 | cons c l ih=>
  intro h j k
  have hl:∀ x∈l,x.sees seen by_=true→P (mark by_ number x)=P x∧Q (mark by_ number x)=Q x:=fun x hx=>h x (by simp [hx])
  rw [takeGo]
  cases hs:c.sees seen by_
  ·simp only [Bool.false_eq_true,if_false]
   cases j with
   | zero=>
    rw [insGo,insGo]
    by_cases hq:Q c=true
    ·rw [if_pos hq,if_pos hq,takeGo,hs]
     simp only [Bool.false_eq_true,if_false]
     rw [ih hl]
    ·rw [if_neg hq,if_neg hq,skipT T _ hT,takeGo,hs]
     simp
   | succ j=>
    rw [insGo,insGo,takeGo,hs]
    simp only [Bool.false_eq_true,if_false]
    rw [ih hl]
  ·simp only [if_true]
   have hm:=h c (by simp) hs
   have hx:∀ x,x=(if lo≤k∧k < hi then mark by_ number c else c)→P x=P c∧Q x=Q c:=by
    intro x e;rw [e];split
    ·exact hm
    ·exact ⟨rfl,rfl⟩
   cases j with
   | zero=>
    rw [insGo,insGo,(hx _ rfl).2]
    by_cases hq:Q c=true
    ·rw [if_pos hq,if_pos hq,takeGo,hs]
     simp only [if_true]
     rw [ih hl]
    ·rw [if_neg hq,if_neg hq,skipT T _ hT,takeGo,hs]
     simp
   | succ j=>
    rw [insGo,insGo,(hx _ rfl).1,takeGo,hs]
    simp only [if_true]
    rw [ih hl]
theorem takeGo_comm (s b lo hi n s' b' lo' hi' n' : Int) :
 ∀ (l:List Ch),(∀ c∈l,c.sees s b=true→(mark b n c).sees s' b'=c.sees s' b')→(∀ c∈l,c.sees s' b'=true→(mark b' n' c).sees s b=c.sees s b)→
  (∀ c∈l,c.sees s b=true→c.sees s' b'=true→mark b n (mark b' n' c)=mark b' n' (mark b n c))→∀ (k k' : Int),
  takeGo s b lo hi n (takeGo s' b' lo' hi' n' l k') k=takeGo s' b' lo' hi' n' (takeGo s b lo hi n l k) k':=by
 intro l
 induction l with
 | nil=>intros;rfl
 | cons c l ih=>
  intro h1 h2 h3 k k'
  have ih':=ih (fun x hx=>h1 x (by simp [hx])) (fun x hx=>h2 x (by simp [hx])) (fun x hx=>h3 x (by simp [hx]))
  have a1:=h1 c (by simp)
  have a2:=h2 c (by simp)
  have a3:=h3 c (by simp)
  rw [takeGo,takeGo]
  cases hs' : c.sees s' b'
  ·cases hs:c.sees s b
   ·simp only [Bool.false_eq_true,if_false]
    rw [takeGo,takeGo,hs,hs']
    simp only [Bool.false_eq_true,if_false]
    rw [ih']
   ·simp only [Bool.false_eq_true,if_false,if_true]
    rw [takeGo,takeGo,hs]
    have:(if lo≤k∧k < hi then mark b n c else c).sees s' b'=false:=by
     split
     ·rw [a1 hs,hs']
     ·exact hs'
    rw [this]
    simp only [Bool.false_eq_true,if_false,if_true]
    rw [ih']
  ·cases hs:c.sees s b
   ·simp only [Bool.false_eq_true,if_false,if_true]
    rw [takeGo,takeGo,hs']
    have:(if lo'≤k'∧k' < hi' then mark b' n' c else c).sees s b=false:=by
     split
     ·rw [a2 hs',hs]
     ·exact hs
    rw [this]
    simp only [Bool.false_eq_true,if_false,if_true]
    rw [ih']
   ·simp only [if_true]
    rw [takeGo,takeGo]
    have e1:(if lo≤k∧k < hi then mark b n c else c).sees s' b'=true:=by
     split
     ·rw [a1 hs,hs']
     ·exact hs'
    have e2:(if lo'≤k'∧k' < hi' then mark b' n' c else c).sees s b=true:=by
     split
     ·rw [a2 hs',hs]
     ·exact hs
    rw [e1,e2]
    simp only [if_true]
    rw [ih']
    congr 1
    by_cases p1:lo≤k∧k < hi <;> by_cases p2:lo'≤k'∧k' < hi'
    ·rw [if_pos p1,if_pos p1,if_pos p2,if_pos p2,a3 hs hs']
    all_goals simp only [p1,p2,if_false]
theorem openOther_mark (b by_ n:Int) (c:Ch):openOther b (mark by_ n c)=openOther b c:=rfl
theorem mark_open_comm (b b' n:Int) (c:Ch):mark b n (mark b' 1073741824 c)=mark b' 1073741824 (mark b n c):=by
 unfold mark
 simp only [Ch.mk.injEq,true_and,ne_eq,not_true_eq_false,false_and,if_false]
 omega
theorem ap_comm (l:List Ch) (o d:Dd) (n:Int) (ho:deedFault o=0) (hd:deedFault d=0) (hne:o.By≠d.By) (hn:o.Seen < n) (hno:n≠1073741824)
 (hq:∀ c∈l,openOther o.By c=false) (hco:o.At≤((vis o.Seen o.By l).length:Int)) (hcd:d.At≤((vis d.Seen d.By l).length:Int)) :
 ap (ap l o 1073741824) d n=ap (ap l d n) o 1073741824:=by
 obtain ⟨wo,_,_,_,so,ao,_,qo⟩:=deedFault_zero ho
 obtain ⟨wd,_,_,_,sd,ad,_,qd⟩:=deedFault_zero hd
 have tO:∀ c∈newOf o 1073741824,c.sees d.Seen d.By=false∧openOther d.By c=true:=by
  intro c hc
  obtain ⟨h1,_,h3,h4,h5,_⟩:=newOf_mem hc
  constructor
  ·rw [fresh_sees h4 h5];unfold Ch.knowsIn
   have e1:decide (c.In≤d.Seen)=false:=by simp;omega
   have e2:(c.By==d.By)=false:=by simp;rw [h1];exact hne
   rw [e1,e2];rfl
  ·unfold openOther;rw [h3,h1];simpa using hne
 have tD:∀ c∈newOf d n,c.sees o.Seen o.By=false∧openOther o.By c=false:=by
  intro c hc
  obtain ⟨h1,_,h3,h4,h5,_⟩:=newOf_mem hc
  constructor
  ·rw [fresh_sees h4 h5];unfold Ch.knowsIn
   have e1:decide (c.In≤o.Seen)=false:=by simp;omega
   have e2:(c.By==o.By)=false:=by simp;rw [h1];exact fun e=>hne e.symm
   rw [e1,e2];rfl
  ·unfold openOther
   have e1:(c.In==1073741824)=false:=by simp;omega
   rw [e1];rfl
 unfold ap
 rcases qo with ⟨ko,mo,_⟩ | ⟨ko,_⟩ <;> rcases qd with ⟨kd,md,_⟩ | ⟨kd,_⟩
 ·rw [if_pos ko,if_pos kd,if_pos kd,if_pos ko]
  refine insGo_comm (fun c hc=>(tO c hc).1) (fun c hc=>(tO c hc).2) (fun c hc=>(tD c hc).1) (fun c hc=>(tD c hc).2) l hq _ _ ?_ ?_
  ·show _≤(vis d.Seen d.By l).length;omega
  ·show _≤(vis o.Seen o.By l).length;omega
 ·have nd:¬ d.Kind=1:=by omega
  rw [if_pos ko,if_neg nd,if_neg nd,if_pos ko]
  exact (insGo_takeGo _ _ _ _ _ _ _ _ (fun c hc=>(tO c hc).1) l (fun c _ hs=>⟨mark_early d.Seen d.By n c wd hs o.Seen o.By hne hn,rfl⟩) _ _).symm
 ·have no:¬ o.Kind=1:=by omega
  rw [if_neg no,if_pos kd,if_pos kd,if_neg no]
  exact insGo_takeGo _ _ _ _ _ _ _ _ (fun c hc=>(tD c hc).1) l (fun c _ hs=>⟨mark_early o.Seen o.By 1073741824 c wo hs d.Seen d.By (fun e=>hne e.symm) (by omega),rfl⟩) _ _
 ·have no:¬ o.Kind=1:=by omega
  have nd:¬ d.Kind=1:=by omega
  rw [if_neg no,if_neg nd,if_neg nd,if_neg no]
  refine takeGo_comm _ _ _ _ _ _ _ _ _ _ l (fun c _ hs=>mark_early d.Seen d.By n c wd hs o.Seen o.By hne hn) (fun c _ hs=>mark_early o.Seen o.By 1073741824 c wo hs d.Seen d.By (fun e=>hne e.symm) (by omega)) (fun c _ _ _=>mark_open_comm _ _ _ _) _ _
end Go.Proofs.YtneoeokfffnonaaGreatDoor
namespace Go.Proofs.YtneoeokfffnonaaGreatDoor
open Go.RowKit
end Go.Proofs.YtneoeokfffnonaaGreatDoor
namespace Go.Proofs.YtneoeokfffnonaaGreatDoor
open Go.RowKit
structure St where
 (here:Bool) (last seen:Int)
structure LogM where
 (L:List Dd) (S:Nat→St)
def upd (S:Nat→St) (i:Nat) (s:St):Nat→St:=fun j=>if j=i then s else S j
@[simp] theorem upd_same (S:Nat→St) (i:Nat) (s:St):upd S i s i=s:=if_pos rfl
theorem upd_ne (S:Nat→St) (i j:Nat) (s:St) (h:j≠i):upd S i s j=S j:=if_neg h
def LogM.new:LogM:=⟨[],fun _=>⟨false,0,0⟩⟩
def LogM.seat (m:LogM) (w:Int):St:=m.S w.toNat
def LogM.hereF (m:LogM) (w:Int):Bool:=isWriter w&&(m.seat w).here
def LogM.put (m:LogM) (w:Int) (s:St):LogM:={ m with S:=upd m.S w.toNat s }
def LogM.chars (m:LogM):List Ch:=(allF m.L).1
def LogM.joinF (m:LogM) (w:Int):LogM × Int × Int:=
 if isWriter w then (if (m.seat w).here then (m,0,6) else (m.put w ⟨true,(m.seat w).last,m.L.length⟩,(m.seat w).last+1,0)) else (m,0,1)
def LogM.leaveF (m:LogM) (w:Int):LogM × Int:=
 if m.hereF w then (m.put w ⟨false,(m.seat w).last,(m.seat w).seen⟩,0) else (m,5)
def LogM.saysF (m:LogM) (w n:Int):LogM × Int:=
 if m.hereF w then (if n < (m.seat w).seen∨(m.L.length:Int) < n then (m,8) else (m.put w ⟨(m.seat w).here,(m.seat w).last,n⟩,0)) else (m,5)
def LogM.takeF (m:LogM) (d:Dd):LogM × Int × Int:=
 if m.hereF d.By then
  if d.No=(m.seat d.By).last+1 then
   if d.Seen < (m.seat d.By).seen∨(m.L.length:Int) < d.Seen then (m,0,8)
   else if m.L.length=120 then (m,0,9)
   else if (doF m.chars d ((m.L.length:Int)+1)).2=0 then (⟨m.L++[d],upd m.S d.By.toNat ⟨(m.seat d.By).here,d.No,d.Seen⟩⟩,m.L.length+1,0)
   else (m,0,(doF m.chars d ((m.L.length:Int)+1)).2)
  else (m,0,7)
 else (m,0,5)
def LogM.leastTo (m:LogM):Nat→Int
 | 0=>m.L.length
 | k+1=>if (m.S k).here then min (m.leastTo k) (m.S k).seen else m.leastTo k
def LogM.least (m:LogM):Int:=m.leastTo 4
structure LStep where
 (Do W N:Int) (D:Dd) (Right:Bool)
def LogM.right (m:LogM) (x:LStep):Dd:=
 if x.Right&&isWriter x.D.By then { x.D with No:=(m.seat x.D.By).last+1,Seen:=(m.seat x.D.By).seen+(IntKind.u64.wrap x.D.Seen) % ((m.L.length:Int) - (m.seat x.D.By).seen+1) } else x.D
def LogM.step (m:LogM) (x:LStep):LogM:=
 if x.Do=0 then (m.joinF x.W).1 else if x.Do=1 then (m.leaveF x.W).1 else if x.Do=2 then (m.takeF (m.right x)).1 else if x.Do=3 then (m.saysF x.W x.N).1 else m
def lastSeen (w:Int) (ds:List Dd):Int:=ds.foldl (fun s d=>if d.By=w then d.Seen else s) 0
theorem lastSeen_snoc (w:Int) (ds:List Dd) (d:Dd):lastSeen w (ds++[d])=if d.By=w then d.Seen else lastSeen w ds:=by simp [lastSeen]
theorem cntBy_add (w:Int) (ds:List Dd) (d:Dd):cntBy w (ds++[d])=cntBy w ds+if d.By=w then 1 else 0:=by
 unfold cntBy;rw [List.filter_append,List.length_append]
 by_cases h:d.By=w <;> simp [h]
structure DeedOk (L:List Dd) (i:Nat) (d:Dd):Prop where
 f:deedFault d=0
 w:isWriter d.By=true
 no:d.No=cntBy d.By (L.take i)+1
 s0:0≤d.Seen
 s1:d.Seen≤i
 s2:lastSeen d.By (L.take i)≤d.Seen
structure LogM.Ok (m:LogM):Prop where
 all:(allF m.L).2.1=0
 len:m.L.length≤120
 last:∀ w,isWriter w=true→(m.seat w).last=cntBy w m.L
 seen0:∀ w,isWriter w=true→0≤(m.seat w).seen
 seen1:∀ w,isWriter w=true→(m.seat w).seen≤m.L.length
 seen2:∀ w,isWriter w=true→lastSeen w m.L≤(m.seat w).seen
 deeds:∀ i (h:i < m.L.length),DeedOk m.L i m.L[i]
theorem cntBy_le (w:Int) (ds:List Dd):cntBy w ds≤ds.length:=by unfold cntBy;have:=List.length_filter_le (fun d:Dd=>d.By==w) ds;omega
theorem LogM.new_ok:LogM.new.Ok:=⟨rfl,by simp [LogM.new],fun w _=>by simp [LogM.new,LogM.seat,cntBy],fun w _=>by simp [LogM.new,LogM.seat],fun w _=>by simp [LogM.new,LogM.seat],fun w _=>by simp [LogM.new,LogM.seat,lastSeen],fun i h=>by simp [LogM.new] at h⟩
theorem seat_put (m:LogM) (w x:Int) (s:St) (hw:isWriter w=true) (hx:isWriter x=true):(m.put w s).seat x=if x=w then s else m.seat x:=by
 simp only [isWriter,Bool.and_eq_true,decide_eq_true_eq] at hw hx
 unfold LogM.put LogM.seat upd
 by_cases h:x=w
 ·subst h;simp
 ·rw [if_neg h];simp only;rw [if_neg (by omega)]
theorem LogM.Ok.put {m:LogM} (h:m.Ok) (w:Int) (hw:isWriter w=true) (b:Bool) (n:Int) (h1:(m.seat w).seen≤n) (h2:n≤m.L.length):(m.put w ⟨b,(m.seat w).last,n⟩).Ok:=by
 refine ⟨h.all,h.len,fun x hx=>?_,fun x hx=>?_,fun x hx=>?_,fun x hx=>?_,h.deeds⟩
 ·rw [seat_put m w x _ hw hx];split
  ·rename_i e;subst e;exact h.last x hx
  ·exact h.last x hx
 ·rw [seat_put m w x _ hw hx];split
  ·have:=h.seen0 w hw;show 0≤n;omega
  ·exact h.seen0 x hx
 ·rw [seat_put m w x _ hw hx];split
  ·exact h2
  ·exact h.seen1 x hx
 ·rw [seat_put m w x _ hw hx];split
  ·rename_i e;subst e;have:=h.seen2 x hx;show lastSeen x m.L≤n;omega
  ·exact h.seen2 x hx
theorem LogM.hereF_writer {m:LogM} {w:Int} (h:m.hereF w=true):isWriter w=true∧(m.seat w).here=true:=by simpa [LogM.hereF] using h
theorem LogM.Ok.join {m:LogM} (h:m.Ok) (w:Int):(m.joinF w).1.Ok:=by
 unfold LogM.joinF
 by_cases h1:isWriter w=true
 ·rw [if_pos h1];split
  ·exact h
  ·exact h.put w h1 true _ (h.seen1 w h1) (Int.le_refl _)
 ·rw [if_neg h1];exact h
theorem LogM.Ok.leave {m:LogM} (h:m.Ok) (w:Int):(m.leaveF w).1.Ok:=by
 unfold LogM.leaveF
 by_cases h1:m.hereF w=true
 ·rw [if_pos h1];have hw:=(LogM.hereF_writer h1).1
  exact h.put w hw false _ (Int.le_refl _) (h.seen1 w hw)
 ·rw [if_neg h1];exact h
theorem LogM.Ok.says {m:LogM} (h:m.Ok) (w n:Int):(m.saysF w n).1.Ok:=by
 unfold LogM.saysF
 by_cases h1:m.hereF w=true
 ·rw [if_pos h1];have hw:=(LogM.hereF_writer h1).1
  split
  ·exact h
  ·rename_i hn;exact h.put w hw _ n (by omega) (by omega)
 ·rw [if_neg h1];exact h
theorem allF_snoc (L:List Dd) (d:Dd) (h:(allF L).2.1=0):allF (L++[d])=if (doF (allF L).1 d ((L.length:Int)+1)).2=0 then ((doF (allF L).1 d ((L.length:Int)+1)).1,0,0) else ([],(doF (allF L).1 d ((L.length:Int)+1)).2,(L.length:Int)):=by
 have:=allFrom_append L [d] [] 0
 unfold allF at *
 rw [this,if_pos h,Int.zero_add,allFrom_cons]
 rfl
theorem LogM.takeF_cases (m:LogM) (d:Dd):(m.hereF d.By=false∧m.takeF d=(m,0,5))∨(m.hereF d.By=true∧d.No≠(m.seat d.By).last+1∧m.takeF d=(m,0,7))∨
 (m.hereF d.By=true∧d.No=(m.seat d.By).last+1∧(d.Seen < (m.seat d.By).seen∨(m.L.length:Int) < d.Seen)∧m.takeF d=(m,0,8))∨
 (m.hereF d.By=true∧d.No=(m.seat d.By).last+1∧(m.seat d.By).seen≤d.Seen∧d.Seen≤(m.L.length:Int)∧m.L.length=120∧m.takeF d=(m,0,9))∨
 (m.hereF d.By=true∧d.No=(m.seat d.By).last+1∧(m.seat d.By).seen≤d.Seen∧d.Seen≤(m.L.length:Int)∧m.L.length≠120∧(doF m.chars d ((m.L.length:Int)+1)).2≠0∧m.takeF d=(m,0,(doF m.chars d ((m.L.length:Int)+1)).2))∨
 (m.hereF d.By=true∧d.No=(m.seat d.By).last+1∧(m.seat d.By).seen≤d.Seen∧d.Seen≤(m.L.length:Int)∧m.L.length≠120∧(doF m.chars d ((m.L.length:Int)+1)).2=0∧
   m.takeF d=(⟨m.L++[d],upd m.S d.By.toNat ⟨(m.seat d.By).here,d.No,d.Seen⟩⟩,(m.L.length:Int)+1,0)):=by
 by_cases h1:m.hereF d.By=true
 ·by_cases h2:d.No=(m.seat d.By).last+1
  ·by_cases h3:d.Seen < (m.seat d.By).seen∨(m.L.length:Int) < d.Seen
   ·exact .inr (.inr (.inl ⟨h1,h2,h3,by unfold LogM.takeF;rw [if_pos h1,if_pos h2,if_pos h3]⟩))
   ·by_cases h4:m.L.length=120
    ·exact .inr (.inr (.inr (.inl ⟨h1,h2,by omega,by omega,h4,by unfold LogM.takeF;rw [if_pos h1,if_pos h2,if_neg h3,if_pos h4]⟩)))
    ·by_cases h5:(doF m.chars d ((m.L.length:Int)+1)).2=0
     ·exact .inr (.inr (.inr (.inr (.inr ⟨h1,h2,by omega,by omega,h4,h5,by unfold LogM.takeF;rw [if_pos h1,if_pos h2,if_neg h3,if_neg h4,if_pos h5]⟩))))
     ·exact .inr (.inr (.inr (.inr (.inl ⟨h1,h2,by omega,by omega,h4,h5,by unfold LogM.takeF;rw [if_pos h1,if_pos h2,if_neg h3,if_neg h4,if_neg h5]⟩))))
  ·exact .inr (.inl ⟨h1,h2,by unfold LogM.takeF;rw [if_pos h1,if_neg h2]⟩)
 ·exact .inl ⟨by simpa using h1,by unfold LogM.takeF;rw [if_neg h1]⟩
theorem LogM.take_of {m:LogM} (d:Dd) (h:(m.takeF d).2.2=0):m.hereF d.By=true∧d.No=(m.seat d.By).last+1∧(m.seat d.By).seen≤d.Seen∧d.Seen≤(m.L.length:Int)∧m.L.length≠120∧(doF m.chars d ((m.L.length:Int)+1)).2=0∧
 m.takeF d=(⟨m.L++[d],upd m.S d.By.toNat ⟨(m.seat d.By).here,d.No,d.Seen⟩⟩,(m.L.length:Int)+1,0):=by
 rcases m.takeF_cases d with ⟨_,e⟩ | ⟨_,_,e⟩ | ⟨_,_,_,e⟩ | ⟨_,_,_,_,_,e⟩ | ⟨_,_,_,_,_,h5,e⟩ | h
 ·rw [e] at h;simp at h
 ·rw [e] at h;simp at h
 ·rw [e] at h;simp at h
 ·rw [e] at h;simp at h
 ·rw [e] at h;exact absurd h h5
 ·exact h
theorem LogM.take_refused {m:LogM} (d:Dd) (h:(m.takeF d).2.2≠0):(m.takeF d).1=m∧(m.takeF d).2.1=0:=by
 rcases m.takeF_cases d with ⟨_,e⟩ | ⟨_,_,e⟩ | ⟨_,_,_,e⟩ | ⟨_,_,_,_,_,e⟩ | ⟨_,_,_,_,_,h5,e⟩ | ⟨_,_,_,_,_,_,e⟩
 all_goals first | (rw [e] at h;exact absurd rfl h) | (rw [e];exact ⟨rfl,rfl⟩)
theorem LogM.take_chars {m:LogM} (hm:m.Ok) (d:Dd) (h:(m.takeF d).2.2=0):(m.takeF d).1.chars=(doF m.chars d ((m.L.length:Int)+1)).1:=by
 obtain ⟨_,_,_,_,_,h5,e⟩:=LogM.take_of d h
 rw [e]
 show (allF (m.L++[d])).1=_
 rw [allF_snoc m.L d hm.all]
 have h5' : (doF (allF m.L).1 d ((m.L.length:Int)+1)).2=0:=h5
 rw [if_pos h5'];rfl
theorem DeedOk.congr {L L' : List Dd} {i:Nat} {d:Dd} (h:DeedOk L i d) (e:L'.take i=L.take i):DeedOk L' i d:=⟨h.f,h.w,by rw [e];exact h.no,h.s0,h.s1,by rw [e];exact h.s2⟩
theorem LogM.Ok.take {m:LogM} (h:m.Ok) (d:Dd):(m.takeF d).1.Ok:=by
 by_cases h0:(m.takeF d).2.2=0
 ·obtain ⟨h1,h2,h3,h4,h5,h6,e⟩:=LogM.take_of d h0
  have hw:=(LogM.hereF_writer h1).1
  have hf:=(mayDo_zero (doF_zero h6).1).1
  have ha:=allF_snoc m.L d h.all
  have h6' : (doF (allF m.L).1 d ((m.L.length:Int)+1)).2=0:=h6
  rw [if_pos h6'] at ha
  have hseat:∀ x,isWriter x=true→LogM.seat ⟨m.L++[d],upd m.S d.By.toNat ⟨(m.seat d.By).here,d.No,d.Seen⟩⟩ x=if x=d.By then ⟨(m.seat d.By).here,d.No,d.Seen⟩ else m.seat x:=fun x hx=>seat_put m d.By x _ hw hx
  have hlast:=h.last d.By hw
  have hs0:=h.seen0 d.By hw
  have hs2:=h.seen2 d.By hw
  have hlen:=h.len
  rw [e]
  refine ⟨?_,?_,fun x hx=>?_,fun x hx=>?_,fun x hx=>?_,fun x hx=>?_,fun i hi=>?_⟩
  ·show (allF (m.L++[d])).2.1=0
   rw [ha]
  ·simp only [List.length_append,List.length_singleton];omega
  ·rw [hseat x hx]
   show _=cntBy x (m.L++[d])
   rw [cntBy_add]
   split
   ·rename_i e;subst e;rw [if_pos rfl];show d.No=_;omega
   ·rename_i e;rw [if_neg (fun h=>e h.symm),h.last x hx];omega
  ·rw [hseat x hx];split
   ·show 0≤d.Seen;omega
   ·exact h.seen0 x hx
  ·rw [hseat x hx];simp only [List.length_append,List.length_singleton];split
   ·show d.Seen≤_;omega
   ·have:=h.seen1 x hx;omega
  ·rw [hseat x hx]
   show lastSeen x (m.L++[d])≤_
   rw [lastSeen_snoc]
   split
   ·rename_i e;subst e;rw [if_pos rfl];exact Int.le_refl _
   ·rename_i e;rw [if_neg (fun h=>e h.symm)];exact h.seen2 x hx
  ·simp only [List.length_append,List.length_singleton] at hi
   show DeedOk (m.L++[d]) i (m.L++[d])[i]
   by_cases hl:i < m.L.length
   ·rw [List.getElem_append_left hl]
    exact (h.deeds i hl).congr (List.take_append_of_le_length (by omega))
   ·obtain rfl:i=m.L.length:=by omega
    have et:(m.L++[d]).take m.L.length=m.L:=by simp
    rw [List.getElem_append_right (by omega)]
    simp only [Nat.sub_self,List.getElem_singleton]
    exact ⟨hf,hw,by rw [et];omega,by omega,by omega,by rw [et];omega⟩
 ·rw [(LogM.take_refused d h0).1];exact h
theorem LogM.Ok.step {m:LogM} (h:m.Ok) (x:LStep):(m.step x).Ok:=by
 unfold LogM.step
 split
 ·exact h.join _
 ·split
  ·exact h.leave _
  ·split
   ·exact h.take _
   ·split
    ·exact h.says _ _
    ·exact h
theorem LogM.leastTo_le (m:LogM):∀ k,m.leastTo k≤m.L.length:=by
 intro k
 induction k with
 | zero=>exact Int.le_refl _
 | succ k ih=>unfold LogM.leastTo;split <;> omega
theorem LogM.leastTo_seen (m:LogM) (j:Nat) (hh:(m.S j).here=true):∀ k,j < k→m.leastTo k≤(m.S j).seen:=by
 intro k hk
 induction k with
 | zero=>omega
 | succ k ih=>
  unfold LogM.leastTo
  by_cases e:j=k
  ·subst e;rw [if_pos hh];omega
  ·have:=ih (by omega);split <;> omega
theorem LogM.le_leastTo (m:LogM) (n:Int) (h0:n≤m.L.length):∀ k,(∀ j,j < k→(m.S j).here=true→n≤(m.S j).seen)→n≤m.leastTo k:=by
 intro k
 induction k with
 | zero=>intro _;exact h0
 | succ k ih=>
  intro h
  have:=ih (fun j hj=>h j (by omega))
  unfold LogM.leastTo
  split
  ·rename_i hh;have:=h k (by omega) hh;omega
  ·exact this
theorem LogM.least_le (m:LogM):m.least≤m.L.length:=m.leastTo_le 4
theorem LogM.least_seat (m:LogM) (w:Int) (hw:isWriter w=true) (hh:(m.seat w).here=true):m.least≤(m.seat w).seen:=by
 refine m.leastTo_seen w.toNat hh 4 ?_
 simp [isWriter] at hw;omega
theorem LogM.Ok.seen0' {m:LogM} (h:m.Ok) (j:Nat) (hj:j < 4):0≤(m.S j).seen:=by
 have:=h.seen0 (j:Int) (by simp [isWriter];omega)
 simpa [LogM.seat] using this
theorem LogM.Ok.least0 {m:LogM} (h:m.Ok):0≤m.least:=m.le_leastTo 0 (by omega) 4 fun j hj _=>h.seen0' j hj
theorem LogM.least_mono {m m' : LogM} (hl:m.L.length≤m'.L.length) (hs:∀ j,j < 4→(m'.S j).here=true→((m.S j).here=true∧(m.S j).seen≤(m'.S j).seen)∨(m.L.length:Int)≤(m'.S j).seen):m.least≤m'.least:=by
 refine m'.le_leastTo _ (by have:=m.least_le;omega) 4 fun j hj hh=>?_
 rcases hs j hj hh with ⟨h1,h2⟩ | h2
 ·have:=m.leastTo_seen j h1 4 hj;unfold LogM.least;omega
 ·have:=m.least_le;omega
theorem LogM.put_mono (m:LogM) (w:Int) (_hw:isWriter w=true) (s:St) (h:s.here=true→((m.seat w).here=true∧(m.seat w).seen≤s.seen)∨(m.L.length:Int)≤s.seen):m.least≤(m.put w s).least:=by
 refine LogM.least_mono (Nat.le_refl _) fun j hj hh=>?_
 unfold LogM.put upd at hh ⊢
 simp only at hh ⊢
 by_cases e:j=w.toNat
 ·subst e;rw [if_pos rfl] at hh ⊢;exact h hh
 ·rw [if_neg e] at hh ⊢;exact .inl ⟨hh,Int.le_refl _⟩
theorem LogM.joinF_L (m:LogM) (w:Int):(m.joinF w).1.L=m.L:=by
 unfold LogM.joinF;split
 ·split <;> rfl
 ·rfl
theorem LogM.leaveF_L (m:LogM) (w:Int):(m.leaveF w).1.L=m.L:=by unfold LogM.leaveF;split <;> rfl
theorem LogM.saysF_L (m:LogM) (w n:Int):(m.saysF w n).1.L=m.L:=by
 unfold LogM.saysF;split
 ·split <;> rfl
 ·rfl
end Go.Proofs.YtneoeokfffnonaaGreatDoor
namespace Go.Proofs.YtneoeokfffnonaaGreatDoor
open Go.RowKit
theorem insGo_split (P Q:Ch→Bool) (T:List Ch):∀ (l:List Ch) (k:Nat),∃ a b,l=a++b∧insGo P Q T l k=a++T++b:=by
 intro l
 induction l with
 | nil=>intro k;exact ⟨[],[],rfl,by simp [insGo]⟩
 | cons c l ih=>
  intro k
  cases k with
  | zero=>
   rw [insGo]
   split
   ·obtain ⟨a,b,rfl,e⟩:=ih 0
    exact ⟨c :: a,b,rfl,by rw [e];simp⟩
   ·exact ⟨[],c :: l,rfl,by simp⟩
  | succ k=>
   rw [insGo]
   obtain ⟨a,b,h,e⟩:=ih (if P c then k else k+1)
   exact ⟨c :: a,b,by rw [h];rfl,by rw [e];simp⟩
theorem insGo_filterMap (P Q P' Q' : Ch→Bool) (T:List Ch) (f:Ch→Option Ch):∀ (l:List Ch) (k:Nat),(∀ c∈l,Q c=false)→(∀ c∈l,∀ c',f c=some c'→P' c'=P c∧Q' c'=false)→(∀ c∈l,P c=true→(f c).isSome)→
 (insGo P Q T l k).filterMap f=insGo P' Q' (T.filterMap f) (l.filterMap f) k:=by
 intro l
 induction l with
 | nil=>intro k _ _ _;simp [insGo]
 | cons c l ih=>
  intro k hq hp hs
  have ih':=fun k=>ih k (fun x hx=>hq x (by simp [hx])) (fun x hx=>hp x (by simp [hx])) (fun x hx=>hs x (by simp [hx]))
  cases k with
  | zero=>
   have hno:∀ x∈(c :: l).filterMap f,Q' x=false:=by
    intro x hx
    obtain ⟨y,hy,hf⟩:=List.mem_filterMap.1 hx
    exact (hp y hy x hf).2
   rw [insGo_noq hq,insGo_noq hno,List.filterMap_append]
  | succ k=>
   rw [insGo,List.filterMap_cons,List.filterMap_cons]
   cases hf:f c with
   | none=>
    have:P c=false:=by
     cases h:P c
     ·rfl
     ·have:=hs c (by simp) h;rw [hf] at this;cases this
    simp only [this,Bool.false_eq_true,if_false]
    exact ih' _
   | some c'=>
    simp only
    rw [insGo,(hp c (by simp) c' hf).1,ih']
theorem takeGo_filterMap (s b s' b' lo hi n n' : Int) (f:Ch→Option Ch):∀ (l:List Ch) (k:Int),(∀ c∈l,∀ c',f c=some c'→c'.sees s' b'=c.sees s b)→(∀ c∈l,c.sees s b=true→∃ c',f c=some c'∧f (mark b n c)=some (mark b' n' c'))→
 (takeGo s b lo hi n l k).filterMap f=takeGo s' b' lo hi n' (l.filterMap f) k:=by
 intro l
 induction l with
 | nil=>intro k _ _;rfl
 | cons c l ih=>
  intro k hp hs
  have ih':=fun k=>ih k (fun x hx=>hp x (by simp [hx])) (fun x hx=>hs x (by simp [hx]))
  rw [takeGo,List.filterMap_cons]
  cases h:c.sees s b
  ·simp only [Bool.false_eq_true,if_false,List.filterMap_cons]
   cases hf:f c with
   | none=>exact ih' k
   | some c'=>
    simp only
    rw [takeGo,hp c (by simp) c' hf,h,ih'];simp
  ·obtain ⟨c',hf,hm⟩:=hs c (by simp) h
   simp only [if_true,List.filterMap_cons,hf]
   rw [takeGo,hp c (by simp) c' hf,h]
   simp only [if_true]
   by_cases hk:lo≤k∧k < hi
   ·rw [if_pos hk,if_pos hk,hm];simp only;rw [ih']
   ·rw [if_neg hk,if_neg hk,hf];simp only;rw [ih']
theorem vis_filterMap (s b s' b' : Int) (f:Ch→Option Ch) (l:List Ch) (hp:∀ c∈l,∀ c',f c=some c'→c'.sees s' b'=c.sees s b) (hs:∀ c∈l,c.sees s b=true→(f c).isSome=true) :
 vis s' b' (l.filterMap f)=(vis s b l).filterMap f:=by
 unfold vis
 induction l with
 | nil=>rfl
 | cons c l ih=>
  have ih:=ih (fun x hx=>hp x (by simp [hx])) (fun x hx=>hs x (by simp [hx]))
  rw [List.filterMap_cons,List.filter_cons]
  cases hf:f c with
  | none=>
   have:¬ c.sees s b=true:=fun h=>by have:=hs c (by simp) h;rw [hf] at this;cases this
   rw [if_neg this]
   exact ih
  | some c'=>
   have hc:=hp c (by simp) c' hf
   show (c' :: l.filterMap f).filter _=_
   rw [List.filter_cons,hc,ih]
   split
   ·rw [List.filterMap_cons,hf]
   ·rfl
theorem filterMap_len (f:Ch→Option Ch) (l:List Ch) (hs:∀ c∈l,(f c).isSome=true):(l.filterMap f).length=l.length:=by
 induction l with
 | nil=>rfl
 | cons c l ih=>
  have h:=hs c (by simp)
  obtain ⟨c',hf⟩:=Option.isSome_iff_exists.1 h
  rw [List.filterMap_cons,hf]
  show (l.filterMap f).length+1=l.length+1
  rw [ih fun x hx=>hs x (by simp [hx])]
theorem vis_filterMap_len (s b s' b' : Int) (f:Ch→Option Ch) (l:List Ch) (hp:∀ c∈l,∀ c',f c=some c'→c'.sees s' b'=c.sees s b) (hs:∀ c∈l,c.sees s b=true→(f c).isSome=true) :
 (vis s' b' (l.filterMap f)).length=(vis s b l).length:=by
 rw [vis_filterMap s b s' b' f l hp hs]
 refine filterMap_len f _ fun c hc=>?_
 obtain ⟨h1,h2⟩:=List.mem_filter.1 hc
 exact hs c h1 h2
def rho (s b:Int) (c:Ch):Option Ch:=
 if c.In≤s∨c.By=b then some { c with In:=if c.By=b then 0 else c.In,Out:=if 0 < c.Out∧c.Out≤s then c.Out else 0,Gone:=if took c.Gone b then bitOf b else 0 } else none
theorem took_bit (b:Int) (hb:isWriter b=true):took (bitOf b) b=true:=by
 have:=took_add_self 0 b hb (took_zero b);rwa [Int.zero_add] at this
theorem rho_sees (s b:Int) (hb:isWriter b=true) (seen:Int) (h:seen≤s) (c c' : Ch) (hc:rho s b c=some c'):c'.sees seen b=c.sees seen b:=by
 unfold rho at hc
 split at hc
 ·cases hc
  unfold Ch.sees
  rw [knowsOut_took,knowsOut_took]
  congr 1
  ·unfold Ch.knowsIn
   by_cases e:c.By=b
   ·simp [e]
   ·simp [e]
  ·congr 1
   simp only
   congr 1
   ·cases ht:took c.Gone b
    ·simp [took_zero]
    ·simp [took_bit b hb]
   ·by_cases e:0 < c.Out∧c.Out≤s
    ·rw [if_pos e]
    ·rw [if_neg e]
     have:(decide (0 < c.Out)&&decide (c.Out≤seen))=false:=by simp;omega
     rw [this];rfl
 ·cases hc
theorem rho_some (s b:Int) (seen:Int) (h:seen≤s) (c:Ch) (hc:c.sees seen b=true):(rho s b c).isSome:=by
 unfold rho
 have:c.In≤s∨c.By=b:=by
  unfold Ch.sees Ch.knowsIn at hc
  simp only [Bool.and_eq_true,Bool.or_eq_true,decide_eq_true_eq,beq_iff_eq] at hc
  rcases hc.1 with h | h
  ·exact .inl (by omega)
  ·exact .inr h
 rw [if_pos this];rfl
theorem rho_C (s b:Int) (c c' : Ch) (hc:rho s b c=some c'):c'.C=c.C∧c'.By=c.By∧c'.No=c.No∧c'.K=c.K:=by
 unfold rho at hc
 split at hc
 ·cases hc;exact ⟨rfl,rfl,rfl,rfl⟩
 ·cases hc
theorem out_norm (s n o:Int) (h:s < n):(if 0 < out1 n o∧out1 n o≤s then out1 n o else 0)=if 0 < o∧o≤s then o else 0:=by
 unfold out1
 by_cases e:n≠1073741824∧(o=0∨n < o)
 ·have h2:=e.2
  rw [if_pos e]
  clear e
  rw [if_neg (by omega),if_neg (by omega)]
 ·rw [if_neg e]
theorem rho_mark_own (s b:Int) (hb:isWriter b=true) (n:Int) (h:s < n) (seen:Int) (hs:seen≤s) (c:Ch) (hc:c.sees seen b=true) :
 ∃ c',rho s b c=some c'∧rho s b (mark b n c)=some (mark b 1073741824 c'):=by
 have hr:=rho_some s b seen hs c hc
 have ht:=sees_took hc
 unfold rho at hr ⊢
 by_cases e:c.In≤s∨c.By=b
 ·rw [if_pos e,if_pos (show (mark b n c).In≤s∨(mark b n c).By=b from e)]
  refine ⟨_,rfl,?_⟩
  have h2:=out_norm s n c.Out h
  have h3:took (c.Gone+bitOf b) b=true:=took_add_self _ _ hb ht
  rw [mark_Out,h2]
  unfold mark
  simp only [h3,ht,if_true,Bool.false_eq_true,if_false,Option.some.injEq,Ch.mk.injEq,true_and,ne_eq,not_true_eq_false,false_and]
  omega
 ·rw [if_neg e] at hr;cases hr
theorem rho_mark_other (s b:Int) (a:Int) (ha:isWriter a=true) (hne:a≠b) (n:Int) (h:s < n) (seen:Int) (c:Ch) (hc:c.sees seen a=true):rho s b (mark a n c)=rho s b c:=by
 have h2:=out_norm s n c.Out h
 have h3:took (mark a n c).Gone b=took c.Gone b:=took_add_other _ _ _ ha (sees_took hc) (fun e=>hne e.symm)
 unfold rho
 by_cases e:c.In≤s∨c.By=b
 ·rw [if_pos e,if_pos (show (mark a n c).In≤s∨(mark a n c).By=b from e),mark_Out,h2,h3]
  rfl
 ·rw [if_neg e,if_neg (show ¬ ((mark a n c).In≤s∨(mark a n c).By=b) from e)]
def apR (l:List Ch) (d:Dd):List Ch:=
 if d.Kind=1 then insGo (fun c=>c.sees d.Seen d.By) (fun _=>false) (newOf d 0) l d.At.toNat
 else takeGo d.Seen d.By d.At (d.At+d.Many) 1073741824 l 0
theorem newOf_rho (d:Dd) (n s:Int):(newOf d n).filterMap (rho s d.By)=newOf d 0:=by
 unfold newOf
 have key:∀ (xs:List Int) (k:Nat),(xs.mapIdx fun i c=>(⟨c,d.By,d.No,((i+k:Nat):Int),n,0,0⟩:Ch)).filterMap (rho s d.By)=xs.mapIdx fun i c=>(⟨c,d.By,d.No,((i+k:Nat):Int),0,0,0⟩:Ch):=by
  intro xs
  induction xs with
  | nil=>intro k;rfl
  | cons x xs ih=>
   intro k
   rw [List.mapIdx_cons,List.mapIdx_cons,List.filterMap_cons]
   have e:rho s d.By ⟨x,d.By,d.No,((0+k:Nat):Int),n,0,0⟩=some ⟨x,d.By,d.No,((0+k:Nat):Int),0,0,0⟩:=by
    unfold rho;simp [took_zero]
   rw [e]
   simp only
   congr 1
   have:=ih (k+1)
   simp only [show ∀ i:Nat,i+(k+1)=i+1+k from fun i=>by omega] at this
   exact this
 have:=key (bytesOf d.Text) 0
 simpa using this
theorem ap_rho_own (l:List Ch) (d:Dd) (n s:Int) (hb:isWriter d.By=true) (hs:d.Seen≤s) (hn:s < n) (hq:∀ c∈l,openOther d.By c=false):(ap l d n).filterMap (rho s d.By)=apR (l.filterMap (rho s d.By)) d:=by
 unfold ap apR
 split
 ·rw [← newOf_rho d n s]
  exact insGo_filterMap _ _ _ _ _ _ l _ hq (fun c _ c' h=>⟨rho_sees s d.By hb d.Seen hs c c' h,rfl⟩) (fun c _ h=>rho_some s d.By d.Seen hs c h)
 ·exact takeGo_filterMap _ _ _ _ _ _ _ _ _ l 0 (fun c _ c' h=>rho_sees s d.By hb d.Seen hs c c' h) (fun c _ h=>rho_mark_own s d.By hb n hn d.Seen hs c h)
theorem takeGo_congr (s b lo hi n:Int) (f:Ch→Option Ch):∀ (l:List Ch) (k:Int),(∀ c∈l,c.sees s b=true→f (mark b n c)=f c)→(takeGo s b lo hi n l k).filterMap f=l.filterMap f:=by
 intro l
 induction l with
 | nil=>intro k _;rfl
 | cons c l ih=>
  intro k h
  have ih':=fun k=>ih k (fun x hx=>h x (by simp [hx]))
  rw [takeGo]
  cases hs:c.sees s b
  ·simp only [Bool.false_eq_true,if_false];rw [List.filterMap_cons,List.filterMap_cons,ih']
  ·simp only [if_true]
   have e:f (if lo≤k∧k < hi then mark b n c else c)=f c:=by
    split
    ·exact h c (by simp) hs
    ·rfl
   rw [List.filterMap_cons,List.filterMap_cons,ih',e]
theorem ap_rho_other (l:List Ch) (d:Dd) (n s b:Int) (hd:isWriter d.By=true) (hne:d.By≠b) (hn:s < n):(ap l d n).filterMap (rho s b)=l.filterMap (rho s b):=by
 unfold ap
 split
 ·obtain ⟨x,y,rfl,e⟩:=insGo_split (fun c=>c.sees d.Seen d.By) (openOther d.By) (newOf d n) l d.At.toNat
  rw [e]
  have:(newOf d n).filterMap (rho s b)=[]:=by
   rw [List.filterMap_eq_nil_iff]
   intro c hc
   obtain ⟨h1,_,h3,_⟩:=newOf_mem hc
   unfold rho;rw [if_neg]
   rw [h1,h3];omega
  simp [List.filterMap_append,this]
 ·exact takeGo_congr _ _ _ _ _ _ l 0 fun c _ h=>rho_mark_other s b d.By hd hne n hn d.Seen c h
def keepIf (p:Ch→Bool) (c:Ch):Option Ch:=if p c then some c else none
theorem filterMap_keepIf (p:Ch→Bool) (l:List Ch):l.filterMap (keepIf p)=l.filter p:=by
 induction l with
 | nil=>rfl
 | cons c l ih=>
  have e:keepIf p c=if p c then some c else none:=rfl
  rw [List.filterMap_cons,List.filter_cons,e,ih];cases p c <;> rfl
theorem ap_filter (p:Ch→Bool) (l:List Ch) (d:Dd) (n:Int) (hq:∀ c∈l,openOther d.By c=false) (hnew:∀ c∈newOf d n,p c=true) (hs:∀ c∈l,c.sees d.Seen d.By=true→p c=true) (hm:∀ c∈l,c.sees d.Seen d.By=true→p (mark d.By n c)=true) :
 (ap l d n).filter p=ap (l.filter p) d n:=by
 have hk:∀ c c',keepIf p c=some c'→c'=c:=fun c c' h=>by unfold keepIf at h;split at h <;> cases h;rfl
 have hsome:∀ c,p c=true→keepIf p c=some c:=fun c h=>by unfold keepIf;rw [if_pos h]
 rw [← filterMap_keepIf,← filterMap_keepIf]
 unfold ap
 split
 ·have hT:(newOf d n).filterMap (keepIf p)=newOf d n:=by rw [filterMap_keepIf];exact List.filter_eq_self.2 hnew
  have:=insGo_filterMap (fun c=>c.sees d.Seen d.By) (openOther d.By) (fun c=>c.sees d.Seen d.By) (openOther d.By) (newOf d n) (keepIf p) l d.At.toNat hq
   (fun c hc c' h=>by rw [hk c c' h];exact ⟨rfl,hq c hc⟩) (fun c hc h=>by rw [hsome c (hs c hc h)];rfl)
  rw [hT] at this
  exact this
 ·exact takeGo_filterMap _ _ _ _ _ _ _ _ _ l 0 (fun c _ c' h=>by rw [hk c c' h]) (fun c hc h=>⟨c,hsome c (hs c hc h),hsome _ (hm c hc h)⟩)
theorem vis_filter (p:Ch→Bool) (s b:Int) (l:List Ch) (hs:∀ c∈l,c.sees s b=true→p c=true):vis s b (l.filter p)=vis s b l:=by
 unfold vis
 rw [List.filter_filter]
 apply List.filter_congr
 intro c hc
 cases h:c.sees s b
 ·rfl
 ·rw [hs c hc h];rfl
end Go.Proofs.YtneoeokfffnonaaGreatDoor
namespace Go.Proofs.YtneoeokfffnonaaGreatDoor
open Go.RowKit
def pre (L:List Dd) (i:Nat):List Ch:=(allF (L.take i)).1
structure LOk (L:List Dd):Prop where
 all:(allF L).2.1=0
 len:L.length≤120
 deeds:∀ i (h:i < L.length),DeedOk L i L[i]
theorem LogM.Ok.lok {m:LogM} (h:m.Ok):LOk m.L:=⟨h.all,h.len,h.deeds⟩
theorem pre_zero (L:List Dd):pre L 0=[]:=rfl
theorem pre_len (L:List Dd):pre L L.length=(allF L).1:=by unfold pre;rw [List.take_length]
theorem pre_append (L M:List Dd) (i:Nat) (h:i≤L.length):pre (L++M) i=pre L i:=by unfold pre;rw [List.take_append_of_le_length h]
theorem take_all (L:List Dd) (h:(allF L).2.1=0) (i:Nat):(allF (L.take i)).2.1=0:=by
 have e:=allFrom_append (L.take i) (L.drop i) [] 0
 rw [List.take_append_drop] at e
 unfold allF at *
 by_cases h0:(allFrom [] 0 (L.take i)).2.1=0
 ·exact h0
 ·rw [if_neg h0] at e;rw [e] at h;exact h
theorem pre_succ {L:List Dd} (h:(allF L).2.1=0) (i:Nat) (hi:i < L.length):mayDo (pre L i) L[i]=0∧pre L (i+1)=ap (pre L i) L[i] ((i:Int)+1)∧doF (pre L i) L[i] ((i:Int)+1)=(pre L (i+1),0):=by
 have h1:=take_all L h (i+1)
 have h0:=take_all L h i
 have e:=allF_snoc (L.take i) L[i] h0
 rw [← List.take_succ_eq_append_getElem hi] at e
 have el:((L.take i).length:Int)=i:=by simp;omega
 rw [el] at e
 by_cases hd:(doF (allF (L.take i)).1 L[i] ((i:Int)+1)).2=0
 ·obtain ⟨hm,hn⟩:=doF_zero hd
  have hap:=doF_ap hm hn
  rw [if_pos hd] at e
  have e2:pre L (i+1)=ap (pre L i) L[i] ((i:Int)+1):=by
   unfold pre;rw [e,hap]
  exact ⟨hm,e2,by rw [e2];exact hap⟩
 ·rw [if_neg hd] at e;rw [e] at h1;exact absurd h1 hd
theorem LOk.made {L:List Dd} (h:LOk L) (i:Nat) (hi:i≤L.length):Made i L (pre L i):=
 lists L (by have:=h.len;omega) (fun j hj=>let d:=h.deeds j hj;⟨d.w,d.no,d.s1⟩) i hi (take_all L h.all i)
theorem LOk.noOpen {L:List Dd} (h:LOk L) (i:Nat) (hi:i≤L.length) (b:Int):∀ c∈pre L i,openOther b c=false:=by
 intro c hc
 have g:=(h.made i hi).good c hc
 have:=h.len
 unfold openOther
 have e:(c.In==1073741824)=false:=by have:=g.in2;simp;omega
 rw [e];rfl
def mine (w:Int) (ds:List Dd):List Dd:=ds.filter fun d=>d.By==w
theorem mine_append (w:Int) (a b:List Dd):mine w (a++b)=mine w a++mine w b:=by simp [mine]
def apO (l:List Ch) (d:Dd):List Ch:=ap l d 1073741824
def apOs (l:List Ch) (ds:List Dd):List Ch:=ds.foldl apO l
theorem apOs_append (l:List Ch) (a b:List Dd):apOs l (a++b)=apOs (apOs l a) b:=by simp [apOs]
def apRs (l:List Ch) (ds:List Dd):List Ch:=ds.foldl apR l
theorem drop_take_succ (L:List Dd) (s i:Nat) (hs:s≤i) (hi:i < L.length):(L.take (i+1)).drop s=(L.take i).drop s++[L[i]]:=by
 rw [List.take_succ_eq_append_getElem hi,List.drop_append_of_le_length (by simp;omega)]
theorem lastSeen_mine (w:Int) (ds:List Dd) (h:∀ i (hi:i < ds.length),ds[i].By=w→lastSeen w (ds.take i)≤ds[i].Seen) (h0:∀ d∈ds,0≤d.Seen):∀ k,k≤ds.length→0≤lastSeen w (ds.take k)∧∀ d∈ds.take k,d.By=w→d.Seen≤lastSeen w (ds.take k):=by
 intro k
 induction k with
 | zero=>intro _;exact ⟨by simp [lastSeen],fun d hd=>by simp at hd⟩
 | succ k ih=>
  intro hk
  obtain ⟨i0,i1⟩:=ih (by omega)
  have hkl:k < ds.length:=by omega
  rw [List.take_succ_eq_append_getElem hkl,lastSeen_snoc]
  by_cases e:ds[k].By=w
  ·rw [if_pos e]
   have:=h k hkl e
   refine ⟨h0 _ (List.getElem_mem hkl),fun d hd hb=>?_⟩
   rcases List.mem_append.1 hd with hd | hd
   ·have:=i1 d hd hb;omega
   ·simp at hd;subst hd;exact Int.le_refl _
  ·rw [if_neg e]
   refine ⟨i0,fun d hd hb=>?_⟩
   rcases List.mem_append.1 hd with hd | hd
   ·exact i1 d hd hb
   ·simp at hd;subst hd;exact absurd hb e
theorem LOk.own_seen {L:List Dd} (h:LOk L) (w:Int):0≤lastSeen w L∧∀ d∈L,d.By=w→d.Seen≤lastSeen w L:=by
 have:=lastSeen_mine w L (fun i hi e=>by have:=(h.deeds i hi).s2;rw [e] at this;exact this) (fun d hd=>by
  obtain ⟨i,hi,rfl⟩:=List.getElem_of_mem hd;exact (h.deeds i hi).s0) L.length (Nat.le_refl _)
 rw [List.take_length] at this;exact this
theorem LOk.rho {L:List Dd} (h:LOk L) (w:Int) (hw:isWriter w=true) (s:Nat) (hso:∀ d∈L,d.By=w→d.Seen≤s):∀ i,s≤i→i≤L.length→
 (pre L i).filterMap (rho s w)=apRs ((pre L s).filterMap (rho s w)) (mine w ((L.take i).drop s)):=by
 intro i hi
 induction i with
 | zero=>
  intro _
  obtain rfl:s=0:=by omega
  simp [mine,apRs]
 | succ i ih=>
  intro hl
  by_cases e:s=i+1
  ·subst e
   rw [List.drop_of_length_le (by simp;omega)];rfl
  ·have hsi:s≤i:=by omega
   have hil:i < L.length:=by omega
   have ih:=ih hsi (by omega)
   obtain ⟨_,hp,_⟩:=pre_succ h.all i hil
   have hd:=h.deeds i hil
   rw [hp,drop_take_succ L s i hsi hil,mine_append]
   by_cases hb:L[i].By=w
   ·have e1:mine w [L[i]]=[L[i]]:=by simp [mine,hb]
    rw [e1]
    subst hb
    rw [ap_rho_own _ _ _ s hd.w (hso _ (List.getElem_mem hil) rfl) (by omega) (h.noOpen i (by omega) _),ih]
    simp [apRs]
   ·have e1:mine w [L[i]]=[]:=by simp [mine,hb]
    rw [e1,List.append_nil,ap_rho_other _ _ _ s w hd.w hb (by omega),ih]
theorem noOther_apO (l:List Ch) (d:Dd) (n:Int) (h:∀ c∈l,openOther d.By c=false):∀ c∈ap l d n,openOther d.By c=false:=by
 intro c hc
 unfold ap at hc
 split at hc
 ·rcases insGo_mem _ _ _ _ _ c hc with h1 | h1
  ·obtain ⟨e,_⟩:=newOf_mem h1
   unfold openOther;rw [e];simp
  ·exact h c h1
 ·obtain ⟨x,hx,e⟩:=takeGo_mem _ _ _ _ _ _ _ c hc
  rcases e with rfl | ⟨_,rfl⟩
  ·exact h _ hx
  ·rw [openOther_mark];exact h _ hx
theorem apOs_rho (w:Int) (hw:isWriter w=true) (s:Int) (hs:s < 1073741824) (ds:List Dd) (hd:∀ d∈ds,d.By=w∧d.Seen≤s):∀ l:List Ch,(∀ c∈l,openOther w c=false)→(apOs l ds).filterMap (rho s w)=apRs (l.filterMap (rho s w)) ds:=by
 induction ds with
 | nil=>intro l _;rfl
 | cons d ds ih=>
  intro l hl
  obtain ⟨hb,hse⟩:=hd d (by simp)
  subst hb
  show (apOs (apO l d) ds).filterMap _=apRs (apR _ d) ds
  rw [ih (fun x hx=>hd x (by simp [hx])) (apO l d) (noOther_apO l d _ hl)]
  unfold apO
  rw [ap_rho_own l d _ s hw hse hs hl]
theorem vis_rho (w:Int) (hw:isWriter w=true) (s seen:Int) (hs:seen≤s) (l:List Ch):(vis seen w (l.filterMap (rho s w))).length=(vis seen w l).length:=
 vis_filterMap_len seen w seen w (rho s w) l (fun c _ c' hc=>rho_sees s w hw seen hs c c' hc) (fun c _ hc=>rho_some s w seen hs c hc)
theorem LOk.own_view {L:List Dd} (h:LOk L) (w:Int) (hw:isWriter w=true) (s:Nat) (hs:s≤L.length) (hso:∀ d∈L,d.By=w→d.Seen≤s) :
 (vis s w (allF L).1).length=(vis s w (apOs (pre L s) (mine w (L.drop s)))).length:=by
 have h1:=h.rho w hw s hso L.length hs (Nat.le_refl _)
 rw [pre_len,List.take_length] at h1
 have hm:∀ d∈mine w (L.drop s),d.By=w∧d.Seen≤s:=by
  intro d hd
  obtain ⟨h2,h3⟩:=List.mem_filter.1 hd
  have h3:d.By=w:=by simpa using h3
  exact ⟨h3,hso d (List.mem_of_mem_drop h2) h3⟩
 have h2:=apOs_rho w hw s (by have:=h.len;omega) _ hm (pre L s) (h.noOpen s hs w)
 rw [← vis_rho w hw s s (Int.le_refl _) (allF L).1,h1,← h2,vis_rho w hw s s (Int.le_refl _)]
end Go.Proofs.YtneoeokfffnonaaGreatDoor
namespace Go.Proofs.YtneoeokfffnonaaGreatDoor
open Go.RowKit
structure Moves (F:Nat→Prop) (w w' : World):Prop where
 os:w'.os=w.os
 tape:w'.tape=w.tape
 output:w'.output=w.output
 size:w.heap.size≤w'.heap.size
 block:∀ k,k < w.heap.size→¬ F k→w'.heap[k]? = w.heap[k]?
theorem Moves.refl (F:Nat→Prop) (w:World):Moves F w w:=⟨rfl,rfl,rfl,Nat.le_refl _,fun _ _ _=>rfl⟩
theorem Moves.trans {F G:Nat→Prop} {w w1 w2:World} (h:Moves F w w1) (k:Moves G w1 w2) (hg:∀ i,i < w.heap.size→G i→F i):Moves F w w2:=
 ⟨k.os.trans h.os,k.tape.trans h.tape,k.output.trans h.output,Nat.le_trans h.size k.size,fun i hi hf=>(k.block i (Nat.lt_of_lt_of_le hi h.size) (fun e=>hf (hg i hi e))).trans (h.block i hi hf)⟩
theorem Moves.of_below {F:Nat→Prop} {w w' : World} (h:Below w.heap.size w w'):Moves F w w':=⟨h.os,h.tape,h.output,h.size,fun k hk _=>h.block k hk⟩
theorem Moves.of_grown {F:Nat→Prop} {w w' : World} {r:Option Nat} (h:w.grownBy w' r) (hr:∀ k,r=some k→F k):Moves F w w':=⟨h.os,h.tape,h.output,h.size,fun k hk hf=>h.block k hk fun e=>hf (hr k e.symm)⟩
theorem Moves.setCell {F:Nat→Prop} (w:World) (p:Addr) (v:Value) (hp:F p.block):Moves F w (w.setCell p v):=
 ⟨rfl,rfl,rfl,by simp,fun k _ hf=>Below.heap_setCell w p v k fun e=>hf (e ▸ hp)⟩
theorem Moves.below {F:Nat→Prop} {w w' : World} {B:Nat} (h:Moves F w w') (hF:∀ k,F k→B≤k) (hB:B≤w.heap.size):Below B w w':=
 ⟨h.os,h.tape,h.output,h.size,fun k hk=>h.block k (by omega) fun hf=>by have:=hF k hf;omega⟩
theorem Moves.cell {F:Nat→Prop} {w w' : World} (h:Moves F w w') {b:Nat} (hb:b < w.heap.size) (hf:¬ F b) (o:Nat):w'.cell? ⟨b,o,none⟩=w.cell? ⟨b,o,none⟩:=World.cell?_of_block (w:=w) (h.block b hb hf)
theorem Moves.frozen {F:Nat→Prop} {w w' : World} (h:Moves F w w') {b:Nat} (hb:b < w.heap.size) (hf:¬ F b) (o:Nat):w'.frozen? ⟨b,o,none⟩=w.frozen? ⟨b,o,none⟩:=by
 unfold World.frozen?
 rw [h.block b hb hf]
def Grows (F:Nat→Prop) (w:World) (F' : Nat→Prop):Prop:=∀ k,F' k→F k∨w.heap.size≤k
theorem OwnRow.moves {w w' : World} {base:Nat} {e:TypeId} {size:Nat} {a:Option Addr} {n cap:Nat} {xs:List Value} {G:Nat→Prop} (h:OwnRow w base e size a n cap xs) (hm:Moves G w w') (hg:∀ k,ownB a cap=some k→¬ G k):OwnRow w' base e size a n cap xs:=
 h.of_block fun k hk _ hlt=>hm.block k hlt (hg k hk)
section
variable {P:Program}
theorem run_append_row2 (w:World) (base:Nat) (t ty e:TypeId) (i:TypeInfo) (z:Value) (size bytes:Nat) (ht:P.underlying t=some (.slice e)) (hi:P.info? e=some i) (hz:i.zero=some z)
 (hsize:i.size=size) (hby:i.bytes=bytes) (hzs:z.cells.size=size)
 (a:Option Addr) (n cap:Nat) (xs:List Value) (hown:OwnRow w base e size a n cap xs)
 (xa:Option Addr) (m c:Nat) (news:List Value) (hl:news.length=m * size) (hnews:m=0∨∃ ad,xa=some ad∧∀ j u,news[j]? = some u→w.cell? (ad.add j)=some u) (h1:∀ u∈news,u.oneCell'=true)
 (h63:n+m≤maxLen) (hbytes:(n+m) * bytes≤140737488355328) (hbase:base≤w.heap.size) :
 ∃ a' cap' w',(Builtin.append_ #[t,t] ty #[.slice a n cap,.slice xa m c]).run P w=.ok (.slice a' (n+m) cap') w'∧OwnRow w' base e size a' (n+m) cap' (xs++news)∧w.grownBy w' (ownB a cap)∧(∀ k,ownB a' cap'=some k→ownB a cap=some k∨k=w.heap.size):=by
 subst hsize
 subst hby
 have hsmall:n+m≤9223372036854775807:=by simp only [maxLen] at h63;omega
 have hgrown:∀ (o:Obj) (row:Option Nat),w.grownBy (w.drew.alloc o) row:=fun o row=>⟨rfl,rfl,rfl,by simp,fun k hk _=>Below.heap_alloc w.drew _ k hk⟩
 by_cases hm:m=0
 ·subst hm
  have hn:news=[]:=List.eq_nil_of_length_eq_zero (by simpa using hl)
  subst hn
  have hle:=hown.le
  refine ⟨a,cap,w,?_,by simpa using hown,⟨rfl,rfl,rfl,Nat.le_refl _,fun _ _ _=>rfl⟩,fun k hk=>.inl hk⟩
  cases a <;> cases xa <;> simp [Builtin.append_,run_underlying ht,sizeOf,typeInfo,hi,Builtin.lenOf,Builtin.firstCells,loadCells,loadCellsFrom,hle,storeCells]
 ·obtain ⟨ad,rfl,hnews'⟩:=hnews.resolve_left hm
  by_cases hroom:n+m≤cap
  ·rcases hown.own with h0 | ⟨g,off,cur,rfl,hb,hg,hfit,hx⟩
   ·omega
   ·have hfit' : off+n * i.size+news.length≤cur.size:=by
     rw [hl];have:n * i.size+m * i.size≤cap * i.size:=by rw [← Nat.add_mul];exact Nat.mul_le_mul_right _ hroom
     omega
    have hf:=run_firstCells_some (P:=P) w i.size m ad m c news hl hnews'
    have hst:=run_storeCells_at P g (off+n * i.size) e news 0 cur w hg (by simpa using hfit') h1
    simp only [Nat.add_zero] at hst
    have hlen:(xs++news).length=(n+m) * i.size:=by rw [List.length_append,hown.len,hl,Nat.add_mul]
    refine ⟨some ⟨g,off,none⟩,cap,w.setRow g (cur.toList.take (off+n * i.size)++news++cur.toList.drop (off+n * i.size+news.length)).toArray,?_,⟨hroom,hown.max,hlen,.inr ⟨g,off,_,rfl,hb,setRow_heap w g cur _ e _ hg,?_,?_⟩⟩,⟨rfl,rfl,rfl,by simp,fun k _ hk=>setRow_other w g k _ (fun e=>hk (by simp [ownB,e];omega))⟩,fun k hk=>.inl hk⟩
    ·simp [Builtin.append_,run_underlying ht,sizeOf,typeInfo,hi,Builtin.lenOf,hroom,hf,Addr.add_lit,hst]
    ·simp only [List.size_toArray,List.length_append,List.length_take,List.length_drop,Array.length_toList]
     omega
    ·have hcl:cur.toList.length=cur.size:=by simp
     have e1:cur.toList.take (off+n * i.size)=cur.toList.take off++xs:=by rw [List.take_add,hx]
     rw [show (off+n * i.size+news.length)=off+n * i.size+news.length from rfl,e1,List.append_assoc,List.append_assoc,]
     have e2:(cur.toList.take off).length=off:=by rw [List.length_take];omega
     show List.take _ (List.drop off (cur.toList.take off++(xs++(news++_))))=_
     rw [show List.drop off (cur.toList.take off++(xs++(news++List.drop (off+n * i.size+news.length) cur.toList)))=xs++(news++List.drop (off+n * i.size+news.length) cur.toList) from by
      conv=>lhs;rw [show off=(cur.toList.take off).length from e2.symm]
      simp only [e2]
      rw [List.drop_append_of_le_length (by omega),List.drop_of_length_le (by omega)];rfl]
     rw [← List.append_assoc,← hlen]
     exact List.take_left
  ·have hfit:=growslice_fits (need:=n+m) (old:=cap) (by omega) hbytes
   cases a with
   | none=>
    have hc0:cap=0:=by rcases hown.own with h0 | ⟨g,off,cur,h,_⟩;exact h0;cases h
    subst hc0
    have hn0:n=0:=by have:=hown.le;omega
    subst hn0
    have hx:xs=[]:=List.eq_nil_of_length_eq_zero (by simpa using hown.len)
    subst hx
    have hr:=run_append_nil (P:=P) w t ty e i z ht hi hz ad m c news hl hnews' (by omega) (by omega) (by have hb:=hbytes;simp only [Nat.zero_add] at hb;omega)
    have hgr:=grown_row w base e z i.size hzs 0 m 0 [] news (by simp) hl h63 hbase
    simp only [Nat.zero_add,List.nil_append,Array.empty_append] at hgr ⊢
    exact ⟨_,_,_,hr,hgr,hgrown _ _,fun k hk=>.inr (by unfold ownB at hk;split at hk <;> simp at hk;exact hk.symm)⟩
   | some b=>
    have holds:∀ j v,xs[j]? = some v→w.cell? (b.add j)=some v:=by
     intro j v hv
     have hp:0 < xs.length:=by
      rcases Nat.lt_or_ge j xs.length with h | h
      ·omega
      ·rw [List.getElem?_eq_none h] at hv;cases hv
     obtain ⟨g,off,hb,_,_,hcell⟩:=hown.cell hp
     cases hb
     rw [Addr.add_lit];exact hcell j v hv
    have hr:=run_append_grow (P:=P) w t ty e i z ht hi hz b n cap xs hown.len holds ad m c news hl hnews' (by omega) (by omega) hfit
    exact ⟨_,_,_,hr,grown_row w base e z i.size hzs n m cap xs news hown.len hl h63 hbase,hgrown _ _,fun k hk=>.inr (by unfold ownB at hk;split at hk <;> simp at hk;exact hk.symm)⟩
theorem wpList_append_row2 (w:World) {ops:Array Oper} {rest:List Oper} {o:Oper} {ac:Act} {Q:Exit→Act→World→Prop} (hgd:o.guard=none) (s x:Operand) (t:TypeId)
 (ho:o.op=.call { callee:=.builtin .append,args:=#[s,x],argTypes:=#[t,t] })
 (base:Nat) (e:TypeId) (size bytes:Nat) (ht:P.underlying t=some (.slice e)) (hE:TInfo P e size bytes)
 (a:Option Addr) (n cap:Nat) (xs:List Value) (hs:ac.eval s=.slice a n cap) (hown:OwnRow w base e size a n cap xs)
 (xa:Option Addr) (m c:Nat) (news:List Value) (hx:ac.eval x=.slice xa m c) (hl:news.length=m * size) (hnews:m=0∨∃ ad,xa=some ad∧∀ j u,news[j]? = some u→w.cell? (ad.add j)=some u) (h1:∀ u∈news,u.oneCell'=true)
 (hbytes:(n+m) * bytes≤140737488355328) (hbase:base≤w.heap.size)
 (h:∀ a' cap' w',OwnRow w' base e size a' (n+m) cap' (xs++news)→w.grownBy w' (ownB a cap)→(∀ k,ownB a' cap'=some k→ownB a cap=some k∨k=w.heap.size)→wpList P ops Q rest (ac.put o.dst (.slice a' (n+m) cap')) w'):wpList P ops Q (o :: rest) ac w:=
 wpList_plain hgd fun _ hK=>by
  obtain ⟨i,z,hi,hz,hsize,hby,hzs,hbp⟩:=hE
  have h63:n+m≤maxLen:=by
   have:=Nat.le_mul_of_pos_right (n+m) hbp
   unfold maxLen;omega
  obtain ⟨a',cap',w',hr,h2,h3,h4⟩:=run_append_row2 (P:=P) w base t o.type e i z size bytes ht hi hz hsize hby hzs a n cap xs hown xa m c news hl hnews h1 h63 hbytes hbase
  unfold Oper.wp execOp
  simp only [ho,resolve,invoke,builtin,Sem.run_bind,Sem.run_pure,Result.andThen_ok,List.map_toArray,List.map_cons,List.map_nil,hs,hx,hr]
  exact hK _ _ (h a' cap' w' h2 h3 h4)
theorem wpList_append_new2 {wb:World} {ops:Array Oper} {rest:List Oper} {o:Oper} {ac:Act} {Q:Exit→Act→World→Prop} {e' : TypeId} (hgd:o.guard=none) (s x:Operand) (t:TypeId)
 (ho:o.op=.call { callee:=.builtin .append,args:=#[s,x],argTypes:=#[t,t] })
 (base:Nat) (e:TypeId) (size bytes:Nat) (ht:P.underlying t=some (.slice e)) (hE:TInfo P e size bytes)
 (a:Option Addr) (n cap:Nat) (xs:List Value) (hs:ac.eval s=.slice a n cap) (hown:OwnRow wb base e size a n cap xs)
 (m c:Nat) (news:List Value) (hx:ac.eval x=.slice (some ⟨wb.heap.size,0,none⟩) m c) (hl:news.length=m * size) (h1:∀ u∈news,u.oneCell'=true)
 (hbytes:(n+m) * bytes≤140737488355328) (hbase:base≤wb.heap.size)
 (h:∀ a' cap' w',OwnRow w' base e size a' (n+m) cap' (xs++news)→Below base wb w'→wb.heap.size < w'.heap.size→wb.grownBy w' (ownB a cap)→(∀ k,ownB a' cap'=some k→ownB a cap=some k∨wb.heap.size≤k)→wpList P ops Q rest (ac.put o.dst (.slice a' (n+m) cap')) w'):wpList P ops Q (o :: rest) ac (wb.alloc (.cells news.toArray e')):=
 wpList_append_row2 (wb.alloc (.cells news.toArray e')) hgd s x t ho base e size bytes ht hE a n cap xs hs (hown.alloc _) (some ⟨wb.heap.size,0,none⟩) m c news hx hl
  (.inr ⟨_,rfl,fun j u hu=>by rw [Addr.add_lit,Nat.zero_add,World.cell?_alloc_new];simpa using hu⟩) h1 hbytes (by simp;omega)
  fun a' cap' w' h2 h3 h4=>h a' cap' w' h2 (((Below.refl _ _).alloc hbase _).grown h3 (by simp;omega) fun k hk=>(hown.base_le k hk).1) (by have:=h3.size;simp at this;omega)
   ⟨h3.os,h3.tape,h3.output,by have:=h3.size;simp at this;omega,fun k hk hne=>(h3.block k (by simp;omega) hne).trans (Below.heap_alloc _ _ _ hk)⟩ (fun k hk=>by rcases h4 k hk with h | h;exact .inl h;exact .inr (by simp at h;omega))
theorem step_known {w w' : World} {ops:Array Oper} {o:Oper} {ac:Act} {K:Act→World→Prop} {Q:Exit→Act→World→Prop} {E:Prop} {t:TypeId} {vs vx v:Value} (hr:(Builtin.append_ #[t,t] o.type #[vs,vx]).run P w=.ok v w') (hgd:o.guard=none) (s x:Operand)
 (ho:o.op=.call { callee:=.builtin .append,args:=#[s,x],argTypes:=#[t,t] }) (hs:ac.eval s=vs) (hx:ac.eval x=vx) (hK:K (ac.put o.dst v) w') :
 if Region.wanted o (yielded ops ac.tmps)=true then Oper.wp P o ac w K Q else E:=by
 have hw:Region.wanted o (yielded ops ac.tmps)=true:=by simp [Region.wanted,hgd]
 rw [if_pos hw]
 unfold Oper.wp execOp
 simp only [ho,resolve,invoke,builtin,Sem.run_bind,Sem.run_pure,Result.andThen_ok,List.map_toArray,List.map_cons,List.map_nil,hs,hx,hr]
 exact hK
end
end Go.Proofs.YtneoeokfffnonaaGreatDoor
set_option linter.unusedVariables false
set_option linter.unusedSimpArgs false
namespace Go.Proofs.YtneoeokfffnonaaGreatDoor
open Go.RowKit
structure Bx (p:Prop):Prop where
 out:p
section
variable {P:Program} {ops:Array Oper} {cuts H l:List Nat} {Q:Act→World→Prop} {a:Act} {w:World} {k:Nat} {o:Oper}
theorem wp_region_x {id:Nat} {Q:Exit→Act→World→Prop} {a:Act} {w:World} {ops:Array Oper} (cuts H ord:List Nat) (hm:P.follows .mixedOrders=true) (hB:mixHB .any ops cuts H ord=true)
 (h:Bx (wpMixH P ops cuts H (fun a' w'=>Q .normal a' w') ord a w)):(Code.region id ops true).wp P Q a w:=wp_region_mixh cuts H ord hm hB h.out
theorem wpX_nil (h:∀ w',Later w w'→Q a w'):Bx (wpMixH P ops cuts H Q [] a w):=⟨wpMixH_nil h⟩
theorem wpX_step (ho:ops[k]? = some o) (h:∀ K:Act→World→Prop,(∀ a w,Bx (wpMixH P ops cuts H Q l a w)→K a w)→
 if Region.wanted o (yielded ops a.tmps) then
  (if H.contains k then ∀ p:Lt w,Oper.hardUpon P o a p.v K ((execOp a.eval o).run P p.v)
   else if cuts.contains k then ∀ p:Lt w,Oper.mixUpon P o a p.v K ((execOp a.eval o).run P p.v)
   else ∃ v,(∀ p:Lt w,o.quietAt P a (fun w''=>∃ q:Lt p.v,w''=q.v) p.v v)∧K (a.put o.dst v) w)
 else K (a.put o.dst undef) w):Bx (wpMixH P ops cuts H Q (k :: l) a w):=⟨wpMixH_step ho fun K hK=>h K fun a w hh=>hK a w hh.out⟩
end
end Go.Proofs.YtneoeokfffnonaaGreatDoor
