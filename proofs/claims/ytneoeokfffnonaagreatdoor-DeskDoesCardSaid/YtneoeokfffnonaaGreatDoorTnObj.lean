/- A town in memory: the book, the Scribes, and what a step of one of them does to all. -/
import Derived.Test.YtneoeokfffnonaaGreatDoorBookW
import Derived.Test.YtneoeokfffnonaaGreatDoorRmObj
set_option linter.unusedVariables false
set_option linter.unusedSimpArgs false
namespace Go.Proofs.YtneoeokfffnonaaGreatDoor
open Go.RowKit
structure TnRows (w:World) (base:Nat) (F:Nat→Prop) (g gl:Nat) (FL:Nat→Prop) (gw:Nat→Nat) (FW:Nat→Nat→Prop) (d:DkM):Prop where
 c0:w.cell? ⟨g,0,none⟩=some (.pointer (some ⟨gl,0,none⟩))
 log:BookAt w base FL gl d.lm
 fl:∀ k,FL k→F k∧k≠g
 no:∀ j,j < 4→d.W j=none→w.cell? ⟨g,1+j,none⟩=some (.pointer none)
 wr:∀ j,j < 4→∀ m,d.W j=some m→w.cell? ⟨g,1+j,none⟩=some (.pointer (some ⟨(gw j),0,none⟩))∧ScrAt w base (FW j) (gw j) m.sc
 fw:∀ j,j < 4→∀ m,d.W j=some m→∀ k,FW j k→F k∧k≠g∧¬ FL k
 apart:∀ i j,i < 4→j < 4→i≠j→∀ m m',d.W i=some m→d.W j=some m'→∀ k,FW i k→¬ FW j k
structure TnAt (w:World) (base:Nat) (F:Nat→Prop) (g:Nat) (gw:Nat→Nat) (d:DkM):Prop where
 lt:g < w.heap.size
 fg:F g
 foot:∀ k,F k→base≤k∧k < w.heap.size
 fz:∀ o,o < 5→w.frozen? ⟨g,o,none⟩=false
 rows:∃ gl FL FW,TnRows w base F g gl FL gw FW d
section
variable {w w' : World} {base:Nat} {F:Nat→Prop} {g:Nat} {d:DkM} {gl:Nat} {FL:Nat→Prop} {gw:Nat→Nat} {FW:Nat→Nat→Prop}
theorem TnAt.base_le (h:TnAt w base F g gw d):base≤w.heap.size:=by have:=h.foot g h.fg;omega
theorem TnAt.moves (h:TnAt w base F g gw d) {G:Nat→Prop} (hm:Moves G w w') (hd:∀ k,F k→¬ G k):TnAt w' base F g gw d:=by
 have hc:∀ o,w'.cell? ⟨g,o,none⟩=w.cell? ⟨g,o,none⟩:=fun o=>hm.cell h.lt (hd g h.fg) o
 obtain ⟨gl,FL,FW,r⟩:=h.rows
 exact ⟨Nat.lt_of_lt_of_le h.lt hm.size,h.fg,fun k hk=>⟨(h.foot k hk).1,Nat.lt_of_lt_of_le (h.foot k hk).2 hm.size⟩,fun o ho=>(hm.frozen h.lt (hd g h.fg) o).trans (h.fz o ho),
  gl,FL,FW,⟨(hc _).trans r.c0,r.log.moves hm fun k hk=>hd k (r.fl k hk).1,r.fl,fun j hj e=>(hc _).trans (r.no j hj e),
   fun j hj m e=>⟨(hc _).trans (r.wr j hj m e).1,(r.wr j hj m e).2.moves hm fun k hk=>hd k (r.fw j hj m e k hk).1⟩,r.fw,r.apart⟩⟩
theorem TnAt.later (h:TnAt w base F g gw d) (hl:Below w.heap.size w w'):TnAt w' base F g gw d:=by
 have hb:Moves (fun k=>w.heap.size≤k) w w':=Moves.of_below hl
 exact h.moves hb fun k hk=>by have:=(h.foot k hk).2;omega
theorem TnAt.drew (h:TnAt w base F g gw d):TnAt w.drew base F g gw d:=h.moves (G:=fun _=>False) ⟨rfl,rfl,rfl,Nat.le_refl _,fun _ _ _=>rfl⟩ (fun _ _ h=>h)
theorem TnAt.below (h:TnAt w base F g gw d) (hm:Moves F w w'):Below base w w':=hm.below (fun k hk=>(h.foot k hk).1) h.base_le
theorem TnAt.above {A:Nat} (h:TnAt w base F g gw d) (hb:Below A w w') (hF:∀ k,F k→k < A):TnAt w' base F g gw d:=
 h.moves (G:=fun k=>A≤k) ⟨hb.os,hb.tape,hb.output,hb.size,fun k _ hn=>hb.block k (by omega)⟩ (fun k h1 h2=>by have:=hF k h1;omega)
theorem TnAt.congr {d' : DkM} (h:TnAt w base F g gw d) (e:d=d'):TnAt w base F g gw d':=e ▸ h
theorem TnRows.moveL (h:TnAt w base F g gw d) (r:TnRows w base F g gl FL gw FW d) (lm' : LogM) (FL' : Nat→Prop) (hm:Moves FL w w') (hl:BookAt w' base FL' gl lm') (hg:Grows FL w FL') :
 TnAt w' base (fun k=>F k∨FL' k) g gw (d.setL lm')∧TnRows w' base (fun k=>F k∨FL' k) g gl FL' gw FW (d.setL lm')∧Moves F w w'∧Grows F w (fun k=>F k∨FL' k):=by
 have hgn:¬ FL g:=fun e=>(r.fl g e).2 rfl
 have hc:∀ o,w'.cell? ⟨g,o,none⟩=w.cell? ⟨g,o,none⟩:=fun o=>hm.cell h.lt hgn o
 have hne:∀ k,FL' k→k≠g:=fun k hk e=>by
  rcases hg k hk with h1 | h1
  ·exact (r.fl k h1).2 e
  ·have:=h.lt;omega
 have hR:TnRows w' base (fun k=>F k∨FL' k) g gl FL' gw FW (d.setL lm'):=by
  refine ⟨(hc _).trans r.c0,hl,fun k hk=>⟨.inr hk,hne k hk⟩,fun j hj e=>(hc _).trans (r.no j hj e),fun j hj m e=>⟨(hc _).trans (r.wr j hj m e).1,(r.wr j hj m e).2.moves hm fun k hk=>(r.fw j hj m e k hk).2.2⟩,
   fun j hj m e k hk=>⟨.inl (r.fw j hj m e k hk).1,(r.fw j hj m e k hk).2.1,fun hk'=>?_⟩,r.apart⟩
  rcases hg k hk' with h1 | h1
  ·exact (r.fw j hj m e k hk).2.2 h1
  ·have:=(h.foot k (r.fw j hj m e k hk).1).2;omega
 refine ⟨⟨Nat.lt_of_lt_of_le h.lt hm.size,.inl h.fg,fun k hk=>?_,fun o ho=>(hm.frozen h.lt hgn o).trans (h.fz o ho),gl,FL',FW,hR⟩,hR,⟨hm.os,hm.tape,hm.output,hm.size,fun k hk hn=>hm.block k hk fun e=>hn (r.fl k e).1⟩,fun k hk=>?_⟩
 ·rcases hk with hk | hk
  ·exact ⟨(h.foot k hk).1,Nat.lt_of_lt_of_le (h.foot k hk).2 hm.size⟩
  ·exact hl.foot k hk
 ·rcases hk with hk | hk
  ·exact .inl hk
  ·rcases hg k hk with h1 | h1
   ·exact .inl (r.fl k h1).1
   ·exact .inr h1
theorem TnRows.moveW (h:TnAt w base F g gw d) (r:TnRows w base F g gl FL gw FW d) {j:Nat} (hj:j < 4) {m:WM} (hjm:d.W j=some m) (m' : WM) (F' : Nat→Prop) (hm:Moves (FW j) w w') (hw:ScrAt w' base F' (gw j) m'.sc) (hg:Grows (FW j) w F') :
 TnAt w' base (fun k=>F k∨F' k) g gw (d.setW j (some m'))∧TnRows w' base (fun k=>F k∨F' k) g gl FL gw (fun i=>if i=j then F' else FW i) (d.setW j (some m'))∧Moves F w w'∧Grows F w (fun k=>F k∨F' k):=by
 have hfw:=r.fw j hj m hjm
 have hgn:¬ FW j g:=fun e=>(hfw g e).2.1 rfl
 have hc:∀ o,w'.cell? ⟨g,o,none⟩=w.cell? ⟨g,o,none⟩:=fun o=>hm.cell h.lt hgn o
 have hold:∀ k,F' k→FW j k∨w.heap.size≤k:=hg
 have hR:TnRows w' base (fun k=>F k∨F' k) g gl FL gw (fun i=>if i=j then F' else FW i) (d.setW j (some m')):=by
  refine ⟨(hc _).trans r.c0,r.log.moves hm fun k hk e=>(hfw k e).2.2 hk,fun k hk=>⟨.inl (r.fl k hk).1,(r.fl k hk).2⟩,fun i hi e=>?_,fun i hi n e=>?_,fun i hi n e k hk=>?_,fun a b ha hb hab x y ex ey k hk hk'=>?_⟩
  ·simp only [DkM.setW] at e
   split at e
   ·cases e
   ·exact (hc _).trans (r.no i hi e)
  ·simp only [DkM.setW] at e
   by_cases hij:i=j
   ·subst hij;rw [if_pos rfl] at e;cases e
    simp only [if_pos]
    exact ⟨(hc _).trans (r.wr i hi m hjm).1,hw⟩
   ·rw [if_neg hij] at e ⊢
    exact ⟨(hc _).trans (r.wr i hi n e).1,(r.wr i hi n e).2.moves hm fun k hk hk'=>r.apart i j hi hj hij n m e hjm k hk hk'⟩
  ·simp only [DkM.setW] at e
   by_cases hij:i=j
   ·subst hij;simp only [if_pos] at hk
    rcases hold k hk with h1 | h1
    ·exact ⟨.inl (hfw k h1).1,(hfw k h1).2⟩
    ·exact ⟨.inr hk,fun e=>by have:=h.lt;omega,fun e=>by have:=(r.log.foot k e).2;omega⟩
   ·rw [if_neg hij] at e hk
    exact ⟨.inl (r.fw i hi n e k hk).1,(r.fw i hi n e k hk).2⟩
  ·simp only [DkM.setW] at ex ey
   have fresh:∀ i,i < 4→i≠j→∀ n,d.W i=some n→∀ k,FW i k→¬ F' k:=fun i hi hij n en k hk hk'=>by
    rcases hold k hk' with h1 | h1
    ·exact r.apart i j hi hj hij n m en hjm k hk h1
    ·have:=(h.foot k (r.fw i hi n en k hk).1).2;omega
   by_cases haj:a=j
   ·by_cases hbj:b=j
    ·omega
    ·rw [if_neg hbj] at ey hk';rw [if_pos haj] at hk
     exact fresh b hb hbj y ey k hk' hk
   ·rw [if_neg haj] at ex hk
    by_cases hbj:b=j
    ·rw [if_pos hbj] at hk';exact fresh a ha haj x ex k hk hk'
    ·rw [if_neg hbj] at ey hk';exact r.apart a b ha hb hab x y ex ey k hk hk'
 refine ⟨⟨Nat.lt_of_lt_of_le h.lt hm.size,.inl h.fg,fun k hk=>?_,fun o ho=>(hm.frozen h.lt hgn o).trans (h.fz o ho),gl,FL,_,hR⟩,hR,⟨hm.os,hm.tape,hm.output,hm.size,fun k hk hn=>hm.block k hk fun e=>hn (hfw k e).1⟩,fun k hk=>?_⟩
 ·rcases hk with hk | hk
  ·exact ⟨(h.foot k hk).1,Nat.lt_of_lt_of_le (h.foot k hk).2 hm.size⟩
  ·exact hw.foot k hk
 ·rcases hk with hk | hk
  ·exact .inl hk
  ·rcases hold k hk with h1 | h1
   ·exact .inl (hfw k h1).1
   ·exact .inr h1
theorem TnAt.goneW (h:TnAt w base F g gw d) {j:Nat} (hj:j < 4):TnAt (w.setCell ⟨g,1+j,none⟩ (.pointer none)) base F g gw (d.setW j none)∧Moves F w (w.setCell ⟨g,1+j,none⟩ (.pointer none)):=by
 obtain ⟨gl,FL,FW,r⟩:=h.rows
 have hm:Moves (fun k=>k=g) w (w.setCell ⟨g,1+j,none⟩ (.pointer none)):=Moves.setCell _ _ _ rfl
 have ho:∀ o,o≠1+j→(w.setCell ⟨g,1+j,none⟩ (.pointer none)).cell? ⟨g,o,none⟩=w.cell? ⟨g,o,none⟩:=fun o ho=>World.cell?_setCell_other _ _ _ _ (fun e=>ho (by cases e;rfl))
 have hcell:∃ v,w.cell? ⟨g,1+j,none⟩=some v:=by
  cases e:d.W j with
  | none=>exact ⟨_,r.no j hj e⟩
  | some m=>exact ⟨_,(r.wr j hj m e).1⟩
 obtain ⟨v,hv⟩:=hcell
 refine ⟨⟨by simpa using h.lt,h.fg,fun k hk=>⟨(h.foot k hk).1,by simpa using (h.foot k hk).2⟩,fun o ho=>by rw [World.frozen?_setCell];exact h.fz o ho,gl,FL,FW,⟨(ho 0 (by omega)).trans r.c0,r.log.moves hm fun k hk=>(r.fl k hk).2,r.fl,fun i hi e=>?_,fun i hi n e=>?_,fun i hi n e=>?_,fun a b ha hb hab x y ex ey=>?_⟩⟩,Moves.setCell _ _ _ h.fg⟩
 ·simp only [DkM.setW] at e
  by_cases hij:i=j
  ·subst hij;exact World.cell?_setCell_same _ _ _ hv
  ·rw [if_neg hij] at e;exact (ho _ (by omega)).trans (r.no i hi e)
 all_goals simp only [DkM.setW] at *
 ·split at e
  ·cases e
  ·exact ⟨(ho _ (by omega)).trans (r.wr i hi n e).1,(r.wr i hi n e).2.moves hm fun k hk=>(r.fw i hi n e k hk).2.1⟩
 ·split at e
  ·cases e
  ·exact r.fw i hi n e
 ·split at ex
  ·cases ex
  ·split at ey
   ·cases ey
   ·exact r.apart a b ha hb hab x y ex ey
theorem TnAt.comeW (h:TnAt w base F g gw d) {w1:World} {j:Nat} (hj:j < 4) (hb:Below w.heap.size w w1) {g2:Nat} {F2:Nat→Prop} {m:WM} (hw:ScrAt w1 w.heap.size F2 g2 m.sc) :
 TnAt (w1.setCell ⟨g,1+j,none⟩ (.pointer (some ⟨g2,0,none⟩))) base (fun k=>F k∨F2 k) g (fun i=>if i=j then g2 else gw i) (d.setW j (some m))∧Moves F w (w1.setCell ⟨g,1+j,none⟩ (.pointer (some ⟨g2,0,none⟩)))∧Grows F w (fun k=>F k∨F2 k):=by
 have h1:=h.later hb
 obtain ⟨gl,FL,FW,r⟩:=h1.rows
 have hm:Moves (fun k=>k=g) w1 (w1.setCell ⟨g,1+j,none⟩ (.pointer (some ⟨g2,0,none⟩))):=Moves.setCell _ _ _ rfl
 have ho:∀ o,o≠1+j→(w1.setCell ⟨g,1+j,none⟩ (.pointer (some ⟨g2,0,none⟩))).cell? ⟨g,o,none⟩=w1.cell? ⟨g,o,none⟩:=fun o ho=>World.cell?_setCell_other _ _ _ _ (fun e=>ho (by cases e;rfl))
 have hnew:∀ k,F2 k→¬ F k:=fun k hk e=>by have:=(hw.foot k hk).1;have:=(h.foot k e).2;omega
 have hg2:∀ k,F2 k→k≠g:=fun k hk e=>hnew k hk (e ▸ h.fg)
 obtain ⟨v,hv⟩:∃ v,w1.cell? ⟨g,1+j,none⟩=some v:=by
  cases e:d.W j with
  | none=>exact ⟨_,r.no j hj e⟩
  | some m=>exact ⟨_,(r.wr j hj m e).1⟩
 refine ⟨⟨by simpa using h1.lt,.inl h.fg,fun k hk=>?_,fun o ho=>by rw [World.frozen?_setCell];exact h1.fz o ho,gl,FL,fun i=>if i=j then F2 else FW i,
  ⟨(ho 0 (by omega)).trans r.c0,r.log.moves hm fun k hk=>(r.fl k hk).2,fun k hk=>⟨.inl (r.fl k hk).1,(r.fl k hk).2⟩,fun i hi e=>?_,fun i hi n e=>?_,fun i hi n e k hk=>?_,fun a b ha hb' hab x y ex ey k hk hk'=>?_⟩⟩,
  (Moves.of_below (F:=F) hb).trans (Moves.setCell w1 ⟨g,1+j,none⟩ (.pointer (some ⟨g2,0,none⟩)) h.fg) (fun _ _ k=>k),fun k hk=>?_⟩
 ·simp only [World.size_setCell]
  rcases hk with hk | hk
  ·exact h1.foot k hk
  ·exact ⟨Nat.le_trans h.base_le (hw.foot k hk).1,(hw.foot k hk).2⟩
 ·simp only [DkM.setW] at e
  split at e
  ·cases e
  ·exact (ho _ (by omega)).trans (r.no i hi e)
 ·simp only [DkM.setW] at e
  by_cases hij:i=j
  ·subst hij;rw [if_pos rfl] at e;cases e
   simp only [if_pos]
   exact ⟨World.cell?_setCell_same _ _ _ hv,(hw.mono h.base_le).moves hm fun k hk=>hg2 k hk⟩
  ·rw [if_neg hij] at e;simp only [if_neg hij]
   exact ⟨(ho _ (by omega)).trans (r.wr i hi n e).1,(r.wr i hi n e).2.moves hm fun k hk=>(r.fw i hi n e k hk).2.1⟩
 ·simp only [DkM.setW] at e
  by_cases hij:i=j
  ·simp only [if_pos hij] at hk
   exact ⟨.inr hk,hg2 k hk,fun e=>hnew k hk (r.fl k e).1⟩
  ·rw [if_neg hij] at e hk
   exact ⟨.inl (r.fw i hi n e k hk).1,(r.fw i hi n e k hk).2⟩
 ·simp only [DkM.setW] at ex ey
  by_cases haj:a=j
  ·by_cases hbj:b=j
   ·omega
   ·rw [if_neg hbj] at ey hk';rw [if_pos haj] at hk
    exact hnew k hk (r.fw b hb' y ey k hk').1
  ·rw [if_neg haj] at ex hk
   by_cases hbj:b=j
   ·rw [if_pos hbj] at hk';exact hnew k hk' (r.fw a ha x ex k hk).1
   ·rw [if_neg hbj] at ey hk';exact r.apart a b ha hb' hab x y ex ey k hk hk'
 ·rcases hk with hk | hk
  ·exact .inl hk
  ·exact .inr (hw.foot k hk).1
theorem TnAt.newG {FL:Nat→Prop} {gl:Nat} (gw:Nat→Nat) (h:BookAt w base FL gl LogM.new) (vs:Array Value) (ty:TypeId) (h0:vs[0]? = some (.pointer (some ⟨gl,0,none⟩))) (hn:∀ j,j < 4→vs[1+j]? = some (.pointer none)) :
 TnAt (w.alloc (.cells vs ty)) base (fun k=>k=w.heap.size∨FL k) w.heap.size gw DkM.new:=by
 have hb:=(Below.refl w.heap.size w).alloc (Nat.le_refl _) (.cells vs ty)
 have hbl:=h.foot gl h.fg
 refine ⟨by simp,.inl rfl,fun k hk=>?_,fun o ho=>World.frozen?_alloc_new _ _ _ _,gl,FL,fun _ _=>False,⟨(World.cell?_alloc_new _ _ _ _).trans h0,h.later hb,fun k hk=>⟨.inr hk,fun e=>by have:=h.foot k hk;omega⟩,fun j hj _=>(World.cell?_alloc_new _ _ _ _).trans (hn j hj),fun j hj m e=>(by cases e),fun j hj m e=>(by cases e),fun i j _ _ _ m m' e=>(by cases e)⟩⟩
 simp only [World.size_alloc]
 rcases hk with rfl | hk
 ·omega
 ·have:=h.foot k hk;omega
end
theorem TnAt.wrZ {w:World} {base:Nat} {F:Nat→Prop} {g:Nat} {gw:Nat→Nat} {d:DkM} (h:TnAt w base F g gw d) {j:Nat} (hj:j < 4) {m:WM} (hjm:d.W j=some m) :
 ∃ FW:Nat→Prop,(∀ k,FW k→F k∧k≠g)∧w.cell? ⟨g,1+j,none⟩=some (.pointer (some ⟨(gw j),0,none⟩))∧ScrAt w base FW (gw j) m.sc∧
  ∀ (w' : World) (F' : Nat→Prop) (m' : WM),Moves FW w w'→ScrAt w' base F' (gw j) m'.sc→Grows FW w F'→TnAt w' base (fun k=>F k∨F' k) g gw (d.setW j (some m'))∧Moves F w w'∧Grows F w (fun k=>F k∨F' k):=by
 obtain ⟨gl,FL,FW,r⟩:=h.rows
 refine ⟨FW j,fun k hk=>⟨(r.fw j hj m hjm k hk).1,(r.fw j hj m hjm k hk).2.1⟩,(r.wr j hj m hjm).1,(r.wr j hj m hjm).2,fun w' F' m' hm hw hg=>?_⟩
 have:=r.moveW h hj hjm m' F' hm hw hg
 exact ⟨this.1,this.2.2⟩
theorem TnAt.logZ {w:World} {base:Nat} {F:Nat→Prop} {g:Nat} {gw:Nat→Nat} {d:DkM} (h:TnAt w base F g gw d) :
 ∃ (gl:Nat) (FL:Nat→Prop),(∀ k,FL k→F k∧k≠g)∧w.cell? ⟨g,0,none⟩=some (.pointer (some ⟨gl,0,none⟩))∧BookAt w base FL gl d.lm∧
  ∀ (w' : World) (F' : Nat→Prop) (lm' : LogM),Moves FL w w'→BookAt w' base F' gl lm'→Grows FL w F'→TnAt w' base (fun k=>F k∨F' k) g gw (d.setL lm')∧Moves F w w'∧Grows F w (fun k=>F k∨F' k):=by
 obtain ⟨gl,FL,FW,r⟩:=h.rows
 refine ⟨gl,FL,r.fl,r.c0,r.log,fun w' F' lm' hm hw hg=>?_⟩
 have:=r.moveL h lm' F' hm hw hg
 exact ⟨this.1,this.2.2⟩
theorem TnRows.cellW {w:World} {base:Nat} {F:Nat→Prop} {g gl:Nat} {FL:Nat→Prop} {gw:Nat→Nat} {FW:Nat→Nat→Prop} {d:DkM} (r:TnRows w base F g gl FL gw FW d) (j:Nat) (hj:j < 4):w.cell? ⟨g,1+j,none⟩=some (d.ptrN gw j):=by
 unfold DkM.ptrN
 cases e:d.W j with
 | none=>exact r.no j hj e
 | some m=>exact (r.wr j hj m e).1
end Go.Proofs.YtneoeokfffnonaaGreatDoor
