/- Lines of deeds: words, numbers, there and back. No program in sight. -/
import Derived.Test.YtneoeokfffnonaaGreatDoorMixX
import Derived.Lib.AtoiAll
import Derived.Lib.ItoaNum
import Derived.Lib.Split
import Derived.Lib.Join
import Derived.Lib.SplitLaws
import Derived.Lib.ItoaLen
set_option linter.unusedVariables false
set_option linter.unusedSimpArgs false
namespace Go.Proofs.YtneoeokfffnonaaGreatDoor
open Go.RowKit Go
abbrev Str:=List UInt8
def numOf (s:Str):Option Int:=match Lib.atoiAll s with
 | .ok v=>if Lib.itoa v=s then some v else none
 | _=>none
def wordF:Str→Option (Str × Str)
 | []=>none
 | c :: l=>if c=32 then some ([],l) else (wordF l).map fun p=>(c :: p.1,p.2)
theorem wordF_some:∀ {s a r:Str},wordF s=some (a,r)→s=a++32 :: r∧∀ c∈a,c≠32:=by
 intro s
 induction s with
 | nil=>intro a r h;cases h
 | cons c l ih=>
  intro a r h
  unfold wordF at h
  split at h
  ·cases h;rename_i e;exact ⟨by rw [e];rfl,fun c hc=>by cases hc⟩
  ·rename_i e
   cases hw:wordF l with
   | none=>rw [hw] at h;cases h
   | some p=>
    obtain ⟨a',r'⟩:=p
    rw [hw] at h
    simp only [Option.map_some,Option.some.injEq,Prod.mk.injEq] at h
    obtain ⟨rfl,rfl⟩:=h
    obtain ⟨h1,h2⟩:=ih hw
    refine ⟨by rw [h1];rfl,fun x hx=>?_⟩
    rcases List.mem_cons.1 hx with rfl | hx
    ·exact e
    ·exact h2 x hx
theorem wordF_none:∀ {s:Str},wordF s=none→∀ c∈s,c≠32:=by
 intro s
 induction s with
 | nil=>intro _ c hc;cases hc
 | cons c l ih=>
  intro h x hx
  unfold wordF at h
  split at h
  ·cases h
  ·rename_i e
   rcases List.mem_cons.1 hx with rfl | hx
   ·exact e
   ·exact ih (by cases hw:wordF l with | none=>rfl | some p=>rw [hw] at h;cases h) x hx
def wordsF:Nat→Str→Option (List Str × Str)
 | 0,s=>some ([],s)
 | n+1,s=>match wordF s with
  | none=>none
  | some p=>(wordsF n p.2).map fun q=>(p.1 :: q.1,q.2)
theorem index_word (s:Str):(wordF s=none∧Lib.index s [32]=-1)∨∃ a r,wordF s=some (a,r)∧Lib.index s [32]=(a.length:Int):=by
 induction s with
 | nil=>exact .inl ⟨rfl,rfl⟩
 | cons c l ih=>
  unfold wordF Lib.index
  have hp:(List.isPrefixOf [(32:UInt8)] (c :: l))=((32:UInt8)==c):=by simp [List.isPrefixOf]
  rw [hp]
  by_cases e:c=32
  ·subst e
   exact .inr ⟨[],l,by rw [if_pos rfl],by simp⟩
  ·have e2:((32:UInt8)==c)=false:=by simpa using fun h=>e h.symm
   rw [if_neg e,e2]
   rcases ih with ⟨h1,h2⟩ | ⟨a,r,h1,h2⟩
   ·exact .inl ⟨by rw [h1];rfl,by rw [h2];rfl⟩
   ·refine .inr ⟨c :: a,r,by rw [h1];rfl,?_⟩
    have:((a.length:Int)==-1)=false:=by rw [beq_eq_false_iff_ne];omega
    rw [h2]
    simp [this]
theorem splitK_words:∀ (k:Nat) (s:Str),(∃ ws r,wordsF k s=some (ws,r)∧Lib.splitK [32] 0 k s=ws++[r]∧ws.length=k)∨(wordsF k s=none∧(Lib.splitK [32] 0 k s).length≤k):=by
 intro k
 induction k with
 | zero=>intro s;exact .inl ⟨[],s,rfl,rfl,rfl⟩
 | succ k ih=>
  intro s
  unfold wordsF Lib.splitK
  rcases index_word s with ⟨h1,h2⟩ | ⟨a,r,h1,h2⟩
  ·right
   rw [h1,h2]
   exact ⟨rfl,by simp⟩
  ·rw [h1,h2]
   have hne:((a.length:Int)==-1)=false:=by rw [beq_eq_false_iff_ne];omega
   obtain ⟨e,_⟩:=wordF_some h1
   have ht:s.take ((a.length:Int).toNat+0)=a:=by rw [e];simp
   have hd:s.drop ((a.length:Int).toNat+[(32:UInt8)].length)=r:=by rw [e];simp
   rw [hne,ht,hd]
   simp only [Bool.false_eq_true,if_false]
   rcases ih r with ⟨ws,r',k1,k2,k3⟩ | ⟨k1,k2⟩
   ·exact .inl ⟨a :: ws,r',by rw [k1];rfl,by rw [k2];rfl,by simp [k3]⟩
   ·exact .inr ⟨by rw [k1];rfl,by simp;omega⟩
theorem wordsF_len:∀ (k:Nat) (s:Str) (ws:List Str) (r:Str),wordsF k s=some (ws,r)→k≤s.length∧ws.length=k:=by
 intro k
 induction k with
 | zero=>intro s ws r h;cases h;exact ⟨Nat.zero_le _,rfl⟩
 | succ k ih=>
  intro s ws r h
  unfold wordsF at h
  cases hw:wordF s with
  | none=>rw [hw] at h;cases h
  | some p=>
   obtain ⟨a,r'⟩:=p
   rw [hw] at h
   simp only at h
   cases h2:wordsF k r' with
   | none=>rw [h2] at h;cases h
   | some q=>
    obtain ⟨ws',r2⟩:=q
    rw [h2] at h
    simp only [Option.map_some,Option.some.injEq,Prod.mk.injEq] at h
    obtain ⟨rfl,rfl⟩:=h
    obtain ⟨k1,k2⟩:=ih _ _ _ h2
    obtain ⟨e,_⟩:=wordF_some hw
    have:=congrArg List.length e
    simp at this
    exact ⟨by omega,by simp [k2]⟩
theorem splitN_words (n:Nat) (s:Str):(∃ ws r,wordsF n s=some (ws,r)∧Lib.splitN s [32] (n+1)=ws++[r]∧ws.length=n)∨(wordsF n s=none∧(Lib.splitN s [32] (n+1)).length≤n):=by
 unfold Lib.splitN
 by_cases h:n≤s.length
 ·rw [show min (n+1) (s.length+1) - 1=n by omega]
  exact splitK_words n s
 ·rw [show min (n+1) (s.length+1) - 1=s.length by omega]
  right
  refine ⟨?_,?_⟩
  ·cases hw:wordsF n s with
   | none=>rfl
   | some p=>have:=(wordsF_len n s p.1 p.2 hw).1;omega
  ·rcases splitK_words s.length s with ⟨ws,r,_,k2,k3⟩ | ⟨_,k2⟩
   ·rw [k2];simp;omega
   ·omega
theorem itoa_nat (n:Int) (h:0≤n):Lib.itoa n=Lib.decDigits n.toNat:=by unfold Lib.itoa;rw [if_neg (by omega)]
def putB:Str:=[112,117,116]
def takeB:Str:=[116,97,107,101]
def kindB (d:Dd):Str:=if d.Kind=2 then takeB else putB
def lastB (d:Dd):Str:=if d.Kind=2 then Lib.itoa d.Many else d.Text.data.toList
def lineB (d:Dd):Str:=kindB d++32 :: (Lib.itoa d.By++32 :: (Lib.itoa d.No++32 :: (Lib.itoa d.Seen++32 :: (Lib.itoa d.At++32 :: lastB d))))
def lineF (d:Dd):Str × Int:=if deedFault d=0 then (lineB d,0) else ([],deedFault d)
theorem join_line (d:Dd):Lib.join [kindB d,Lib.itoa d.By,Lib.itoa d.No,Lib.itoa d.Seen,Lib.itoa d.At,lastB d] [32]=lineB d:=by
 rw [Lib.join_cons];simp [Lib.joinTail,lineB]
theorem fault_facts {d:Dd} (h:deedFault d=0):0≤d.By∧d.By < 4∧0≤d.No∧d.No≤120∧0≤d.Seen∧d.Seen≤120∧0≤d.At∧d.At≤200∧((d.Kind=1∧d.Many=0)∨(d.Kind=2∧1≤d.Many∧d.Many≤200∧d.Text=⟨#[]⟩)):=by
 obtain ⟨h1,h2,h3,h4,h5,h6,h7,h8⟩:=deedFault_zero h
 have hw:0≤d.By∧d.By < 4:=by simp [isWriter] at h1;omega
 refine ⟨hw.1,hw.2,by omega,h3,h4,h5,h6,h7,?_⟩
 rcases h8 with ⟨k1,k2,_⟩ | ⟨k1,k2,k3,k4⟩
 ·exact .inl ⟨k1,k2⟩
 ·refine .inr ⟨k1,k2,k3,?_⟩
  have:d.Text.data.size=0:=k4
  have e:d.Text.data=#[]:=Array.eq_empty_of_size_eq_zero this
  cases hd:d.Text with
  | mk x=>rw [hd] at e;simp only at e;rw [e]
theorem words_eq:∀ (n:Nat) (s:Str) (ws:List Str) (r:Str),wordsF n s=some (ws,r)→s=ws.foldr (fun a t=>a++32 :: t) r:=by
 intro n
 induction n with
 | zero=>intro s ws r h;cases h;rfl
 | succ n ih=>
  intro s ws r h
  unfold wordsF at h
  cases hw:wordF s with
  | none=>rw [hw] at h;cases h
  | some p=>
   obtain ⟨a,r'⟩:=p
   rw [hw] at h
   simp only at h
   cases h2:wordsF n r' with
   | none=>rw [h2] at h;cases h
   | some q=>
    obtain ⟨ws',r2⟩:=q
    rw [h2] at h
    simp only [Option.map_some,Option.some.injEq,Prod.mk.injEq] at h
    obtain ⟨rfl,rfl⟩:=h
    rw [(wordF_some hw).1]
    show _=a++32 :: _
    rw [← ih _ _ _ h2]
theorem line_len {d:Dd} (h:deedFault d=0):(lineB d).length≤200:=by
 obtain ⟨a1,a2,b1,b2,c1,c2,e1,e2,hk⟩:=fault_facts h
 have hn:∀ n:Int,0≤n→n≤999→(Lib.itoa n).length≤3:=fun n h0 h1=>by
  rw [itoa_nat n h0,Lib.decDigits_length]
  have h2:n.toNat < 10 ^ 3:=by omega
  rcases Nat.lt_or_ge n.toNat 10 with h3 | h3
  ·rw [Lib.nDigits_small h3];omega
  ·rcases Nat.lt_or_ge n.toNat 100 with h4 | h4
   ·rw [Lib.nDigits_unique 1 _ (by omega) (by omega)];omega
   ·rw [Lib.nDigits_unique 2 _ (by omega) (by omega)];omega
 have hkb:(kindB d).length≤4:=by unfold kindB;split <;> decide
 have hl:(lastB d).length≤20:=by
  unfold lastB
  split
  ·have:=hn d.Many (by omega) (by omega);omega
  ·rename_i hk2
   rcases (deedFault_zero h).2.2.2.2.2.2.2 with ⟨_,_,k3⟩ | ⟨k1,_⟩
   ·exact (textOk_size k3).2
   ·exact absurd k1 hk2
 have h1:=hn d.By a1 (by omega)
 have h2:=hn d.No b1 (by omega)
 have h3:=hn d.Seen c1 (by omega)
 have h4:=hn d.At e1 (by omega)
 unfold lineB
 simp only [List.length_append,List.length_cons]
 omega
end Go.Proofs.YtneoeokfffnonaaGreatDoor
set_option linter.unusedVariables false
set_option linter.unusedSimpArgs false
namespace Go.Proofs.YtneoeokfffnonaaGreatDoor
open Go.RowKit
def Dist (l:List Ch):Prop:=l.Pairwise fun a b=>key a≠key b
def takenGo (seen by_ lo hi:Int):List Ch→Int→List Ch
 | [],_=>[]
 | c :: l,k=>if c.sees seen by_ then (if lo≤k∧k < hi then c :: takenGo seen by_ lo hi l (k+1) else takenGo seen by_ lo hi l (k+1)) else takenGo seen by_ lo hi l k
def takenOf (l:List Ch) (d:Dd):List Ch:=if d.Kind=2 then takenGo d.Seen d.By d.At (d.At+d.Many) l 0 else []
theorem takenGo_sub (s b lo hi:Int):∀ (l:List Ch) (k:Int),∀ x∈takenGo s b lo hi l k,x∈l∧x.sees s b=true:=by
 intro l
 induction l with
 | nil=>intro k x hx;simp [takenGo] at hx
 | cons c l ih=>
  intro k x hx
  rw [takenGo] at hx
  split at hx
  ·rename_i hs
   split at hx
   ·rcases List.mem_cons.1 hx with rfl | hx
    ·exact ⟨by simp,hs⟩
    ·have:=ih _ x hx;exact ⟨by simp [this.1],this.2⟩
   ·have:=ih _ x hx;exact ⟨by simp [this.1],this.2⟩
  ·have:=ih _ x hx;exact ⟨by simp [this.1],this.2⟩
theorem takenGo_filterMap (s b s' b' lo hi:Int) (f:Ch→Option Ch):∀ (l:List Ch) (k:Int),(∀ c∈l,∀ c',f c=some c'→c'.sees s' b'=c.sees s b∧key c'=key c)→(∀ c∈l,c.sees s b=true→(f c).isSome=true)→
 (takenGo s' b' lo hi (l.filterMap f) k).map key=(takenGo s b lo hi l k).map key:=by
 intro l
 induction l with
 | nil=>intro k _ _;rfl
 | cons c l ih=>
  intro k hp hs
  have ih':=fun k=>ih k (fun x hx=>hp x (by simp [hx])) (fun x hx=>hs x (by simp [hx]))
  rw [List.filterMap_cons]
  cases hf:f c with
  | none=>
   have:¬ c.sees s b=true:=fun h=>by have:=hs c (by simp) h;rw [hf] at this;cases this
   simp only
   rw [ih',takenGo,if_neg this]
  | some c'=>
   obtain ⟨h1,h2⟩:=hp c (by simp) c' hf
   simp only
   rw [takenGo,takenGo,h1]
   split
   ·split
    ·rw [List.map_cons,List.map_cons,h2,ih']
    ·exact ih' _
   ·exact ih' _
theorem taken_bit (s b lo hi:Int) (hb:isWriter b=true):∀ (l:List Ch) (k:Int),Dist l→∀ c∈takeGo s b lo hi 1073741824 l k,key c∈(takenGo s b lo hi l k).map key→took c.Gone b=true:=by
 intro l
 induction l with
 | nil=>intro k _ c hc;simp [takeGo] at hc
 | cons x l ih=>
  intro k hd c hc hk
  obtain ⟨hd1,hd2⟩:=List.pairwise_cons.1 hd
  have hnot:∀ k,key x∉(takenGo s b lo hi l k).map key:=by
   intro k hm
   obtain ⟨y,hy,he⟩:=List.mem_map.1 hm
   exact hd1 y (takenGo_sub s b lo hi l k y hy).1 he.symm
  have hkeys:∀ k,c∈takeGo s b lo hi 1073741824 l k→key c≠key x:=by
   intro k hc he
   have:key c∈(takeGo s b lo hi 1073741824 l k).map key:=List.mem_map_of_mem hc
   rw [takeGo_key] at this
   obtain ⟨y,hy,he2⟩:=List.mem_map.1 this
   exact hd1 y hy (by rw [he2,he])
  rw [takeGo] at hc
  rw [takenGo] at hk
  cases hs:x.sees s b
  ·simp only [hs,Bool.false_eq_true,if_false,List.mem_cons] at hc hk
   rcases hc with rfl | hc
   ·exact absurd hk (hnot _)
   ·exact ih _ hd2 c hc hk
  ·simp only [hs,if_true,List.mem_cons] at hc hk
   by_cases hr:lo≤k∧k < hi
   ·rw [if_pos hr] at hc hk
    rcases hc with rfl | hc
    ·exact took_add_self _ _ hb (sees_took hs)
    ·rw [List.map_cons,List.mem_cons] at hk
     rcases hk with hk | hk
     ·exact absurd hk (hkeys _ hc)
     ·exact ih _ hd2 c hc hk
   ·rw [if_neg hr] at hc hk
    rcases hc with rfl | hc
    ·exact absurd hk (hnot _)
    ·exact ih _ hd2 c hc hk
theorem bitOf_pos (b:Int) (hb:isWriter b=true):1≤bitOf b:=by rcases isWriter_cases hb with rfl | rfl | rfl | rfl <;> simp [bitOf]
def tookOf (l next:List Ch) (d:Dd):List Ch:=if d.Kind=2 then ((l.zip next).filter fun p=>p.2.Gone !=p.1.Gone).map (·.1) else []
theorem tookGo (s b lo hi n:Int) (hb:isWriter b=true):∀ (l:List Ch) (k:Int),((l.zip (takeGo s b lo hi n l k)).filter fun p=>p.2.Gone !=p.1.Gone).map (·.1)=takenGo s b lo hi l k:=by
 have hp:=bitOf_pos b hb
 intro l
 induction l with
 | nil=>intro k;rfl
 | cons c l ih=>
  intro k
  rw [takeGo,takenGo]
  split
  ·rw [List.zip_cons_cons,List.filter_cons]
   split
   ·have:((mark b n c).Gone !=c.Gone)=true:=by
     show (c.Gone+bitOf b !=c.Gone)=true
     simp;omega
    simp only [this,if_true,List.map_cons]
    rw [ih]
   ·simp only [bne_self_eq_false,Bool.false_eq_true,if_false]
    rw [ih]
  ·rw [List.zip_cons_cons,List.filter_cons]
   simp only [bne_self_eq_false,Bool.false_eq_true,if_false]
   rw [ih]
theorem tookOf_ap (l:List Ch) (d:Dd) (n:Int) (hb:isWriter d.By=true):tookOf l (ap l d n) d=takenOf l d:=by
 unfold tookOf takenOf
 split
 ·rename_i h
  unfold ap
  rw [if_neg (by omega)]
  exact tookGo _ _ _ _ _ hb l 0
 ·rfl
def Chain:List Ch→List Dd→Prop
 | _,[]=>True
 | l,o :: os=>mayDo l o=0∧Chain (apO l o) os
theorem Chain.append {a:List Dd}:∀ {l:List Ch} {b:List Dd},Chain l (a++b)↔Chain l a∧Chain (apOs l a) b:=by
 induction a with
 | nil=>intro l b;simp [Chain,apOs]
 | cons o a ih=>intro l b;simp only [List.cons_append,Chain,ih,and_assoc];rfl
theorem vis_len_view (seen by_:Int) (l:List Ch):(vis seen by_ l).length=(viewN seen by_ l).length:=(viewN_length seen by_ l).symm
theorem vis_other {l:List Ch} {d:Dd} {n:Int} (h:mayDo l d=0) (hn:1≤n) (seen by_:Int) (hne:by_≠d.By) (hlt:seen < n):(vis seen by_ (ap l d n)).length=(vis seen by_ l).length:=by
 have hd:=doF_ap h hn
 have:=others_early l d n (by rw [hd]) seen by_ hne hlt
 rw [hd] at this
 rw [vis_len_view,vis_len_view,this]
theorem key_rho (s b:Int) (c c' : Ch) (h:rho s b c=some c'):key c'=key c:=by
 obtain ⟨_,h1,h2,h3⟩:=rho_C s b c c' h
 unfold key;rw [h1,h2,h3]
theorem takenOf_rho (l:List Ch) (d:Dd) (hb:isWriter d.By=true):(takenOf (l.filterMap (rho d.Seen d.By)) d).map key=(takenOf l d).map key:=by
 unfold takenOf
 split
 ·exact takenGo_filterMap _ _ _ _ _ _ (rho d.Seen d.By) l 0 (fun c _ c' h=>⟨rho_sees d.Seen d.By hb d.Seen (Int.le_refl _) c c' h,key_rho _ _ _ _ h⟩) (fun c _ h=>rho_some d.Seen d.By d.Seen (Int.le_refl _) c h)
 ·rfl
structure OpenD where
 (d:Dd) (took:List Ch)
def TookOk:List Ch→List OpenD→Prop
 | _,[]=>True
 | l,o :: os=>o.took.map key=(takenOf l o.d).map key∧TookOk (apO l o.d) os
theorem TookOk.append {a:List OpenD}:∀ {l:List Ch} {b:List OpenD},TookOk l (a++b)↔TookOk l a∧TookOk (apOs l (a.map (·.d))) b:=by
 induction a with
 | nil=>intro l b;simp [TookOk,apOs]
 | cons o a ih=>intro l b;simp only [List.cons_append,TookOk,ih,and_assoc,List.map_cons];rfl
theorem hear_other (me:Int) (d:Dd) (n:Int) (hne:me≠d.By) (hno:n < 1073741824) (hn:1≤n):∀ (os:List OpenD) (l:List Ch),(∀ o∈os,o.d.By=me∧o.d.Seen < n)→(∀ c∈l,openOther me c=false)→
 Chain l (os.map (·.d))→TookOk l os→mayDo (apOs l (os.map (·.d))) d=0→
 mayDo l d=0∧Chain (ap l d n) (os.map (·.d))∧apOs (ap l d n) (os.map (·.d))=ap (apOs l (os.map (·.d))) d n∧TookOk (ap l d n) os:=by
 intro os
 induction os with
 | nil=>intro l _ _ _ _ h;exact ⟨h,trivial,rfl,trivial⟩
 | cons o os ih=>
  intro l ho hq hc ht hm
  obtain ⟨hb,hs⟩:=ho o (by simp)
  have hc1:mayDo l o.d=0:=hc.1
  obtain ⟨i1,i2,i3,i4⟩:=ih (apO l o.d) (fun x hx=>ho x (by simp [hx])) (by
   have:=noOther_apO l o.d 1073741824 (by rw [hb];exact hq);rw [hb] at this;exact this) hc.2 ht.2 hm
  obtain ⟨f1,g1,e1⟩:=mayDo_zero hc1
  obtain ⟨f2,g2,e2⟩:=mayDo_zero i1
  obtain ⟨wd,_,_,_,sd,_,_,qd⟩:=deedFault_zero f2
  obtain ⟨wo,_,_,_,so,ao,_,qo⟩:=deedFault_zero f1
  have l1:(apO l o.d).length=l.length+o.d.Text.size:=ap_length hc1
  have v1:(vis d.Seen d.By (apO l o.d)).length=(vis d.Seen d.By l).length:=vis_other hc1 (by omega) d.Seen d.By (by rw [hb];exact fun e=>hne e.symm) (by omega)
  have m1:mayDo l d=0:=mayDo_intro f2 (by rw [← v1];exact g2) (by omega)
  have l2:(ap l d n).length=l.length+d.Text.size:=ap_length m1
  have v2:(vis o.d.Seen o.d.By (ap l d n)).length=(vis o.d.Seen o.d.By l).length:=vis_other m1 hn o.d.Seen o.d.By (by rw [hb];exact hne) hs
  have m2:mayDo (ap l d n) o.d=0:=mayDo_intro f1 (by rw [v2];exact g1) (by omega)
  have hcm:ap (ap l o.d 1073741824) d n=ap (ap l d n) o.d 1073741824:=by
   refine ap_comm l o.d d n f1 f2 (by rw [hb];exact hne) hs (by omega) (by rw [hb];exact hq) ?_ ?_
   ·rcases qo with ⟨_,hm0,_⟩ | ⟨_,hm1,_⟩ <;> omega
   ·have g3:=(mayDo_zero m1).2.1
    rcases qd with ⟨_,hm0,_⟩ | ⟨_,hm1,_⟩ <;> omega
  refine ⟨m1,⟨m2,?_⟩,?_,?_,?_⟩
  ·show Chain (ap (ap l d n) o.d 1073741824) _
   rw [← hcm];exact i2
  ·show apOs (ap (ap l d n) o.d 1073741824) _=_
   rw [← hcm];exact i3
  ·have hr:=ap_rho_other l d n o.d.Seen o.d.By wd (by rw [hb];exact fun e=>hne e.symm) hs
   rw [ht.1,← takenOf_rho l o.d wo,← hr,takenOf_rho _ o.d wo]
  ·show TookOk (ap (ap l d n) o.d 1073741824) os
   rw [← hcm];exact i4
def numC (me No n:Int) (K:Int × Int × Int→Bool) (c:Ch):Ch:=
 { c with In:=if c.By=me∧c.No=No then n else c.In,Out:=if K (key c)=true∧(c.Out=0∨n < c.Out) then n else c.Out }
theorem numC_sees (me No n:Int) (K:Int × Int × Int→Bool) (seen:Int) (c:Ch) (hK:K (key c)=true→took c.Gone me=true):(numC me No n K c).sees seen me=c.sees seen me:=by
 unfold Ch.sees
 rw [knowsOut_took,knowsOut_took]
 congr 1
 ·unfold Ch.knowsIn numC
  by_cases e:c.By=me
  ·simp [e]
  ·simp [e]
 ·congr 1
  by_cases e:K (key c)=true
  ·have h1:=hK e
   have h2:took (numC me No n K c).Gone me=true:=h1
   rw [h1,h2];rfl
  ·have:(numC me No n K c).Out=c.Out:=by unfold numC;simp only;rw [if_neg (fun h=>e h.1)]
   rw [this];rfl
theorem ap_map (f:Ch→Ch) (l:List Ch) (d:Dd) (n:Int) (hq:∀ c∈l,openOther d.By c=false) (hs:∀ c∈l,(f c).sees d.Seen d.By=c.sees d.Seen d.By) (ho:∀ c∈l,openOther d.By (f c)=false)
 (hm:∀ c∈l,c.sees d.Seen d.By=true→f (mark d.By n c)=mark d.By n (f c)) (hnew:∀ c∈newOf d n,f c=c):(ap l d n).map f=ap (l.map f) d n:=by
 have e:∀ x:List Ch,x.map f=x.filterMap (fun c=>some (f c)):=fun x=>by rw [← List.filterMap_eq_map];rfl
 rw [e,e]
 unfold ap
 split
 ·have hT:(newOf d n).filterMap (fun c=>some (f c))=newOf d n:=by
   rw [← e]
   conv=>rhs;rw [← List.map_id (newOf d n)]
   exact List.map_congr_left hnew
  have:=insGo_filterMap (fun c=>c.sees d.Seen d.By) (openOther d.By) (fun c=>c.sees d.Seen d.By) (openOther d.By) (newOf d n) (fun c=>some (f c)) l d.At.toNat hq
   (fun c hc c' h=>by cases h;exact ⟨hs c hc,ho c hc⟩) (fun c _ _=>rfl)
  rw [hT] at this
  exact this
 ·exact takeGo_filterMap _ _ _ _ _ _ _ _ _ l 0 (fun c hc c' h=>by cases h;exact hs c hc) (fun c hc h=>⟨f c,rfl,by rw [hm c hc h]⟩)
theorem takenOf_map (f:Ch→Ch) (l:List Ch) (d:Dd) (hs:∀ c∈l,(f c).sees d.Seen d.By=c.sees d.Seen d.By) (hk:∀ c,key (f c)=key c):(takenOf (l.map f) d).map key=(takenOf l d).map key:=by
 have e:∀ x:List Ch,x.map f=x.filterMap (fun c=>some (f c)):=fun x=>by rw [← List.filterMap_eq_map];rfl
 unfold takenOf
 split
 ·rw [e]
  exact takenGo_filterMap _ _ _ _ _ _ (fun c=>some (f c)) l 0 (fun c hc c' h=>by cases h;exact ⟨hs c hc,hk c⟩) (fun c _ _=>rfl)
 ·rfl
theorem takeGo_number (s me lo hi n:Int) (hn:n≠1073741824) (No:Int) (K:Int × Int × Int→Bool):∀ (l:List Ch) (k:Int),Dist l→(∀ c∈l,¬ (c.By=me∧c.No=No))→(∀ c∈l,K (key c)=true↔key c∈(takenGo s me lo hi l k).map key)→
 (takeGo s me lo hi 1073741824 l k).map (numC me No n K)=takeGo s me lo hi n l k:=by
 intro l
 induction l with
 | nil=>intro k _ _ _;rfl
 | cons c l ih=>
  intro k hd hN hK
  obtain ⟨hd1,hd2⟩:=List.pairwise_cons.1 hd
  have hsub:=fun k=>takenGo_sub s me lo hi l k
  have hnot:∀ k,key c∉(takenGo s me lo hi l k).map key:=by
   intro k hm
   obtain ⟨x,hx,he⟩:=List.mem_map.1 hm
   exact hd1 x (hsub k x hx).1 he.symm
  have hIn:∀ x:Ch,key x=key c→(if x.By=me∧x.No=No then n else x.In)=x.In:=by
   intro x hx
   rw [if_neg]
   intro h
   simp only [key,Prod.mk.injEq] at hx
   exact hN c (by simp) ⟨by rw [← hx.1];exact h.1,by rw [← hx.2.1];exact h.2⟩
  have hkeep:K (key c)=false→numC me No n K c=c:=by
   intro h
   unfold numC
   rw [hIn c rfl,if_neg (by rw [h];simp)]
  rw [takeGo,takeGo]
  cases hs:c.sees s me
  ·simp only [Bool.false_eq_true,if_false,List.map_cons]
   have hK2:∀ x∈c :: l,(K (key x)=true↔key x∈(takenGo s me lo hi l k).map key):=by
    intro x hx;have:=hK x hx;rw [takenGo,hs] at this;simpa using this
   have hc:K (key c)=false:=by
    cases h:K (key c)
    ·rfl
    ·exact absurd ((hK2 c (by simp)).1 h) (hnot k)
   rw [hkeep hc,ih k hd2 (fun x hx=>hN x (by simp [hx])) (fun x hx=>hK2 x (by simp [hx]))]
  ·simp only [if_true,List.map_cons]
   by_cases hk:lo≤k∧k < hi
   ·rw [if_pos hk,if_pos hk]
    have hK2:∀ x∈c :: l,(K (key x)=true↔key x=key c∨key x∈(takenGo s me lo hi l (k+1)).map key):=by
     intro x hx;have:=hK x hx;rw [takenGo,hs,if_pos rfl,if_pos hk,List.map_cons,List.mem_cons] at this;exact this
    rw [ih (k+1) hd2 (fun x hx=>hN x (by simp [hx])) (fun x hx=>by
     rw [hK2 x (by simp [hx])]
     constructor
     ·rintro (h | h)
      ·exact absurd h.symm (hd1 x hx)
      ·exact h
     ·exact .inr)]
    congr 1
    have hc:K (key c)=true:=(hK2 c (by simp)).2 (.inl rfl)
    unfold numC
    have e1:K (key (mark me 1073741824 c))=true:=hc
    have e2:(mark me 1073741824 c).Out=c.Out:=by unfold mark;simp
    rw [e1,e2,hIn (mark me 1073741824 c) rfl]
    unfold mark
    simp only [true_and,ne_eq,hn,not_false_eq_true]
   ·rw [if_neg hk,if_neg hk]
    have hK2:∀ x∈c :: l,(K (key x)=true↔key x∈(takenGo s me lo hi l (k+1)).map key):=by
     intro x hx;have:=hK x hx;rw [takenGo,hs,if_pos rfl,if_neg hk] at this;exact this
    have hc:K (key c)=false:=by
     cases h:K (key c)
     ·rfl
     ·exact absurd ((hK2 c (by simp)).1 h) (hnot _)
    rw [hkeep hc,ih (k+1) hd2 (fun x hx=>hN x (by simp [hx])) (fun x hx=>hK2 x (by simp [hx]))]
theorem newOf_number (d:Dd) (n:Int) (K:Int × Int × Int→Bool) (hK:∀ k,K k=false):(newOf d 1073741824).map (numC d.By d.No n K)=newOf d n:=by
 apply List.ext_getElem?
 intro i
 unfold newOf
 rw [List.getElem?_map,List.getElem?_mapIdx,List.getElem?_mapIdx]
 cases (bytesOf d.Text)[i]? <;> simp [numC,hK]
theorem ap_number (l:List Ch) (d:Dd) (n:Int) (hn:n≠1073741824) (K:Int × Int × Int→Bool) (hd:Dist l) (hN:∀ c∈l,¬ (c.By=d.By∧c.No=d.No)) (hq:∀ c∈l,openOther d.By c=false) (hK:∀ k,K k=true↔k∈(takenOf l d).map key) (hk:d.Kind=1∨d.Kind=2) :
 (apO l d).map (numC d.By d.No n K)=ap l d n:=by
 rcases hk with hk | hk
 ·have hK0:∀ k,K k=false:=by
   intro k
   cases h:K k
   ·rfl
   ·have:=(hK k).1 h;unfold takenOf at this;rw [if_neg (by omega)] at this;simp at this
  have hid:∀ c∈l,numC d.By d.No n K c=c:=by
   intro c hc
   unfold numC
   rw [if_neg (hN c hc),hK0];simp
  have e:∀ x:List Ch,x.map (numC d.By d.No n K)=x.filterMap (fun c=>some (numC d.By d.No n K c)):=fun x=>by rw [← List.filterMap_eq_map];rfl
  have hl:l.map (numC d.By d.No n K)=l:=by
   conv=>rhs;rw [← List.map_id l]
   exact List.map_congr_left hid
  unfold apO ap
  rw [if_pos hk,if_pos hk,e]
  have:=insGo_filterMap (fun c=>c.sees d.Seen d.By) (openOther d.By) (fun c=>c.sees d.Seen d.By) (openOther d.By) (newOf d 1073741824) (fun c=>some (numC d.By d.No n K c)) l d.At.toNat hq
   (fun c hc c' h=>by cases h;rw [hid c hc];exact ⟨rfl,hq c hc⟩) (fun c _ _=>rfl)
  rw [this,← e,← e,hl,newOf_number d n K hK0]
 ·unfold apO ap
  rw [if_neg (by omega),if_neg (by omega)]
  refine takeGo_number _ _ _ _ n hn d.No K l 0 hd hN (fun c _=>?_)
  have:=hK (key c)
  unfold takenOf at this
  rw [if_pos hk] at this;exact this
theorem number_rest (me No n:Int) (K:Int × Int × Int→Bool):∀ (os:List OpenD) (l:List Ch),(∀ o∈os,o.d.By=me∧o.d.No≠No∧∀ k,K (me,o.d.No,k)=false)→(∀ c∈l,openOther me c=false)→(∀ c∈l,K (key c)=true→took c.Gone me=true)→isWriter me=true→
 Chain l (os.map (·.d))→TookOk l os→
 Chain (l.map (numC me No n K)) (os.map (·.d))∧apOs (l.map (numC me No n K)) (os.map (·.d))=(apOs l (os.map (·.d))).map (numC me No n K)∧TookOk (l.map (numC me No n K)) os:=by
 intro os
 induction os with
 | nil=>intro l _ _ _ _ _ _;exact ⟨trivial,rfl,trivial⟩
 | cons o os ih=>
  intro l ho hq hK hw hc ht
  obtain ⟨hb,hno,hk⟩:=ho o (by simp)
  have hc1:mayDo l o.d=0:=hc.1
  obtain ⟨f1,g1,e1⟩:=mayDo_zero hc1
  have hsees:∀ c∈l,(numC me No n K c).sees o.d.Seen o.d.By=c.sees o.d.Seen o.d.By:=by
   intro c hc;rw [hb];exact numC_sees me No n K _ c (hK c hc)
  have hnum:(apO l o.d).map (numC me No n K)=apO (l.map (numC me No n K)) o.d:=by
   refine ap_map (numC me No n K) l o.d 1073741824 (by rw [hb];exact hq) hsees ?_ ?_ ?_
   ·intro c hc
    rw [hb]
    have:=hq c hc
    unfold openOther at this ⊢
    unfold numC
    by_cases e:c.By=me
    ·simp [e]
    ·simp only [e,false_and,if_false];exact this
   ·intro c hcl hs
    have hk0:K (key c)=false:=by
     cases h:K (key c)
     ·rfl
     ·have h1:=hK c hcl h
      have h2:=sees_took hs
      rw [hb] at h2;rw [h1] at h2;cases h2
    unfold numC mark key at *
    simp only [hk0,Bool.false_eq_true,false_and,if_false,ne_eq,not_true_eq_false]
   ·intro c hcn
    obtain ⟨h1,h2,_⟩:=newOf_mem hcn
    have hk0:K (key c)=false:=by unfold key;rw [h1,h2,hb];exact hk _
    unfold numC
    rw [if_neg (by rw [h2];exact fun h=>hno h.2),hk0];simp
  have hv:(vis o.d.Seen o.d.By (l.map (numC me No n K))).length=(vis o.d.Seen o.d.By l).length:=by
   rw [← List.filterMap_eq_map]
   exact vis_filterMap_len _ _ _ _ (some∘numC me No n K) l (fun c hc c' h=>by cases h;exact hsees c hc) (fun c _ _=>rfl)
  have m1:mayDo (l.map (numC me No n K)) o.d=0:=mayDo_intro f1 (by rw [hv];exact g1) (by rw [List.length_map];exact e1)
  have hK' : ∀ c∈apO l o.d,K (key c)=true→took c.Gone me=true:=by
   intro c hc hkc
   unfold apO ap at hc
   split at hc
   ·rcases insGo_mem _ _ _ _ _ c hc with h1 | h1
    ·obtain ⟨a1,a2,_⟩:=newOf_mem h1
     unfold key at hkc;rw [a1,a2,hb,hk] at hkc;cases hkc
    ·exact hK c h1 hkc
   ·obtain ⟨x,hx,e⟩:=takeGo_mem _ _ _ _ _ _ _ c hc
    rcases e with rfl | ⟨hs,rfl⟩
    ·exact hK _ hx hkc
    ·have:=hK x hx hkc
     have h2:=sees_took hs
     rw [hb] at h2;rw [this] at h2;cases h2
  obtain ⟨i1,i2,i3⟩:=ih (apO l o.d) (fun x hx=>ho x (by simp [hx])) (by
   have:=noOther_apO l o.d 1073741824 (by rw [hb];exact hq);rw [hb] at this;exact this) hK' hw hc.2 ht.2
  rw [hnum] at i1 i2 i3
  exact ⟨⟨m1,i1⟩,i2,by rw [ht.1,takenOf_map _ l o.d hsees (fun c=>rfl)],i3⟩
theorem clear_open (me t:Int):∀ (os:List OpenD) (l:List Ch),(∀ o∈os,o.d.By=me∧t≤o.d.Seen)→(∀ c∈l,openOther me c=false)→Chain l (os.map (·.d))→TookOk l os→
 Chain (clearOf t l) (os.map (·.d))∧apOs (clearOf t l) (os.map (·.d))=clearOf t (apOs l (os.map (·.d)))∧TookOk (clearOf t l) os:=by
 intro os
 induction os with
 | nil=>intro l _ _ _ _;exact ⟨trivial,rfl,trivial⟩
 | cons o os ih=>
  intro l ho hq hc ht
  obtain ⟨hb,hs⟩:=ho o (by simp)
  have hc1:mayDo l o.d=0:=hc.1
  obtain ⟨f1,g1,e1⟩:=mayDo_zero hc1
  have hsee:∀ c∈l,c.sees o.d.Seen o.d.By=true→(!doneB t c)=true:=by
   intro c _ h
   cases hd:doneB t c
   ·rfl
   ·rw [done_sees t o.d.Seen o.d.By c hs hd] at h;cases h
  have hap:clearOf t (apO l o.d)=apO (clearOf t l) o.d:=by
   refine ap_filter (fun c=>!doneB t c) l o.d 1073741824 (by rw [hb];exact hq) ?_ hsee ?_
   ·intro c hcn
    obtain ⟨_,_,_,h4,_⟩:=newOf_mem hcn
    unfold doneB;rw [h4];rfl
   ·intro c hcl h
    have:=hsee c hcl h
    have e:doneB t (mark o.d.By 1073741824 c)=doneB t c:=by unfold doneB mark;simp
    rw [e];exact this
  have hv:=vis_clear t o.d.Seen o.d.By l hs
  have hl:(clearOf t l).length≤l.length:=clearOf_le t l
  have m1:mayDo (clearOf t l) o.d=0:=mayDo_intro f1 (by rw [hv];exact g1) (by omega)
  obtain ⟨i1,i2,i3⟩:=ih (apO l o.d) (fun x hx=>ho x (by simp [hx])) (by
   have:=noOther_apO l o.d 1073741824 (by rw [hb];exact hq);rw [hb] at this;exact this) hc.2 ht.2
  rw [hap] at i1 i2 i3
  refine ⟨⟨m1,i1⟩,i2,?_,i3⟩
  rw [ht.1]
  unfold takenOf
  split
  ·have:=takenGo_filterMap o.d.Seen o.d.By o.d.Seen o.d.By o.d.At (o.d.At+o.d.Many) (keepIf fun c=>!doneB t c) l 0
    (fun c hc c' h=>by unfold keepIf at h;split at h <;> cases h;exact ⟨rfl,rfl⟩) (fun c hc h=>by unfold keepIf;rw [if_pos (hsee c hc h)];rfl)
   rw [filterMap_keepIf] at this
   exact this.symm
  ·rfl
end Go.Proofs.YtneoeokfffnonaaGreatDoor
namespace Go.Proofs.YtneoeokfffnonaaGreatDoor
open Go.RowKit
structure LF (me m:Int) (l:List Ch):Prop where
 dist:Dist l
 gone:∀ c∈l,0≤c.Gone∧c.Gone < 16
 no:∀ c∈l,c.By=me→c.No < m
 noOther:∀ c∈l,openOther me c=false
theorem dist_key {l m:List Ch} (h:l.map key=m.map key) (hm:Dist m):Dist l:=by
 have e:∀ x:List Ch,Dist x↔(x.map key).Pairwise (·≠·):=fun x=>by unfold Dist;rw [List.pairwise_map]
 rw [e,h,← e];exact hm
theorem newOf_dist (d:Dd) (n:Int):Dist (newOf d n):=by
 unfold Dist
 exact (newOf_apart d n).imp fun {a b} h=>by rw [same_key] at h;simpa using h
theorem LF.step {me m:Int} {l:List Ch} (h:LF me m l) (o:Dd) (hb:o.By=me) (hw:isWriter me=true) (hno:m≤o.No):LF me (o.No+1) (apO l o):=by
 have hq:∀ c∈l,openOther o.By c=false:=by rw [hb];exact h.noOther
 have hoo:=noOther_apO l o 1073741824 hq
 rw [hb] at hoo
 unfold apO ap at *
 split
 ·rename_i hk
  rw [if_pos hk] at hoo
  obtain ⟨x,y,hl,e⟩:=insGo_split (fun c=>c.sees o.Seen o.By) (openOther o.By) (newOf o 1073741824) l o.At.toNat
  have hd:=h.dist
  rw [e] at hoo ⊢
  have hmem:∀ c,c∈x++newOf o 1073741824++y→c∈newOf o 1073741824∨c∈l:=by
   intro c hc
   rw [hl]
   simp only [List.mem_append] at hc ⊢
   rcases hc with (h | h) | h
   ·exact .inr (.inl h)
   ·exact .inl h
   ·exact .inr (.inr h)
  have hne:∀ c∈l,∀ z∈newOf o 1073741824,key c≠key z:=by
   intro c hc z hz he
   obtain ⟨z1,z2,_⟩:=newOf_mem hz
   simp only [key,Prod.mk.injEq] at he
   have:=h.no c hc (by rw [he.1,z1,hb])
   omega
  refine ⟨?_,fun c hc=>?_,fun c hc hbc=>?_,hoo⟩
  ·subst hl
   unfold Dist at hd ⊢
   rw [List.pairwise_append] at hd
   rw [List.pairwise_append,List.pairwise_append]
   refine ⟨⟨hd.1,newOf_dist o _,fun a ha b hb=>hne a (by simp [ha]) b hb⟩,hd.2.1,fun a ha b hb=>?_⟩
   rcases List.mem_append.1 ha with ha | ha
   ·exact hd.2.2 a ha b hb
   ·exact fun e=>hne b (by simp [hb]) a ha e.symm
  ·rcases hmem c hc with h1 | h1
   ·obtain ⟨_,_,_,_,h5,_⟩:=newOf_mem h1;omega
   ·exact h.gone c h1
  ·rcases hmem c hc with h1 | h1
   ·obtain ⟨_,h2,_⟩:=newOf_mem h1;omega
   ·have:=h.no c h1 hbc;omega
 ·rename_i hk
  rw [if_neg hk] at hoo
  refine ⟨dist_key (takeGo_key ..) h.dist,fun c hc=>?_,fun c hc hbc=>?_,hoo⟩
  ·obtain ⟨x,hx,e⟩:=takeGo_mem _ _ _ _ _ _ _ c hc
   have hg:=h.gone x hx
   rcases e with rfl | ⟨hs,rfl⟩
   ·exact hg
   ·have:=gone_add x.Gone o.By (by rw [hb];exact hw) (sees_took hs) hg.1 hg.2
    show 0≤x.Gone+bitOf o.By∧x.Gone+bitOf o.By < 16
    omega
  ·obtain ⟨x,hx,e⟩:=takeGo_mem _ _ _ _ _ _ _ c hc
   rcases e with rfl | ⟨hs,rfl⟩
   ·have:=h.no _ hx hbc;omega
   ·have:=h.no x hx hbc;show x.No < _;omega
theorem any_key (l:List Ch) (c:Ch):(l.any fun x=>x.same c)=decide (key c∈l.map key):=by
 induction l with
 | nil=>simp
 | cons x l ih=>
  rw [List.any_cons,ih,same_key]
  by_cases h:key x=key c
  ·simp [h]
  ·have:¬ key c=key x:=fun e=>h e.symm
   simp [h,this]
def isOpen (c:Ch):Bool:=c.In==1073741824
end Go.Proofs.YtneoeokfffnonaaGreatDoor
namespace Go.Proofs.YtneoeokfffnonaaGreatDoor
open Go.RowKit
structure WM where
 (me:Int) (seen:Nat) (next:Int) (base:List Ch) (opn:List OpenD) (ns:Nat)
def WM.ds (m:WM):List Dd:=m.opn.map (·.d)
def WM.chars (m:WM):List Ch:=apOs m.base m.ds
def WM.unsent (m:WM):List Dd:=m.ds.drop m.ns
def WM.least (m:WM):Int:=match m.unsent with
 | []=>m.seen
 | u :: _=>u.Seen
structure UOk (L:List Dd) (m:WM) (i:Nat) (u:Dd):Prop where
 f:deedFault u=0
 b:u.By=m.me
 no:u.No=cntBy m.me L+1+i
 s:u.Seen≤m.seen
 r:u.At+u.Many≤((vis u.Seen m.me (apOs (pre L u.Seen.toNat) (mine m.me (L.drop u.Seen.toNat)++m.unsent.take i))).length:Int)
structure WIn (lm:LogM) (m:WM) (t:Int):Prop where
 w:isWriter m.me=true
 here:(lm.seat m.me).here=true
 seen:m.seen≤lm.L.length
 bare:∃ X:Int × Int × Int→Bool,m.base=(pre lm.L m.seen).filter (fun c=>!X (key c))∧(∀ c∈pre lm.L m.seen,X (key c)=true→doneB t c=true)∧(∀ k,X k=true→∃ c∈pre lm.L m.seen,key c=k)
 tl:t≤lm.least
 th:∀ d∈lm.L.drop m.seen,t≤d.Seen
 ns:m.ns≤m.opn.length
 sent:m.ds.take m.ns=mine m.me (lm.L.drop m.seen)
 next:m.next=cntBy m.me lm.L+1+m.unsent.length
 us:∀ i (h:i < m.unsent.length),UOk lm.L m i m.unsent[i]
 said0:(lm.seat m.me).seen≤m.seen
 saidU:∀ u∈m.unsent,(lm.seat m.me).seen≤u.Seen
 mono:m.unsent.Pairwise fun a b=>a.Seen≤b.Seen
 chain:Chain m.base m.ds
 took:TookOk m.base m.opn
theorem cntBy_mine (w:Int) (ds:List Dd):cntBy w ds=(mine w ds).length:=rfl
theorem cntBy_split (w:Int) (L:List Dd) (s:Nat):cntBy w L=cntBy w (L.take s)+(mine w (L.drop s)).length:=by
 rw [cntBy_mine,cntBy_mine,← Int.natCast_add,← List.length_append,← mine_append,List.take_append_drop]
theorem LOk.mine_no {L:List Dd} (h:LOk L) (w:Int) (s:Nat):∀ k,s≤k→k≤L.length→∀ i (hi:i < (mine w ((L.take k).drop s)).length),((mine w ((L.take k).drop s))[i]).No=cntBy w (L.take s)+1+i∧((mine w ((L.take k).drop s))[i]).By=w:=by
 intro k hk
 induction k with
 | zero=>intro _ i hi;simp [mine] at hi
 | succ k ih=>
  intro hl i hi
  by_cases e:s=k+1
  ·subst e
   exfalso
   rw [List.drop_of_length_le (by simp;omega)] at hi;simp [mine] at hi
  ·have hkl:k < L.length:=by omega
   have ih:=ih (by omega) (by omega)
   have e1:mine w ((L.take (k+1)).drop s)=mine w ((L.take k).drop s)++mine w [L[k]]:=by rw [drop_take_succ L s k (by omega) hkl,mine_append]
   by_cases hb:L[k].By=w
   ·have e2:mine w [L[k]]=[L[k]]:=by simp [mine,hb]
    rw [e2] at e1
    have hno:=(h.deeds k hkl).no
    have hc:=cntBy_split w (L.take k) s
    rw [List.take_take,Nat.min_eq_left (by omega)] at hc
    by_cases hi2:i < (mine w ((L.take k).drop s)).length
    ·have:(mine w ((L.take (k+1)).drop s))[i]=(mine w ((L.take k).drop s))[i]:=by simp only [e1];rw [List.getElem_append_left hi2]
     rw [this];exact ih i hi2
    ·have hi3:i=(mine w ((L.take k).drop s)).length:=by rw [e1] at hi;simp at hi;omega
     have:(mine w ((L.take (k+1)).drop s))[i]=L[k]:=by simp only [e1];rw [List.getElem_append_right (by omega)];simp
     rw [this]
     rw [hb,hc] at hno
     exact ⟨by omega,hb⟩
   ·have e2:mine w [L[k]]=[]:=by simp [mine,hb]
    rw [e2,List.append_nil] at e1
    have:(mine w ((L.take (k+1)).drop s))[i]=(mine w ((L.take k).drop s))[i]'(by rw [← e1];exact hi):=by simp only [e1]
    rw [this];exact ih i _
section
variable {lm:LogM} {m:WM} {t:Int}
theorem WIn.len (h:WIn lm m t):m.ds.length=m.ns+m.unsent.length:=by
 have:=h.ns;unfold WM.unsent;rw [List.length_drop];unfold WM.ds;rw [List.length_map];omega
theorem WIn.ds_eq (h:WIn lm m t):m.ds=mine m.me (lm.L.drop m.seen)++m.unsent:=by
 rw [← h.sent];unfold WM.unsent;rw [List.take_append_drop]
theorem WIn.nos (h:WIn lm m t) (ho:lm.Ok):∀ i (hi:i < m.ds.length),m.ds[i].By=m.me∧m.ds[i].No=cntBy m.me (lm.L.take m.seen)+1+i:=by
 intro i hi
 have e:=h.ds_eq
 have hno:=ho.lok.mine_no m.me m.seen lm.L.length h.seen (Nat.le_refl _)
 rw [List.take_length] at hno
 by_cases hi2:i < (mine m.me (lm.L.drop m.seen)).length
 ·have:m.ds[i]=(mine m.me (lm.L.drop m.seen))[i]:=by simp only [e];rw [List.getElem_append_left hi2]
  rw [this]
  exact ⟨(hno i hi2).2,(hno i hi2).1⟩
 ·have hl:i - (mine m.me (lm.L.drop m.seen)).length < m.unsent.length:=by rw [e] at hi;simp at hi;omega
  have:m.ds[i]=m.unsent[i - (mine m.me (lm.L.drop m.seen)).length]:=by simp only [e];rw [List.getElem_append_right (by omega)]
  rw [this]
  have u:=h.us _ hl
  have hc:=cntBy_split m.me lm.L m.seen
  exact ⟨u.b,by rw [u.no];omega⟩
theorem WIn.tOpen (h:WIn lm m t):∀ o∈m.opn,o.d.By=m.me∧t≤o.d.Seen:=by
 intro o ho
 have hd:o.d∈m.ds:=List.mem_map_of_mem ho
 rw [h.ds_eq] at hd
 rcases List.mem_append.1 hd with hd | hd
 ·obtain ⟨h1,h2⟩:=List.mem_filter.1 hd
  exact ⟨by simpa using h2,h.th _ h1⟩
 ·obtain ⟨i,hi,e⟩:=List.getElem_of_mem hd
  have:=(h.us i hi).b
  rw [e] at this
  have:=lm.least_seat m.me h.w h.here
  have:=h.saidU o.d hd
  have:=h.tl
  exact ⟨by assumption,by omega⟩
theorem WIn.tSeen (h:WIn lm m t):t≤m.seen:=by
 have:=lm.least_seat m.me h.w h.here
 have:=h.said0
 have:=h.tl
 omega
theorem dist_of_made {k:Nat} {ds:List Dd} {l:List Ch} (h:Made k ds l):Dist l:=h.apart.imp fun {a b} h=>by rw [same_key] at h;simpa using h
theorem WIn.lf (h:WIn lm m t) (ho:lm.Ok):LF m.me (cntBy m.me (lm.L.take m.seen)+1) m.base:=by
 obtain ⟨X,hb,_⟩:=h.bare
 have hm:=ho.lok.made m.seen h.seen
 have hsub:∀ c∈m.base,c∈pre lm.L m.seen:=fun c hc=>by rw [hb] at hc;exact (List.mem_filter.1 hc).1
 refine ⟨by rw [hb];exact (dist_of_made hm).sublist List.filter_sublist,fun c hc=>?_,fun c hc hbc=>?_,fun c hc=>ho.lok.noOpen m.seen h.seen _ c (hsub c hc)⟩
 ·have:=bad1_false (hm.good c (hsub c hc)).b1;omega
 ·have:=(hm.good c (hsub c hc)).no;rw [hbc] at this;omega
theorem WIn.kinds (h:WIn lm m t):∀ o∈m.opn,o.d.Kind=1∨o.d.Kind=2:=by
 have:∀ (os:List Dd) (l:List Ch),Chain l os→∀ o∈os,o.Kind=1∨o.Kind=2:=by
  intro os
  induction os with
  | nil=>intro l _ o ho;simp at ho
  | cons d os ih=>
   intro l hc o ho
   rcases List.mem_cons.1 ho with rfl | ho
   ·rcases (deedFault_zero (mayDo_zero hc.1).1).2.2.2.2.2.2.2 with ⟨h1,_⟩ | ⟨h1,_⟩
    ·exact .inl h1
    ·exact .inr h1
   ·exact ih _ hc.2 o ho
 intro o ho
 exact this m.ds m.base h.chain o.d (List.mem_map_of_mem ho)
theorem WIn.base_vis (h:WIn lm m t) (s b:Int) (hs:t≤s):vis s b m.base=vis s b (pre lm.L m.seen):=by
 obtain ⟨X,hb,hx,_⟩:=h.bare
 rw [hb]
 refine vis_filter _ s b _ fun c hc hsee=>?_
 cases hX:X (key c)
 ·rfl
 ·rw [done_sees t s b c hs (hx c hc hX)] at hsee;cases hsee
theorem WIn.base_clear (h:WIn lm m t) (s:Int) (hs:t≤s):clearOf s m.base=clearOf s (pre lm.L m.seen):=by
 obtain ⟨X,hb,hx,_⟩:=h.bare
 rw [hb]
 unfold clearOf
 rw [List.filter_filter]
 apply List.filter_congr
 intro c hc
 cases hX:X (key c)
 ·simp
 ·have hd:doneB s c=true:=by
   have:=hx c hc hX
   unfold doneB at this ⊢
   simp only [Bool.and_eq_true,decide_eq_true_eq] at this ⊢
   omega
  rw [hd];rfl
theorem apOs_clear (me t:Int):∀ (ds:List Dd) (l:List Ch),(∀ d∈ds,d.By=me∧t≤d.Seen)→(∀ c∈l,openOther me c=false)→apOs (clearOf t l) ds=clearOf t (apOs l ds):=by
 intro ds
 induction ds with
 | nil=>intro l _ _;rfl
 | cons d ds ih=>
  intro l hd hq
  obtain ⟨hb,hs⟩:=hd d (by simp)
  have hap:clearOf t (apO l d)=apO (clearOf t l) d:=by
   refine ap_filter (fun c=>!doneB t c) l d 1073741824 (by rw [hb];exact hq) ?_ ?_ ?_
   ·intro c hcn
    obtain ⟨_,_,_,h4,_⟩:=newOf_mem hcn
    unfold doneB;rw [h4];rfl
   ·intro c _ h
    cases hd:doneB t c
    ·rfl
    ·rw [done_sees t d.Seen d.By c hs hd] at h;cases h
   ·intro c _ h
    have e:doneB t (mark d.By 1073741824 c)=doneB t c:=by unfold doneB mark;simp
    rw [e]
    cases hd:doneB t c
    ·rfl
    ·rw [done_sees t d.Seen d.By c hs hd] at h;cases h
  show apOs (apO (clearOf t l) d) ds=clearOf t (apOs (apO l d) ds)
  rw [← hap]
  exact ih _ (fun x hx=>hd x (by simp [hx])) (by have:=noOther_apO l d 1073741824 (by rw [hb];exact hq);rw [hb] at this;exact this)
theorem WIn.view (h:WIn lm m t) (ho:lm.Ok) (s b:Int) (hs:t≤s):vis s b m.chars=vis s b (apOs (pre lm.L m.seen) m.ds):=by
 have hd:∀ d∈m.ds,d.By=m.me∧t≤d.Seen:=by
  intro d hd
  obtain ⟨o,hop,rfl⟩:=List.mem_map.1 hd
  exact h.tOpen o hop
 rw [← vis_clear t s b m.chars hs,← vis_clear t s b (apOs (pre lm.L m.seen) m.ds) hs]
 unfold WM.chars
 rw [← apOs_clear m.me t m.ds _ hd (h.lf ho).noOther,← apOs_clear m.me t m.ds _ hd (ho.lok.noOpen m.seen h.seen _),h.base_clear t (Int.le_refl _)]
def WM.deed (m:WM) (kind at_ many:Int) (text:ByteArray):Dd:=⟨kind,m.me,m.next,m.seen,at_,many,text⟩
def WM.doF (m:WM) (d:Dd):WM:={ m with next:=m.next+1,opn:=m.opn++[⟨d,takenOf m.chars d⟩] }
theorem WIn.do (h:WIn lm m t) (ho:lm.Ok) (kind at_ many:Int) (text:ByteArray) (h0:mayDo m.chars (m.deed kind at_ many text)=0):WIn lm (m.doF (m.deed kind at_ many text)) t:=by
 obtain ⟨f1,g1,e1⟩:=mayDo_zero h0
 generalize hd:m.deed kind at_ many text=d at *
 have hdb:d.By=m.me:=by rw [← hd];rfl
 have hdn:d.No=m.next:=by rw [← hd];rfl
 have hds:d.Seen=(m.seen:Int):=by rw [← hd];rfl
 have hns:=h.ns
 have eds:(m.doF d).ds=m.ds++[d]:=by simp [WM.doF,WM.ds]
 have eu:(m.doF d).unsent=m.unsent++[d]:=by
  unfold WM.unsent
  rw [eds]
  show (m.ds++[d]).drop m.ns=_
  rw [List.drop_append_of_le_length (by unfold WM.ds;simpa using hns)]
 have hmem:∀ u∈(m.doF d).unsent,u∈m.unsent∨u=d:=by intro u hu;rw [eu] at hu;simpa using hu
 refine ⟨h.w,h.here,h.seen,h.bare,h.tl,h.th,by show m.ns≤(m.opn++[_]).length;simp;omega,?_,?_,?_,h.said0,?_,?_,?_,?_⟩
 ·rw [eds];show (m.ds++[d]).take m.ns=_
  rw [List.take_append_of_le_length (by unfold WM.ds;simpa using hns)];exact h.sent
 ·rw [eu];show m.next+1=cntBy m.me lm.L+1+_
  rw [h.next];simp;omega
 ·intro i hi
  rw [eu] at hi
  have hi' : i < m.unsent.length+1:=by simpa using hi
  by_cases hl:i < m.unsent.length
  ·have e:(m.doF d).unsent[i]'(by rw [eu];exact hi)=m.unsent[i]:=by simp only [eu];rw [List.getElem_append_left hl]
   rw [e]
   have u:=h.us i hl
   exact ⟨u.f,u.b,u.no,u.s,by rw [eu,List.take_append_of_le_length (by omega)];exact u.r⟩
  ·obtain rfl:i=m.unsent.length:=by omega
   have e:(m.doF d).unsent[m.unsent.length]'(by rw [eu];exact hi)=d:=by simp only [eu];rw [List.getElem_append_right (Nat.le_refl _)];simp
   rw [e]
   refine ⟨f1,hdb,by rw [hdn,h.next];rfl,by rw [hds];exact Int.le_refl _,?_⟩
   show d.At+d.Many≤((vis d.Seen m.me (apOs (pre lm.L d.Seen.toNat) (mine m.me (lm.L.drop d.Seen.toNat)++(m.doF d).unsent.take m.unsent.length))).length:Int)
   rw [eu,hds,Int.toNat_natCast,List.take_append_of_le_length (Nat.le_refl _),List.take_length,← h.ds_eq,← h.view ho _ _ h.tSeen]
   rw [hds,hdb] at g1
   exact g1
 ·intro u hu
  rcases hmem u hu with hu | rfl
  ·exact h.saidU u hu
  ·rw [hds];exact h.said0
 ·rw [eu,List.pairwise_append]
  refine ⟨h.mono,List.pairwise_singleton _ _,fun a ha b hb=>?_⟩
  simp at hb;subst hb
  obtain ⟨i,hi,rfl⟩:=List.getElem_of_mem ha
  rw [hds];exact (h.us i hi).s
 ·rw [eds];exact Chain.append.2 ⟨h.chain,h0,trivial⟩
 ·show TookOk m.base (m.opn++[_])
  exact TookOk.append.2 ⟨h.took,rfl,trivial⟩
end
end Go.Proofs.YtneoeokfffnonaaGreatDoor
namespace Go.Proofs.YtneoeokfffnonaaGreatDoor
open Go.RowKit
theorem cntBy_of_ne (w:Int) (L:List Dd) (d:Dd) (h:d.By≠w):cntBy w (L++[d])=cntBy w L:=by rw [cntBy_add,if_neg h];omega
theorem mine_one (w:Int) (d:Dd):mine w [d]=if d.By=w then [d] else []:=by
 unfold mine;by_cases h:d.By=w <;> simp [h]
theorem drop_append_one (L:List Dd) (d:Dd) (s:Nat) (h:s≤L.length):(L++[d]).drop s=L.drop s++[d]:=List.drop_append_of_le_length h
theorem LogM.take_least {m:LogM} (d:Dd):m.least≤(m.takeF d).1.least:=by
 by_cases h0:(m.takeF d).2.2=0
 ·obtain ⟨h1,h2,h3,h4,h5,h6,e⟩:=LogM.take_of _ h0
  have hw:=LogM.hereF_writer h1
  rw [e]
  refine LogM.least_mono (by simp) fun j hj hh=>?_
  unfold upd at hh ⊢
  simp only at hh ⊢
  by_cases e:j=d.By.toNat
  ·subst e;rw [if_pos rfl] at hh ⊢;exact .inl ⟨hw.2,h3⟩
  ·rw [if_neg e] at hh ⊢;exact .inl ⟨hh,Int.le_refl _⟩
 ·rw [(LogM.take_refused _ h0).1];exact Int.le_refl _
theorem LogM.says_least {m:LogM} (w n:Int):m.least≤(m.saysF w n).1.least:=by
 unfold LogM.saysF
 by_cases h1:m.hereF w=true
 ·rw [if_pos h1];split
  ·exact Int.le_refl _
  ·rename_i hn
   have hw:=LogM.hereF_writer h1
   exact m.put_mono _ hw.1 _ fun _=>.inl ⟨hw.2,by show (m.seat w).seen≤n;omega⟩
 ·rw [if_neg h1];exact Int.le_refl _
theorem LogM.join_least {m:LogM} (w:Int):m.least≤(m.joinF w).1.least:=by
 unfold LogM.joinF
 by_cases h1:isWriter w=true
 ·rw [if_pos h1];split
  ·exact Int.le_refl _
  ·exact m.put_mono _ h1 _ fun _=>.inr (Int.le_refl _)
 ·rw [if_neg h1];exact Int.le_refl _
theorem LogM.leave_least {m:LogM} (w:Int):m.least≤(m.leaveF w).1.least:=by
 unfold LogM.leaveF
 by_cases h1:m.hereF w=true
 ·rw [if_pos h1];exact m.put_mono _ (LogM.hereF_writer h1).1 _ fun hh=>by cases hh
 ·rw [if_neg h1];exact Int.le_refl _
theorem WIn.other_put {lm:LogM} {m:WM} {t:Int} (h:WIn lm m t) (w:Int) (s:St) (hw:isWriter w=true) (hne:w≠m.me) (hl:lm.least≤(lm.put w s).least):WIn (lm.put w s) m t:=by
 have hs:(lm.put w s).seat m.me=lm.seat m.me:=by rw [seat_put lm w m.me s hw h.w,if_neg (fun e=>hne e.symm)]
 have htl:=h.tl
 exact ⟨h.w,by rw [hs];exact h.here,h.seen,h.bare,by omega,h.th,h.ns,h.sent,h.next,h.us,by rw [hs];exact h.said0,by rw [hs];exact h.saidU,h.mono,h.chain,h.took⟩
theorem LogM.take_seat {lm:LogM} (d:Dd) (hd:isWriter d.By=true) (x:Int) (hx:isWriter x=true) (s:St):LogM.seat ⟨lm.L++[d],upd lm.S d.By.toNat s⟩ x=if x=d.By then s else lm.seat x:=seat_put lm d.By x s hd hx
theorem WIn.other_take {lm:LogM} {m:WM} {t:Int} (h:WIn lm m t) (d:Dd) (hne:d.By≠m.me) (h0:(lm.takeF d).2.2=0):WIn (lm.takeF d).1 m t:=by
 have hle:=LogM.take_least (m:=lm) d
 obtain ⟨h1,h2,h3,h4,h5,h6,e⟩:=LogM.take_of _ h0
 have hw:=LogM.hereF_writer h1
 rw [e] at hle ⊢
 have hs:=LogM.take_seat (lm:=lm) d hw.1 m.me h.w ⟨(lm.seat d.By).here,d.No,d.Seen⟩
 rw [if_neg (fun e=>hne e.symm)] at hs
 have hseen:=h.seen
 have htl:=h.tl
 have hmine:∀ s,s≤lm.L.length→mine m.me ((lm.L++[d]).drop s)=mine m.me (lm.L.drop s):=by
  intro s hsl;rw [drop_append_one _ _ _ hsl,mine_append,mine_one,if_neg hne,List.append_nil]
 have hls:=lm.least_seat d.By hw.1 hw.2
 simp only at hle ⊢
 refine ⟨h.w,by rw [hs];exact h.here,by simp;omega,?_,by omega,?_,h.ns,?_,?_,fun i hi=>?_,by rw [hs];exact h.said0,by rw [hs];exact h.saidU,h.mono,h.chain,h.took⟩
 ·show ∃ X:_→Bool,m.base=(pre (lm.L++[d]) m.seen).filter _∧(∀ c∈pre (lm.L++[d]) m.seen,_)∧(∀ k,X k=true→∃ c∈pre (lm.L++[d]) m.seen,key c=k)
  rw [pre_append _ _ _ hseen];exact h.bare
 ·intro x hx
  rw [drop_append_one _ _ _ hseen] at hx
  rcases List.mem_append.1 hx with hx | hx
  ·exact h.th x hx
  ·simp at hx;subst hx;omega
 ·show _=mine m.me ((lm.L++[d]).drop m.seen)
  rw [hmine _ hseen];exact h.sent
 ·show _=cntBy m.me (lm.L++[d])+1+_
  rw [cntBy_of_ne _ _ _ hne];exact h.next
 ·have u:=h.us i hi
  have hsl:=u.s
  refine ⟨u.f,u.b,by show _=cntBy m.me (lm.L++[d])+1+_;rw [cntBy_of_ne _ _ _ hne];exact u.no,u.s,?_⟩
  show _≤((vis _ _ (apOs (pre (lm.L++[d]) _) (mine m.me ((lm.L++[d]).drop _)++_))).length:Int)
  rw [pre_append _ _ _ (by omega),hmine _ (by omega)];exact u.r
def WM.sendF (m:WM):WM:={ m with ns:=m.ns+1 }
theorem WIn.send_code {lm:LogM} {m:WM} {t:Int} (h:WIn lm m t) (ho:lm.Ok) (u:Dd) (us:List Dd) (hu:m.unsent=u :: us):(lm.takeF u).2.2=0∨(lm.takeF u).2.2=9:=by
 have h0:=h.us 0 (by rw [hu];simp)
 have e0:m.unsent[0]'(by rw [hu];simp)=u:=by simp only [hu];rfl
 rw [e0] at h0
 obtain ⟨uf,ub,un,us',ur⟩:=h0
 have hmem:u∈m.unsent:=by rw [hu];simp
 have hsaid:=h.saidU u hmem
 have hseen:=h.seen
 have hlast:=ho.last m.me h.w
 rcases lm.takeF_cases u with ⟨c1,e⟩ | ⟨_,c2,e⟩ | ⟨_,_,c3,e⟩ | ⟨_,_,_,_,_,e⟩ | ⟨_,_,_,_,c4,c5,e⟩ | ⟨_,_,_,_,_,_,e⟩
 ·exfalso
  unfold LogM.hereF at c1
  rw [ub,h.w,h.here] at c1;cases c1
 ·exfalso;apply c2;rw [un,ub,hlast];simp
 ·exfalso;rw [ub] at c3;omega
 ·right;rw [e]
 ·right
  rw [e]
  show (doF lm.chars u ((lm.L.length:Int)+1)).2=9
  have hsn:0≤u.Seen:=(deedFault_zero uf).2.2.2.1
  have hown:=ho.lok.own_seen m.me
  have hs2:=ho.seen2 m.me h.w
  have hv:=ho.lok.own_view m.me h.w u.Seen.toNat (by omega) (fun d hd hb=>by have:=hown.2 d hd hb;omega)
  have hv2:(vis u.Seen u.By (allF lm.L).1).length=(vis u.Seen m.me (apOs (pre lm.L u.Seen.toNat) (mine m.me (lm.L.drop u.Seen.toNat)))).length:=by
   rw [ub]
   rw [show ((u.Seen.toNat:Nat):Int)=u.Seen by omega] at hv
   exact hv
  rw [List.take_zero,List.append_nil] at ur
  have hm:mayDo lm.chars u=0∨mayDo lm.chars u=9:=by
   unfold mayDo
   rw [if_pos uf,if_neg (by show ¬ ((vis u.Seen u.By (allF lm.L).1).length:Int) < _;rw [hv2];omega)]
   split
   ·exact .inr rfl
   ·exact .inl rfl
  rcases hm with hm | hm
  ·exfalso;apply c5;rw [doF_ap hm (by omega)]
  ·rcases doF_cases lm.chars u ((lm.L.length:Int)+1) with ⟨_,e⟩ | ⟨h1,_⟩ | ⟨h1,_⟩ | ⟨h1,_⟩
   ·rw [e];exact hm
   ·rw [h1] at hm;omega
   ·rw [h1] at hm;omega
   ·rw [h1] at hm;omega
 ·left;rw [e]
theorem WIn.send {lm:LogM} {m:WM} {t:Int} (h:WIn lm m t) (u:Dd) (us:List Dd) (hu:m.unsent=u :: us) (h0:(lm.takeF u).2.2=0):WIn (lm.takeF u).1 m.sendF t:=by
 have hle:=LogM.take_least (m:=lm) u
 obtain ⟨h1,h2,h3,h4,h5,h6,e⟩:=LogM.take_of _ h0
 have hu0:=h.us 0 (by rw [hu];simp)
 have e0:m.unsent[0]'(by rw [hu];simp)=u:=by simp only [hu];rfl
 rw [e0] at hu0
 have ub:=hu0.b
 have hlen:=h.len
 have hul:m.unsent.length=us.length+1:=by rw [hu];rfl
 have hw:=LogM.hereF_writer h1
 rw [e] at hle ⊢
 have hs:=LogM.take_seat (lm:=lm) u hw.1 m.me h.w ⟨(lm.seat u.By).here,u.No,u.Seen⟩
 rw [if_pos ub.symm] at hs
 have hseen:=h.seen
 have htl:=h.tl
 have hmine:∀ s,s≤lm.L.length→mine m.me ((lm.L++[u]).drop s)=mine m.me (lm.L.drop s)++[u]:=by
  intro s hsl;rw [drop_append_one _ _ _ hsl,mine_append,mine_one,if_pos ub]
 have eun:m.sendF.unsent=us:=by
  show m.ds.drop (m.ns+1)=us
  rw [← List.drop_drop]
  show (m.unsent).drop 1=us
  rw [hu];rfl
 have hls:=lm.least_seat u.By hw.1 hw.2
 have hmono:=h.mono
 rw [hu,List.pairwise_cons] at hmono
 simp only at hle ⊢
 have hnsl:m.ns < m.ds.length:=by omega
 have hdn:m.ds[m.ns]=u:=by
  have:m.unsent[0]'(by rw [hu];simp)=m.ds[m.ns+0]'(by omega):=by unfold WM.unsent;rw [List.getElem_drop]
  rw [← e0,this];rfl
 have hs' : LogM.seat ⟨lm.L++[u],upd lm.S u.By.toNat ⟨(lm.seat u.By).here,u.No,u.Seen⟩⟩ m.sendF.me=⟨(lm.seat u.By).here,u.No,u.Seen⟩:=hs
 refine ⟨h.w,by rw [hs'];exact hw.2,by show m.seen≤(lm.L++[u]).length;simp;omega,?_,by omega,?_,?_,?_,?_,fun i hi=>?_,by rw [hs'];exact hu0.s,?_,?_,h.chain,h.took⟩
 ·show ∃ X:_→Bool,m.base=(pre (lm.L++[u]) m.seen).filter _∧(∀ c∈pre (lm.L++[u]) m.seen,_)∧(∀ k,X k=true→∃ c∈pre (lm.L++[u]) m.seen,key c=k)
  rw [pre_append _ _ _ hseen];exact h.bare
 ·intro x hx
  have hx:x∈(lm.L++[u]).drop m.seen:=hx
  rw [drop_append_one _ _ _ hseen] at hx
  rcases List.mem_append.1 hx with hx | hx
  ·exact h.th x hx
  ·simp at hx;subst hx;omega
 ·show m.ns+1≤m.opn.length
  unfold WM.ds at hnsl;simp at hnsl;omega
 ·show m.ds.take (m.ns+1)=mine m.me ((lm.L++[u]).drop m.seen)
  rw [hmine _ hseen,List.take_succ_eq_append_getElem hnsl,hdn,h.sent]
 ·show m.next=cntBy m.me (lm.L++[u])+1+_
  rw [cntBy_add,if_pos ub,eun,h.next];omega
 ·have hi' : i < us.length:=by rw [eun] at hi;exact hi
  have ei:m.sendF.unsent[i]=m.unsent[i+1]'(by omega):=by simp only [eun,hu];rfl
  rw [ei]
  have v:=h.us (i+1) (by omega)
  have hsl:=v.s
  refine ⟨v.f,v.b,?_,v.s,?_⟩
  ·show _=cntBy m.me (lm.L++[u])+1+_
   rw [cntBy_add,if_pos ub,v.no];omega
  ·show _≤((vis _ _ (apOs (pre (lm.L++[u]) _) (mine m.me ((lm.L++[u]).drop _)++m.sendF.unsent.take i))).length:Int)
   rw [pre_append _ _ _ (by omega),hmine _ (by omega),eun,List.append_assoc]
   have:=v.r
   rw [show m.unsent.take (i+1)=[u]++us.take i by rw [hu];rfl] at this
   exact this
 ·rw [hs',eun];exact fun x hx=>hmono.1 x hx
 ·rw [eun];exact hmono.2
theorem head_drop (L:List Dd) (s:Nat) (h:s < L.length):L[s]∈L.drop s:=by rw [List.drop_eq_getElem_cons h];exact List.mem_cons_self
theorem mem_drop_succ {L:List Dd} {s:Nat} (h:s < L.length) {d:Dd} (hd:d∈L.drop (s+1)):d∈L.drop s:=by rw [List.drop_eq_getElem_cons h];exact List.mem_cons_of_mem _ hd
theorem vis_chain (me:Int) (s b:Int) (hne:b≠me) (hs:s < 1073741824):∀ (os:List Dd) (l:List Ch),(∀ o∈os,o.By=me)→Chain l os→(vis s b (apOs l os)).length=(vis s b l).length∧l.length≤(apOs l os).length:=by
 intro os
 induction os with
 | nil=>intro l _ _;exact ⟨rfl,Nat.le_refl _⟩
 | cons o os ih=>
  intro l ho hc
  obtain ⟨i1,i2⟩:=ih (apO l o) (fun x hx=>ho x (by simp [hx])) hc.2
  have hl:(apO l o).length=l.length+o.Text.size:=ap_length hc.1
  refine ⟨?_,?_⟩
  ·show (vis s b (apOs (apO l o) os)).length=_
   rw [i1];exact vis_other hc.1 (by omega) s b (by rw [ho o (by simp)];exact hne) hs
  ·show _≤(apOs (apO l o) os).length
   omega
theorem WIn.hear_code {lm:LogM} {m:WM} {t:Int} (h:WIn lm m t) (ho:lm.Ok) (hl:m.seen < lm.L.length) (hne:lm.L[m.seen].By≠m.me):mayDo m.chars lm.L[m.seen]=0∨mayDo m.chars lm.L[m.seen]=9:=by
 have hd:=ho.deeds m.seen hl
 obtain ⟨hm,_,_⟩:=pre_succ ho.all m.seen hl
 obtain ⟨f1,g1,e1⟩:=mayDo_zero hm
 have hth:=h.th lm.L[m.seen] (head_drop _ _ hl)
 have hbv:=h.base_vis lm.L[m.seen].Seen lm.L[m.seen].By hth
 have hlen:=ho.len
 have hv:=(vis_chain m.me lm.L[m.seen].Seen lm.L[m.seen].By hne (by have:=hd.s1;omega) m.ds m.base (fun o hm=>by
  obtain ⟨x,hx,rfl⟩:=List.mem_map.1 hm;exact (h.tOpen x hx).1) h.chain).1
 have:(vis lm.L[m.seen].Seen lm.L[m.seen].By m.chars).length=(vis lm.L[m.seen].Seen lm.L[m.seen].By (pre lm.L m.seen)).length:=by
  show (vis _ _ (apOs m.base m.ds)).length=_
  rw [hv,hbv]
 unfold mayDo
 rw [if_pos f1,if_neg (by rw [this];omega)]
 split
 ·exact .inr rfl
 ·exact .inl rfl
theorem bare_step {lm:LogM} (ho:lm.Ok) (s:Nat) (hl:s < lm.L.length) (t:Int) (hth:t≤lm.L[s].Seen) (X:Int × Int × Int→Bool) (hx:∀ c∈pre lm.L s,X (key c)=true→doneB t c=true) (hk:∀ k,X k=true→∃ c∈pre lm.L s,key c=k) :
 ap ((pre lm.L s).filter fun c=>!X (key c)) lm.L[s] ((s:Int)+1)=(pre lm.L (s+1)).filter (fun c=>!X (key c))∧(∀ c∈pre lm.L (s+1),X (key c)=true→doneB t c=true)∧(∀ k,X k=true→∃ c∈pre lm.L (s+1),key c=k):=by
 obtain ⟨hm,hp,_⟩:=pre_succ ho.all s hl
 have hd:=ho.deeds s hl
 have hmade:=ho.lok.made s (by omega)
 have hnew:∀ c∈newOf lm.L[s] ((s:Int)+1),X (key c)=false:=by
  intro c hc
  cases hX:X (key c)
  ·rfl
  ·obtain ⟨c',hc',he⟩:=hk _ hX
   obtain ⟨n1,n2,_⟩:=newOf_mem hc
   have:=(hmade.good c' hc').no
   simp only [key,Prod.mk.injEq] at he
   rw [he.1,he.2.1,n1,n2,hd.no] at this
   omega
 have hsee:∀ c∈pre lm.L s,c.sees lm.L[s].Seen lm.L[s].By=true→X (key c)=false:=by
  intro c hc hs
  cases hX:X (key c)
  ·rfl
  ·rw [done_sees t _ _ c hth (hx c hc hX)] at hs;cases hs
 refine ⟨?_,fun c hc hX=>?_,fun k hX=>?_⟩
 ·rw [hp]
  refine (ap_filter (fun c=>!X (key c)) (pre lm.L s) lm.L[s] _ (ho.lok.noOpen s (by omega) _) ?_ ?_ ?_).symm
  ·intro c hc;rw [hnew c hc];rfl
  ·intro c hc hs;rw [hsee c hc hs];rfl
  ·intro c hc hs
   show (!X (key c))=true
   rw [hsee c hc hs];rfl
 ·rw [hp] at hc
  unfold ap at hc
  split at hc
  ·rcases insGo_mem _ _ _ _ _ c hc with h1 | h1
   ·rw [hnew c h1] at hX;cases hX
   ·exact hx c h1 hX
  ·obtain ⟨x,hx1,e⟩:=takeGo_mem _ _ _ _ _ _ _ c hc
   rcases e with rfl | ⟨hs,rfl⟩
   ·exact hx _ hx1 hX
   ·have:=hsee x hx1 hs
    have hX:X (key x)=true:=hX
    rw [this] at hX;cases hX
 ·obtain ⟨c,hc,he⟩:=hk k hX
  have:key c∈(pre lm.L (s+1)).map key:=by
   rw [hp]
   unfold ap
   split
   ·obtain ⟨a,b,hl,e⟩:=insGo_split (fun c=>c.sees lm.L[s].Seen lm.L[s].By) (openOther lm.L[s].By) (newOf lm.L[s] ((s:Int)+1)) (pre lm.L s) lm.L[s].At.toNat
    rw [e]
    rw [hl] at hc
    simp only [List.map_append,List.mem_append,List.mem_map] at hc ⊢
    rcases hc with hc | hc
    ·exact .inl (.inl ⟨c,hc,rfl⟩)
    ·exact .inr ⟨c,hc,rfl⟩
   ·rw [takeGo_key];exact List.mem_map_of_mem hc
  obtain ⟨c',hc',he'⟩:=List.mem_map.1 this
  exact ⟨c',hc',by rw [he',he]⟩
def WM.hearO (m:WM) (d:Dd):WM:={ m with base:=ap m.base d ((m.seen:Int)+1),seen:=m.seen+1 }
def WM.hearI (m:WM) (d:Dd):WM:={ m with base:=ap m.base d ((m.seen:Int)+1),seen:=m.seen+1,opn:=m.opn.tail,ns:=m.ns - 1 }
theorem mine_drop (w:Int) (L:List Dd) (s:Nat) (h:s < L.length):mine w (L.drop s)=(if L[s].By=w then [L[s]] else [])++mine w (L.drop (s+1)):=by
 rw [List.drop_eq_getElem_cons h,← mine_one,← mine_append];rfl
theorem WIn.us_mono {lm:LogM} {m m' : WM} {t:Int} (h:WIn lm m t) (hm:m'.me=m.me) (hu:m'.unsent=m.unsent) (hs:m.seen≤m'.seen):∀ i (h:i < m'.unsent.length),UOk lm.L m' i m'.unsent[i]:=by
 intro i hi
 have e:m'.unsent[i]=m.unsent[i]'(by rw [← hu];exact hi):=by simp only [hu]
 rw [e]
 have u:=h.us i (by rw [← hu];exact hi)
 have:=u.s
 have hu' : m'.unsent.take i=m.unsent.take i:=by rw [hu]
 exact ⟨u.f,by rw [hm];exact u.b,by rw [hm];exact u.no,by omega,by rw [hm,hu'];exact u.r⟩
theorem WIn.hearO {lm:LogM} {m:WM} {t:Int} (h:WIn lm m t) (ho:lm.Ok) (hl:m.seen < lm.L.length) (hne:lm.L[m.seen].By≠m.me) (h0:mayDo m.chars lm.L[m.seen]=0) :
 WIn lm (m.hearO lm.L[m.seen]) t∧mayDo m.base lm.L[m.seen]=0∧(m.hearO lm.L[m.seen]).chars=ap m.chars lm.L[m.seen] ((m.seen:Int)+1):=by
 have hlen:=ho.len
 have hb:∀ o∈m.opn,o.d.By=m.me∧o.d.Seen < (m.seen:Int)+1:=by
  intro o hop
  have hd:o.d∈m.ds:=List.mem_map_of_mem hop
  rw [h.ds_eq] at hd
  refine ⟨(h.tOpen o hop).1,?_⟩
  rcases List.mem_append.1 hd with hd | hd
  ·obtain ⟨h1,h2⟩:=List.mem_filter.1 hd
   have hown:=(ho.lok.own_seen m.me).2 o.d (List.mem_of_mem_drop h1) (by simpa using h2)
   have:=ho.seen2 m.me h.w
   have:=h.said0
   omega
  ·obtain ⟨i,hi,e⟩:=List.getElem_of_mem hd
   have:=(h.us i hi).s
   rw [e] at this;omega
 obtain ⟨r1,r2,r3,r4⟩:=hear_other m.me lm.L[m.seen] ((m.seen:Int)+1) (fun e=>hne e.symm) (by omega) (by omega) m.opn m.base hb (h.lf ho).noOther h.chain h.took h0
 obtain ⟨X,hX,hx,hk⟩:=h.bare
 obtain ⟨b1,b2,b3⟩:=bare_step ho m.seen hl t (h.th _ (head_drop _ _ hl)) X hx hk
 have hs0:=h.said0
 refine ⟨⟨h.w,h.here,by show m.seen+1≤_;omega,⟨X,by show ap m.base _ _=_;rw [hX];exact b1,b2,b3⟩,h.tl,fun d hd=>h.th d ?_,h.ns,?_,h.next,h.us_mono rfl rfl (by show m.seen≤m.seen+1;omega),by show (lm.seat m.me).seen≤((m.seen+1:Nat):Int);omega,h.saidU,h.mono,r2,r4⟩,r1,r3⟩
 ·exact mem_drop_succ hl hd
 ·show m.ds.take m.ns=mine m.me (lm.L.drop (m.seen+1))
  rw [h.sent,mine_drop _ _ _ hl,if_neg hne];rfl
end Go.Proofs.YtneoeokfffnonaaGreatDoor
namespace Go.Proofs.YtneoeokfffnonaaGreatDoor
open Go.RowKit
def numsOf (m:WM) (d:Dd) (o:OpenD):Ch→Ch:=numC m.me d.No ((m.seen:Int)+1) fun k=>decide (k∈o.took.map key)
theorem WIn.own_head {lm:LogM} {m:WM} {t:Int} (h:WIn lm m t) (hl:m.seen < lm.L.length) (hb:lm.L[m.seen].By=m.me):∃ o os,m.opn=o :: os∧o.d=lm.L[m.seen]∧1≤m.ns∧(os.map (·.d)).take (m.ns - 1)=mine m.me (lm.L.drop (m.seen+1))∧m.unsent=(os.map (·.d)).drop (m.ns - 1):=by
 have h1:=h.sent
 rw [mine_drop _ _ _ hl,if_pos hb] at h1
 have hn:m.ns≠0:=by intro e;rw [e] at h1;simp at h1
 obtain ⟨k,hk⟩:∃ k,m.ns=k+1:=⟨m.ns - 1,by omega⟩
 have hu:m.unsent=m.ds.drop m.ns:=rfl
 rw [hk] at h1 hu
 unfold WM.ds at h1 hu
 cases ho:m.opn with
 | nil=>rw [ho] at h1;simp at h1
 | cons o os=>
  rw [ho] at h1 hu
  simp only [List.map_cons,List.take_succ_cons,List.singleton_append,List.cons.injEq,List.drop_succ_cons] at h1 hu
  exact ⟨o,os,rfl,h1.1,by omega,by rw [hk];exact h1.2,by rw [hk];exact hu⟩
theorem WIn.hearI {lm:LogM} {m:WM} {t:Int} (h:WIn lm m t) (ho:lm.Ok) (hl:m.seen < lm.L.length) (hb:lm.L[m.seen].By=m.me) (o:OpenD) (os:List OpenD) (hop:m.opn=o :: os) :
 WIn lm (m.hearI lm.L[m.seen]) t∧o.d=lm.L[m.seen]∧mayDo m.base lm.L[m.seen]=0∧(m.hearI lm.L[m.seen]).chars=m.chars.map (numsOf m lm.L[m.seen] o)∧(m.hearI lm.L[m.seen]).unsent=m.unsent:=by
 obtain ⟨o',os',hop',hod,hn1,hns,hun⟩:=h.own_head hl hb
 rw [hop] at hop'
 cases hop'
 have hlen:=ho.len
 have hlf:=h.lf ho
 have hnos:=h.nos ho
 have hseen0:=h.said0
 have hdsl:m.ds.length=os.length+1:=by unfold WM.ds;rw [hop];simp
 have hch:=h.chain
 have htk:=h.took
 unfold WM.ds at hch
 rw [hop] at hch htk
 have hm0:mayDo m.base o.d=0:=hch.1
 have hrest:∀ x∈os,x.d.By=m.me∧o.d.No < x.d.No:=by
  intro x hx
  obtain ⟨i,hi,rfl⟩:=List.getElem_of_mem hx
  have h0:=hnos 0 (by omega)
  have h1:=hnos (i+1) (by omega)
  have e0:m.ds[0]'(by omega)=o.d:=by simp only [WM.ds,hop];rfl
  have e1:m.ds[i+1]'(by omega)=os[i].d:=by simp only [WM.ds,hop];simp
  rw [e0] at h0
  rw [e1] at h1
  exact ⟨h1.1,by rw [h0.2,h1.2];omega⟩
 have hoNo:o.d.By=m.me∧o.d.No=cntBy m.me (lm.L.take m.seen)+1:=by
  have h0:=hnos 0 (by omega)
  have e0:m.ds[0]'(by omega)=o.d:=by simp only [WM.ds,hop];rfl
  rw [e0] at h0
  exact ⟨h0.1,by rw [h0.2];simp⟩
 have hK:∀ k,decide (k∈o.took.map key)=true↔k∈(takenOf m.base o.d).map key:=by
  intro k;rw [decide_eq_true_eq,htk.1]
 have hnum:(apO m.base o.d).map (numC o.d.By o.d.No ((m.seen:Int)+1) fun k=>decide (k∈o.took.map key))=ap m.base o.d ((m.seen:Int)+1):=by
  refine ap_number m.base o.d _ (by omega) _ hlf.dist (fun c hc hcc=>?_) (by rw [hoNo.1];exact hlf.noOther) hK (h.kinds o (by rw [hop];simp))
  have:=hlf.no c hc (by rw [hcc.1,hoNo.1])
  rw [hcc.2,hoNo.2] at this;omega
 have hKb:∀ k,k∈o.took.map key→∃ c∈m.base,key c=k∧c.sees o.d.Seen o.d.By=true:=by
  intro k hk
  rw [htk.1] at hk
  obtain ⟨c,hc,he⟩:=List.mem_map.1 hk
  unfold takenOf at hc
  split at hc
  ·have:=takenGo_sub _ _ _ _ _ _ c hc
   exact ⟨c,this.1,he,this.2⟩
  ·simp at hc
 have hlf1:=hlf.step o.d hoNo.1 h.w (by rw [hoNo.2];exact Int.le_refl _)
 obtain ⟨n1,n2,n3⟩:=number_rest m.me o.d.No ((m.seen:Int)+1) (fun k=>decide (k∈o.took.map key)) os (apO m.base o.d) (fun x hx=>⟨(hrest x hx).1,by have:=(hrest x hx).2;omega,fun k=>by
  rw [decide_eq_false_iff_not]
  intro hk
  obtain ⟨c,hc,he,_⟩:=hKb _ hk
  simp only [key,Prod.mk.injEq] at he
  have:=hlf.no c hc he.1
  have:=(hrest x hx).2
  rw [hoNo.2] at this
  omega⟩) hlf1.noOther (fun c hc hk=>by
  have hk:key c∈o.took.map key:=by simpa using hk
  have hkind:=h.kinds o (by rw [hop];simp)
  rcases hkind with hkind | hkind
  ·exfalso
   rw [htk.1] at hk
   unfold takenOf at hk
   rw [if_neg (by omega)] at hk
   simp at hk
  ·have hap:apO m.base o.d=takeGo o.d.Seen o.d.By o.d.At (o.d.At+o.d.Many) 1073741824 m.base 0:=by unfold apO ap;rw [if_neg (by omega)]
   rw [hap] at hc
   have ht1:=htk.1
   unfold takenOf at ht1
   rw [if_pos hkind] at ht1
   rw [ht1] at hk
   exact taken_bit o.d.Seen m.me o.d.At (o.d.At+o.d.Many) h.w m.base 0 hlf.dist c (by rw [hoNo.1] at hc;exact hc) (by rw [hoNo.1] at hk;exact hk)) h.w hch.2 htk.2
 rw [hoNo.1] at hnum
 rw [hnum] at n1 n2 n3
 obtain ⟨X,hX,hx,hk⟩:=h.bare
 obtain ⟨b1,b2,b3⟩:=bare_step ho m.seen hl t (h.th _ (head_drop _ _ hl)) X hx hk
 have eun:(m.hearI lm.L[m.seen]).unsent=m.unsent:=by
  rw [hun]
  show (m.opn.tail.map (·.d)).drop (m.ns - 1)=_
  rw [hop];rfl
 have hnsl:=h.ns
 refine ⟨⟨h.w,h.here,by show m.seen+1≤_;omega,⟨X,by show ap m.base _ _=_;rw [hX];exact b1,b2,b3⟩,h.tl,fun d hd=>h.th d (mem_drop_succ hl hd),?_,?_,by rw [eun];exact h.next,h.us_mono rfl eun (by show m.seen≤m.seen+1;omega),by show (lm.seat m.me).seen≤((m.seen+1:Nat):Int);omega,by rw [eun];exact h.saidU,by rw [eun];exact h.mono,?_,?_⟩,hod,?_,?_,eun⟩
 ·show m.ns - 1≤m.opn.tail.length
  rw [hop] at hnsl ⊢;simp at hnsl ⊢;omega
 ·show ((m.opn.tail.map (·.d)).take (m.ns - 1))=_
  rw [hop];exact hns
 ·show Chain (ap m.base _ _) (m.opn.tail.map (·.d))
  rw [hop,← hod];exact n1
 ·show TookOk (ap m.base _ _) m.opn.tail
  rw [hop,← hod];exact n3
 ·rw [← hod];exact hm0
 ·show apOs (ap m.base _ _) (m.opn.tail.map (·.d))=_
  rw [hop,← hod]
  show apOs _ (os.map (·.d))=(apOs m.base (m.opn.map (·.d))).map _
  rw [n2,hop]
  rfl
theorem WIn.least_ok {lm:LogM} {m:WM} {t:Int} (h:WIn lm m t):(lm.seat m.me).seen≤m.least∧m.least≤m.seen∧∀ u∈m.unsent,m.least≤u.Seen:=by
 have h1:=h.said0
 have h2:=h.saidU
 have h3:=h.us
 have h4:=h.mono
 unfold WM.least
 cases hu:m.unsent with
 | nil=>exact ⟨h1,Int.le_refl _,fun u hx=>by simp at hx⟩
 | cons u us=>
  have e0:=(h3 0 (by rw [hu];simp)).s
  simp only [hu,List.getElem_cons_zero] at e0
  rw [hu,List.pairwise_cons] at h4
  refine ⟨h2 u (by rw [hu];simp),e0,fun x hx=>?_⟩
  rcases List.mem_cons.1 hx with rfl | hx
  ·exact Int.le_refl _
  ·exact h4.1 x hx
theorem WIn.says {lm:LogM} {m:WM} {t:Int} (h:WIn lm m t):(lm.saysF m.me m.least).2=0∧WIn (lm.saysF m.me m.least).1 m t∧(lm.saysF m.me m.least).1=lm.put m.me ⟨true,(lm.seat m.me).last,m.least⟩:=by
 obtain ⟨l1,l2,l3⟩:=h.least_ok
 have hh:lm.hereF m.me=true:=by unfold LogM.hereF;rw [h.w,h.here];rfl
 have hseen:=h.seen
 have e:lm.saysF m.me m.least=(lm.put m.me ⟨(lm.seat m.me).here,(lm.seat m.me).last,m.least⟩,0):=by
  unfold LogM.saysF;rw [if_pos hh,if_neg (by omega)]
 have hle:=LogM.says_least (m:=lm) m.me m.least
 rw [e] at hle ⊢
 have hs:∀ s,(lm.put m.me s).seat m.me=s:=fun s=>by rw [seat_put lm m.me m.me s h.w h.w,if_pos rfl]
 have htl:=h.tl
 rw [h.here] at hle ⊢
 exact ⟨rfl,⟨h.w,by rw [hs],h.seen,h.bare,by simp only at hle ⊢;omega,h.th,h.ns,h.sent,h.next,h.us,by rw [hs];exact l2,by rw [hs];exact l3,h.mono,h.chain,h.took⟩,rfl⟩
def WM.clearF (m:WM) (least:Int):WM:={ m with base:=clearOf least m.base }
def leastFor (lm:LogM) (seen:Nat):Int:=(lm.L.drop seen).foldl (fun n d=>min n d.Seen) lm.least
theorem foldl_min (ds:List Dd):∀ n:Int,ds.foldl (fun n d=>min n d.Seen) n≤n∧(∀ d∈ds,ds.foldl (fun n d=>min n d.Seen) n≤d.Seen)∧∀ t,t≤n→(∀ d∈ds,t≤d.Seen)→t≤ds.foldl (fun n d=>min n d.Seen) n:=by
 induction ds with
 | nil=>intro n;exact ⟨Int.le_refl _,fun d hd=>by simp at hd,fun t ht _=>ht⟩
 | cons x ds ih=>
  intro n
  obtain ⟨i1,i2,i3⟩:=ih (min n x.Seen)
  refine ⟨by show List.foldl _ (min n x.Seen) ds≤n;omega,fun d hd=>?_,fun t ht h=>?_⟩
  ·show List.foldl _ (min n x.Seen) ds≤d.Seen
   rcases List.mem_cons.1 hd with rfl | hd
   ·omega
   ·exact i2 d hd
  ·have:=h x (by simp)
   exact i3 t (by omega) fun d hd=>h d (by simp [hd])
theorem WIn.clear {lm:LogM} {m:WM} {t:Int} (h:WIn lm m t) (ho:lm.Ok):WIn lm (m.clearF (leastFor lm m.seen)) (leastFor lm m.seen)∧(m.clearF (leastFor lm m.seen)).chars=clearOf (leastFor lm m.seen) m.chars∧t≤leastFor lm m.seen:=by
 obtain ⟨f1,f2,f3⟩:=foldl_min (lm.L.drop m.seen) lm.least
 have htl:t≤leastFor lm m.seen:=f3 t h.tl h.th
 generalize hT:leastFor lm m.seen=T at *
 have f1:T≤lm.least:=by rw [← hT];exact f1
 have f2:∀ d∈lm.L.drop m.seen,T≤d.Seen:=fun d hd=>by rw [← hT];exact f2 d hd
 have hop:∀ o∈m.opn,o.d.By=m.me∧T≤o.d.Seen:=by
  intro o hox
  have hd:o.d∈m.ds:=List.mem_map_of_mem hox
  rw [h.ds_eq] at hd
  refine ⟨(h.tOpen o hox).1,?_⟩
  rcases List.mem_append.1 hd with hd | hd
  ·exact f2 _ (List.mem_filter.1 hd).1
  ·have:=lm.least_seat m.me h.w h.here
   have:=h.saidU _ hd
   omega
 obtain ⟨c1,c2,c3⟩:=clear_open m.me T m.opn m.base hop (h.lf ho).noOther h.chain h.took
 obtain ⟨X,hX,hx,hk⟩:=h.bare
 have hdist:=dist_of_made (ho.lok.made m.seen h.seen)
 have hkeyEq:∀ a∈pre lm.L m.seen,∀ b∈pre lm.L m.seen,key a=key b→a=b:=by
  intro a ha b hb he
  obtain ⟨i,hi,rfl⟩:=List.getElem_of_mem ha
  obtain ⟨j,hj,rfl⟩:=List.getElem_of_mem hb
  have hp:=List.pairwise_iff_getElem.1 hdist
  rcases Nat.lt_trichotomy i j with h | h | h
  ·exact absurd he (hp i j hi hj h)
  ·subst h;rfl
  ·exact absurd he.symm (hp j i hj hi h)
 refine ⟨⟨h.w,h.here,h.seen,⟨fun k=>X k||(pre lm.L m.seen).any (fun c=>decide (key c=k)&&doneB T c),?_,fun c hc hX'=>?_,fun k hX'=>?_⟩,f1,f2,h.ns,h.sent,h.next,h.us_mono rfl rfl (Nat.le_refl _),h.said0,h.saidU,h.mono,c1,c3⟩,c2,htl⟩
 ·show clearOf T m.base=_
  rw [hX]
  unfold clearOf
  rw [List.filter_filter]
  apply List.filter_congr
  intro c hc
  have hany:((pre lm.L m.seen).any fun c'=>decide (key c'=key c)&&doneB T c')=doneB T c:=by
   rw [Bool.eq_iff_iff,List.any_eq_true]
   constructor
   ·rintro ⟨c',hc',hq⟩
    simp only [Bool.and_eq_true,decide_eq_true_eq] at hq
    rw [← hkeyEq c' hc' c hc hq.1];exact hq.2
   ·intro hd;exact ⟨c,hc,by rw [hd];simp⟩
  show (!doneB T c&&!X (key c)) = !(X (key c)||(pre lm.L m.seen).any fun c'=>decide (key c'=key c)&&doneB T c')
  rw [hany]
  cases X (key c) <;> cases doneB T c <;> rfl
 ·simp only [Bool.or_eq_true,List.any_eq_true,Bool.and_eq_true,decide_eq_true_eq] at hX'
  rcases hX' with hX' | ⟨c',hc',he,hd⟩
  ·have:=hx c hc hX'
   unfold doneB at this ⊢
   simp only [Bool.and_eq_true,decide_eq_true_eq] at this ⊢
   omega
  ·rw [← hkeyEq c' hc' c hc he];exact hd
 ·simp only [Bool.or_eq_true,List.any_eq_true,Bool.and_eq_true,decide_eq_true_eq] at hX'
  rcases hX' with hX' | ⟨c',hc',he,_⟩
  ·exact hk k hX'
  ·exact ⟨c',hc',he⟩
def WM.new (lm:LogM) (w:Int):WM:=⟨w,lm.L.length,(lm.seat w).last+1,(allF lm.L).1,[],0⟩
theorem WIn.new {lm:LogM} (ho:lm.Ok) (w:Int) (hw:isWriter w=true) (hn:(lm.seat w).here=false):(lm.joinF w).2=((lm.seat w).last+1,0)∧WIn (lm.joinF w).1 (WM.new lm w) 0:=by
 have e:lm.joinF w=(lm.put w ⟨true,(lm.seat w).last,lm.L.length⟩,(lm.seat w).last+1,0):=by
  unfold LogM.joinF;rw [if_pos hw,if_neg (by rw [hn];simp)]
 have hle:=LogM.join_least (m:=lm) w
 have h0:=ho.least0
 rw [e] at hle ⊢
 simp only at hle ⊢
 have hs:∀ s,(lm.put w s).seat w=s:=fun s=>by rw [seat_put lm w w s hw hw,if_pos rfl]
 have hdl:∀ d,d∉lm.L.drop lm.L.length:=fun d hd=>by rw [List.drop_length] at hd;simp at hd
 refine ⟨trivial,⟨hw,by show ((lm.put w _).seat w).here=true;rw [hs],Nat.le_refl _,⟨fun _=>false,?_,(fun _ _ h=>Bool.noConfusion h),(fun _ h=>Bool.noConfusion h)⟩,by omega,fun d hd=>absurd hd (hdl d),Nat.le_refl _,?_,?_,fun i hi=>by simp [WM.unsent,WM.ds,WM.new] at hi,by show ((lm.put w _).seat w).seen≤_;rw [hs];exact Int.le_refl _,fun u hu=>by simp [WM.unsent,WM.ds,WM.new] at hu,by simp [WM.unsent,WM.ds,WM.new],trivial,trivial⟩⟩
 ·show (allF lm.L).1=(pre lm.L lm.L.length).filter _
  rw [pre_len];exact (List.filter_eq_self.2 (fun c _=>rfl)).symm
 ·show List.take 0 _=mine w (lm.L.drop lm.L.length)
  rw [List.drop_length];rfl
 ·show (lm.seat w).last+1=cntBy w lm.L+1+_
  rw [ho.last w hw];simp [WM.unsent,WM.ds,WM.new]
end Go.Proofs.YtneoeokfffnonaaGreatDoor
namespace Go.Proofs.YtneoeokfffnonaaGreatDoor
open Go.RowKit
theorem WIn.viewN {lm:LogM} {m:WM} {t:Int} (h:WIn lm m t) (ho:lm.Ok) (s b:Int) (hs:t≤s):Go.Proofs.YtneoeokfffnonaaGreatDoor.viewN s b m.chars=Go.Proofs.YtneoeokfffnonaaGreatDoor.viewN s b (apOs (pre lm.L m.seen) m.ds):=by
 unfold Go.Proofs.YtneoeokfffnonaaGreatDoor.viewN;rw [h.view ho s b hs]
theorem WIn.baseN {lm:LogM} {m:WM} {t:Int} (h:WIn lm m t) (s b:Int) (hs:t≤s):Go.Proofs.YtneoeokfffnonaaGreatDoor.viewN s b m.base=Go.Proofs.YtneoeokfffnonaaGreatDoor.viewN s b (pre lm.L m.seen):=by
 unfold Go.Proofs.YtneoeokfffnonaaGreatDoor.viewN;rw [h.base_vis s b hs]
theorem LOk.gone_out {L:List Dd} (h:LOk L):∀ i,i≤L.length→∀ c∈pre L i,0 < c.Gone→0 < c.Out:=by
 intro i
 induction i with
 | zero=>intro _ c hc;rw [pre_zero] at hc;simp at hc
 | succ i ih=>
  intro hi
  have hil:i < L.length:=by omega
  intro c hc hg
  obtain ⟨_,hp,_⟩:=pre_succ h.all i hil
  have hlen:=h.len
  have hmade:=h.made i (by omega)
  rw [hp] at hc
  unfold ap at hc
  split at hc
  ·rcases insGo_mem _ _ _ _ _ c hc with h1 | h1
   ·obtain ⟨_,_,_,_,h5,_⟩:=newOf_mem h1;omega
   ·exact ih (by omega) c h1 hg
  ·obtain ⟨x,hx,e⟩:=takeGo_mem _ _ _ _ _ _ _ c hc
   rcases e with rfl | ⟨_,rfl⟩
   ·exact ih (by omega) _ hx hg
   ·have:=(hmade.good x hx).out0
    rw [mark_Out]
    unfold out1
    split
    ·omega
    ·rename_i hne
     by_cases e0:x.Out=0
     ·exfalso;exact hne ⟨by omega,.inl e0⟩
     ·omega
theorem LOk.view_all {L:List Dd} (h:LOk L) (b:Int):viewN L.length b (allF L).1=textF (allF L).1:=by
 unfold textF
 have key:∀ c∈(allF L).1,c.sees L.length b=c.sees 1073741823 (-1):=by
  intro c hc
  have hc' : c∈pre L L.length:=by rw [pre_len];exact hc
  have g:=(h.made L.length (Nat.le_refl _)).good c hc'
  have go:=h.gone_out L.length (Nat.le_refl _) c hc'
  have hlen:=h.len
  have g1:=g.in2
  have g2:=g.out1
  have g3:=bad1_false g.b1
  unfold Ch.sees
  rw [knowsOut_took,knowsOut_took,took_no c.Gone (-1) rfl]
  have e1:c.knowsIn L.length b=true:=by unfold Ch.knowsIn;simp;left;omega
  have e2:c.knowsIn 1073741823 (-1)=true:=by unfold Ch.knowsIn;simp;left;omega
  rw [e1,e2]
  have e3:decide (c.Out≤(L.length:Int))=true:=by simp;omega
  have e4:decide (c.Out≤1073741823)=true:=by simp;omega
  rw [e3,e4]
  by_cases e:0 < c.Out
  ·simp [e]
  ·have:c.Gone=0:=by
    by_cases hz:0 < c.Gone
    ·exact absurd (go hz) e
    ·omega
   rw [this,took_zero]
 unfold viewN vis
 congr 1
 exact List.filter_congr key
end Go.Proofs.YtneoeokfffnonaaGreatDoor
namespace Go.Proofs.YtneoeokfffnonaaGreatDoor
open Go.RowKit
structure DkM where
 (lm:LogM) (W:Nat→Option WM)
structure DStep where
 (Kind W At Many:Int) (Text:ByteArray)
def DkM.new:DkM:=⟨LogM.new,fun _=>none⟩
def DkM.writer (d:DkM) (w:Int):Option WM:=if isWriter w then d.W w.toNat else none
def DkM.set (d:DkM) (lm:LogM) (w:Int) (m:Option WM):DkM:=⟨lm,fun j=>if j=w.toNat then m else d.W j⟩
def DkM.drop (d:DkM) (w:Int):DkM:=d.set (d.lm.leaveF w).1 w none
def DkM.put (d:DkM) (m:WM) (x:Dd):DkM × Int:=if mayDo m.chars x=0 then (d.set d.lm m.me (some (m.doF x)),0) else (d,mayDo m.chars x)
def DkM.send (d:DkM) (m:WM):DkM × Int:=match m.unsent with
 | []=>(d,5)
 | u :: _=>if (d.lm.takeF u).2.2=0 then (d.set (d.lm.takeF u).1 m.me (some m.sendF),0) else (d.drop m.me,(d.lm.takeF u).2.2)
def WM.hear (m:WM) (x:Dd):WM:=if x.By=m.me then m.hearI x else m.hearO x
def DkM.hear (d:DkM) (m:WM):DkM × Int:=match d.lm.L[m.seen]? with
 | none=>(d,5)
 | some x=>if x.By≠m.me∧mayDo m.chars x≠0 then (d.drop m.me,mayDo m.chars x) else (d.set (d.lm.saysF m.me (m.hear x).least).1 m.me (some (m.hear x)),0)
def DkM.step (d:DkM) (x:DStep):DkM × Int:=
 if x.Kind < 1∨7 < x.Kind then (d,2)
 else if x.Kind=1 then (if (d.lm.joinF x.W).2.2=0 then (d.set (d.lm.joinF x.W).1 x.W (some (WM.new d.lm x.W)),0) else (d,(d.lm.joinF x.W).2.2))
 else match d.writer x.W with
  | none=>(d,5)
  | some m=>
   if x.Kind=2 then d.put m (m.deed 1 x.At 0 x.Text)
   else if x.Kind=3 then d.put m (m.deed 2 x.At x.Many ByteArray.empty)
   else if x.Kind=4 then d.send m
   else if x.Kind=5 then d.hear m
   else if x.Kind=6 then (d.set d.lm m.me (some (m.clearF (leastFor d.lm m.seen))),0)
   else (d.drop m.me,0)
structure DkM.Ok (d:DkM):Prop where
 lm:d.lm.Ok
 no:∀ j,j < 4→d.W j=none→(d.lm.S j).here=false
 wr:∀ j,j < 4→∀ m,d.W j=some m→m.me=j∧∃ t,WIn d.lm m t
theorem DkM.new_ok:DkM.new.Ok:=⟨LogM.new_ok,fun _ _ _=>rfl,fun _ _ m h=>by cases h⟩
theorem seat_nat (lm:LogM) (j:Nat):lm.seat (j:Int)=lm.S j:=by unfold LogM.seat;simp
theorem isWriter_nat {j:Nat} (h:j < 4):isWriter (j:Int)=true:=by simp [isWriter];omega
theorem toNat_lt {w:Int} (h:isWriter w=true):w.toNat < 4∧((w.toNat:Nat):Int)=w:=by simp [isWriter] at h;omega
theorem DkM.Ok.of_writer {d:DkM} (h:d.Ok) {w:Int} {m:WM} (hw:d.writer w=some m):isWriter w=true∧m.me=w∧d.W w.toNat=some m∧∃ t,WIn d.lm m t:=by
 unfold DkM.writer at hw
 split at hw
 ·rename_i hi
  obtain ⟨h1,h2⟩:=toNat_lt hi
  obtain ⟨e,ht⟩:=h.wr _ h1 m hw
  exact ⟨hi,by rw [e,h2],hw,ht⟩
 ·cases hw
theorem DkM.Ok.set {d:DkM} (h:d.Ok) (lm:LogM) (hl:lm.Ok) (w:Int) (hw:isWriter w=true) (o:Option WM)
 (hs:∀ x,isWriter x=true→x≠w→lm.seat x=d.lm.seat x) (hn:o=none→(lm.seat w).here=false)
 (ho:∀ m t,m.me≠w→WIn d.lm m t→∃ t,WIn lm m t) (hm:∀ m,o=some m→m.me=w∧∃ t,WIn lm m t):(d.set lm w o).Ok:=by
 obtain ⟨w1,w2⟩:=toNat_lt hw
 refine ⟨hl,fun j hj hx=>?_,fun j hj m hx=>?_⟩
 ·simp only [DkM.set] at hx ⊢
  by_cases e:j=w.toNat
  ·subst e
   rw [if_pos rfl] at hx
   rw [← seat_nat,w2];exact hn hx
  ·rw [if_neg e] at hx
   rw [← seat_nat,hs _ (isWriter_nat hj) (by omega),seat_nat]
   exact h.no j hj hx
 ·simp only [DkM.set] at hx ⊢
  by_cases e:j=w.toNat
  ·subst e
   rw [if_pos rfl] at hx
   obtain ⟨a,b⟩:=hm m hx
   exact ⟨by rw [a,w2],b⟩
  ·rw [if_neg e] at hx
   obtain ⟨a,t,b⟩:=h.wr j hj m hx
   exact ⟨a,ho m t (by rw [a];omega) b⟩
theorem leave_eq {lm:LogM} {w:Int} (hw:isWriter w=true) (hh:(lm.seat w).here=true):lm.leaveF w=(lm.put w ⟨false,(lm.seat w).last,(lm.seat w).seen⟩,0):=by
 unfold LogM.leaveF LogM.hereF;rw [hw,hh];rfl
theorem DkM.Ok.drop {d:DkM} (h:d.Ok) {w:Int} {m:WM} (hw:d.writer w=some m):(d.drop w).Ok:=by
 obtain ⟨hi,hme,hW,t,hin⟩:=h.of_writer hw
 have hh:=hin.here
 rw [hme] at hh
 have e:=leave_eq hi hh
 have hle:=LogM.leave_least (m:=d.lm) w
 have hok:=h.lm.leave w
 unfold DkM.drop
 rw [e] at hle hok ⊢
 refine h.set _ hok w hi none (fun x hx hne=>by rw [seat_put _ _ _ _ hi hx,if_neg hne]) (fun _=>by rw [seat_put _ _ _ _ hi hi,if_pos rfl]) (fun m t hne hin=>⟨t,hin.other_put w _ hi (fun e=>hne e.symm) hle⟩) (fun m hm=>by cases hm)
theorem DkM.Ok.put {d:DkM} (h:d.Ok) {w:Int} {m:WM} (hw:d.writer w=some m) (kind at_ many:Int) (text:ByteArray):(d.put m (m.deed kind at_ many text)).1.Ok:=by
 obtain ⟨hi,hme,hW,t,hin⟩:=h.of_writer hw
 unfold DkM.put
 split
 ·rename_i h0
  rw [hme]
  exact h.set d.lm h.lm w hi _ (fun _ _ _=>rfl) (fun e=>by cases e) (fun m t _ hin=>⟨t,hin⟩) (fun m' e=>by cases e;exact ⟨hme,t,hin.do h.lm kind at_ many text h0⟩)
 ·exact h
theorem DkM.Ok.send {d:DkM} (h:d.Ok) {w:Int} {m:WM} (hw:d.writer w=some m):(d.send m).1.Ok∧((d.send m).2=0∨(d.send m).2=5∧m.unsent=[]∧(d.send m).1=d∨(d.send m).2=9∧(d.send m).1=d.drop w):=by
 obtain ⟨hi,hme,hW,t,hin⟩:=h.of_writer hw
 unfold DkM.send
 cases hu:m.unsent with
 | nil=>exact ⟨h,.inr (.inl ⟨rfl,rfl,rfl⟩)⟩
 | cons u us=>
  simp only
  by_cases h0:(d.lm.takeF u).2.2=0
  ·rw [if_pos h0]
   refine ⟨?_,.inl rfl⟩
   have hs:=hin.send u us hu h0
   have hb:=hin.us 0 (by rw [hu];simp)
   have e0:m.unsent[0]'(by rw [hu];simp)=u:=by simp only [hu];rfl
   rw [e0] at hb
   have hub:=hb.b
   have hok:=h.lm.take u
   obtain ⟨q1,q2,q3,q4,q5,q6,e⟩:=LogM.take_of _ h0
   rw [hme]
   refine h.set _ hok w hi _ (fun x hx hne=>?_) (fun e=>by cases e) (fun m2 t2 hne hin2=>⟨t2,hin2.other_take u (by rw [hub,hme];exact fun e=>hne e.symm) h0⟩) (fun m' e=>by cases e;exact ⟨hme,t,hs⟩)
   rw [e]
   rw [LogM.take_seat u (LogM.hereF_writer q1).1 x hx,if_neg (by rw [hub,hme];exact hne)]
  ·rw [if_neg h0]
   rw [hme]
   refine ⟨h.drop hw,.inr (.inr ⟨?_,rfl⟩)⟩
   rcases hin.send_code h.lm u us hu with h1 | h1
   ·exact absurd h1 h0
   ·exact h1
theorem DkM.Ok.hear {d:DkM} (h:d.Ok) {w:Int} {m:WM} (hw:d.writer w=some m):(d.hear m).1.Ok∧
 ((d.hear m).2=0∧(∃ hl:m.seen < d.lm.L.length,(d.hear m).1=d.set (d.lm.saysF m.me (m.hear d.lm.L[m.seen]).least).1 w (some (m.hear d.lm.L[m.seen]))∧(∃ t,WIn d.lm (m.hear d.lm.L[m.seen]) t)∧(m.hear d.lm.L[m.seen]).unsent=m.unsent)∨
  (d.hear m).2=5∧m.seen=d.lm.L.length∧(d.hear m).1=d∨(d.hear m).2=9∧(d.hear m).1=d.drop w):=by
 obtain ⟨hi,hme,hW,t,hin⟩:=h.of_writer hw
 have hsl:=hin.seen
 unfold DkM.hear
 by_cases hl:m.seen < d.lm.L.length
 ·rw [List.getElem?_eq_getElem hl]
  simp only
  have fin:∀ m' : WM,m'.me=m.me→WIn d.lm m' t→(d.set (d.lm.saysF m.me m'.least).1 w (some m')).Ok:=by
   intro m' hm' hin'
   obtain ⟨s1,s2,s3⟩:=hin'.says
   have hle:=LogM.says_least (m:=d.lm) m'.me m'.least
   have hok:=h.lm.says m'.me m'.least
   rw [hm'] at s1 s2 s3 hle hok
   refine h.set _ hok w hi _ (fun x hx hne=>?_) (fun e=>by cases e) (fun m2 t2 hne hin2=>?_) (fun m'' e=>by cases e;exact ⟨by rw [hm',hme],t,s2⟩)
   ·rw [s3,seat_put _ _ _ _ (by rw [hme];exact hi) hx,if_neg (by rw [hme];exact hne)]
   ·rw [s3] at hle ⊢
    exact ⟨t2,hin2.other_put m.me _ (by rw [hme];exact hi) (by rw [hme];exact fun e=>hne e.symm) hle⟩
  by_cases hb:d.lm.L[m.seen].By=m.me
  ·rw [if_neg (fun h=>h.1 hb)]
   obtain ⟨o,os,hop,_⟩:=hin.own_head hl hb
   obtain ⟨r1,_,_,_,r5⟩:=hin.hearI h.lm hl hb o os hop
   have e:m.hear d.lm.L[m.seen]=m.hearI d.lm.L[m.seen]:=by unfold WM.hear;rw [if_pos hb]
   have em:(m.hear d.lm.L[m.seen]).me=m.me:=by rw [e];rfl
   rw [← e] at r1 r5
   refine ⟨?_,.inl ⟨rfl,hl,by rw [hme],⟨t,r1⟩,r5⟩⟩
   have:=fin _ em r1
   rw [← hme] at this
   exact this
  ·have e:m.hear d.lm.L[m.seen]=m.hearO d.lm.L[m.seen]:=by unfold WM.hear;rw [if_neg hb]
   by_cases h0:mayDo m.chars d.lm.L[m.seen]=0
   ·rw [if_neg (fun h=>h.2 h0)]
    obtain ⟨r1,_,_⟩:=hin.hearO h.lm hl hb h0
    have em:(m.hear d.lm.L[m.seen]).me=m.me:=by rw [e];rfl
    have eu:(m.hear d.lm.L[m.seen]).unsent=m.unsent:=by rw [e];rfl
    rw [← e] at r1
    refine ⟨?_,.inl ⟨rfl,hl,by rw [hme],⟨t,r1⟩,eu⟩⟩
    have:=fin _ em r1
    rw [← hme] at this
    exact this
   ·rw [if_pos ⟨hb,h0⟩,hme]
    refine ⟨h.drop hw,.inr (.inr ⟨?_,rfl⟩)⟩
    rcases hin.hear_code h.lm hl hb with h1 | h1
    ·exact absurd h1 h0
    ·exact h1
 ·rw [List.getElem?_eq_none (by omega)]
  exact ⟨h,.inr (.inl ⟨rfl,by omega,rfl⟩)⟩
theorem DkM.Ok.clear {d:DkM} (h:d.Ok) {w:Int} {m:WM} (hw:d.writer w=some m):(d.set d.lm m.me (some (m.clearF (leastFor d.lm m.seen)))).Ok:=by
 obtain ⟨hi,hme,hW,t,hin⟩:=h.of_writer hw
 rw [hme]
 exact h.set d.lm h.lm w hi _ (fun _ _ _=>rfl) (fun e=>by cases e) (fun m t _ hin=>⟨t,hin⟩) (fun m' e=>by cases e;exact ⟨hme,_,(hin.clear h.lm).1⟩)
theorem DkM.Ok.join {d:DkM} (h:d.Ok) (w:Int) (h0:(d.lm.joinF w).2.2=0):(d.set (d.lm.joinF w).1 w (some (WM.new d.lm w))).Ok∧isWriter w=true∧(d.lm.seat w).here=false:=by
 have hi:isWriter w=true:=by
  cases e:isWriter w
  ·unfold LogM.joinF at h0;rw [e] at h0;simp at h0
  ·rfl
 have hn:(d.lm.seat w).here=false:=by
  cases e:(d.lm.seat w).here
  ·rfl
  ·unfold LogM.joinF at h0;rw [hi,e] at h0;simp at h0
 obtain ⟨_,hin⟩:=WIn.new h.lm w hi hn
 have e:d.lm.joinF w=(d.lm.put w ⟨true,(d.lm.seat w).last,d.lm.L.length⟩,(d.lm.seat w).last+1,0):=by
  unfold LogM.joinF;rw [if_pos hi,if_neg (by rw [hn];simp)]
 have hle:=LogM.join_least (m:=d.lm) w
 have hok:=h.lm.join w
 rw [e] at hin hle hok ⊢
 exact ⟨h.set _ hok w hi _ (fun x hx hne=>by rw [seat_put _ _ _ _ hi hx,if_neg hne]) (fun e=>by cases e) (fun m t hne hin2=>⟨t,hin2.other_put w _ hi (fun e=>hne e.symm) hle⟩) (fun m' e=>by cases e;exact ⟨rfl,0,hin⟩),hi,hn⟩
theorem DkM.Ok.step {d:DkM} (h:d.Ok) (x:DStep):(d.step x).1.Ok:=by
 unfold DkM.step
 split
 ·exact h
 ·split
  ·split
   ·rename_i h0;exact (h.join x.W h0).1
   ·exact h
  ·cases hw:d.writer x.W with
   | none=>exact h
   | some m=>
    simp only
    split
    ·exact h.put hw _ _ _ _
    ·split
     ·exact h.put hw _ _ _ _
     ·split
      ·exact (h.send hw).1
      ·split
       ·exact (h.hear hw).1
       ·split
        ·exact h.clear hw
        ·obtain ⟨_,hme,_⟩:=h.of_writer hw
         rw [hme];exact h.drop hw
end Go.Proofs.YtneoeokfffnonaaGreatDoor
namespace Go.Proofs.YtneoeokfffnonaaGreatDoor
open Go.RowKit
def sendLoop:Nat→DkM→Int→DkM
 | 0,d,_=>d
 | n+1,d,k=>match d.writer k with
  | none=>d
  | some m=>if (d.send m).2=0 then sendLoop n (d.send m).1 k else (d.send m).1
def hearLoop:Nat→DkM→Int→DkM
 | 0,d,_=>d
 | n+1,d,k=>match d.writer k with
  | none=>d
  | some m=>if (d.hear m).2=0 then hearLoop n (d.hear m).1 k else (d.hear m).1
def mu1 (d:DkM) (k:Int):Nat:=match d.writer k with
 | none=>0
 | some m=>m.unsent.length
def mu2 (d:DkM) (k:Int):Nat:=match d.writer k with
 | none=>0
 | some m=>d.lm.L.length - m.seen
def sendAll (d:DkM) (k:Int):DkM:=sendLoop (mu1 d k+1) d k
def hearAll (d:DkM) (k:Int):DkM:=hearLoop (mu2 d k+1) d k
def settle (d:DkM):DkM:=hearAll (hearAll (hearAll (hearAll (sendAll (sendAll (sendAll (sendAll d 0) 1) 2) 3) 0) 1) 2) 3
theorem set_writer (d:DkM) (lm:LogM) (w:Int) (o:Option WM) (hw:isWriter w=true):(d.set lm w o).writer w=o:=by
 unfold DkM.writer DkM.set;rw [if_pos hw];simp
theorem set_other (d:DkM) (lm:LogM) (w x:Int) (o:Option WM) (hw:isWriter w=true) (hx:x≠w):(d.set lm w o).writer x=d.writer x:=by
 unfold DkM.writer DkM.set
 cases h:isWriter x
 ·rfl
 ·have:=toNat_lt h;have:=toNat_lt hw
  simp only [if_true]
  rw [if_neg (by omega)]
theorem sendLoop_none (n:Nat) (d:DkM) (k:Int) (h:d.writer k=none):sendLoop n d k=d:=by
 cases n with
 | zero=>rfl
 | succ n=>rw [sendLoop,h]
theorem DkM.Ok.send_next {d:DkM} (h:d.Ok) {k:Int} {m:WM} (hw:d.writer k=some m) (h0:(d.send m).2=0):∃ u us,m.unsent=u :: us∧(d.lm.takeF u).2.2=0∧(d.send m).1=d.set (d.lm.takeF u).1 k (some m.sendF)∧m.sendF.unsent=us:=by
 obtain ⟨hi,hme,hW,t,hin⟩:=h.of_writer hw
 unfold DkM.send at h0 ⊢
 cases hu:m.unsent with
 | nil=>rw [hu] at h0;simp at h0
 | cons u us=>
  rw [hu] at h0
  simp only at h0 ⊢
  by_cases e:(d.lm.takeF u).2.2=0
  ·rw [if_pos e,hme]
   refine ⟨u,us,rfl,e,rfl,?_⟩
   show m.ds.drop (m.ns+1)=us
   rw [← List.drop_drop]
   show (m.unsent).drop 1=us
   rw [hu];rfl
  ·rw [if_neg e] at h0;exact absurd h0 e
theorem DkM.Ok.send_mu {d:DkM} (h:d.Ok) {k:Int} {m:WM} (hw:d.writer k=some m) (h0:(d.send m).2=0):mu1 d k=mu1 (d.send m).1 k+1:=by
 obtain ⟨u,us,e1,_,e2,e3⟩:=h.send_next hw h0
 have hi:=(h.of_writer hw).1
 unfold mu1
 rw [e2,set_writer _ _ _ _ hi,hw]
 simp only [e1,e3,List.length_cons]
theorem sendAll_none {d:DkM} {k:Int} (h:d.writer k=none):sendAll d k=d:=sendLoop_none _ _ _ h
theorem sendAll_stop {d:DkM} {k:Int} {m:WM} (hw:d.writer k=some m) (h0:(d.send m).2≠0):sendAll d k=(d.send m).1:=by unfold sendAll;rw [sendLoop,hw];simp only;rw [if_neg h0]
theorem DkM.Ok.sendAll_step {d:DkM} (h:d.Ok) {k:Int} {m:WM} (hw:d.writer k=some m) (h0:(d.send m).2=0):sendAll d k=sendAll (d.send m).1 k:=by
 have:=h.send_mu hw h0
 unfold sendAll
 rw [sendLoop,hw]
 simp only
 rw [if_pos h0,this]
theorem hearLoop_none (n:Nat) (d:DkM) (k:Int) (h:d.writer k=none):hearLoop n d k=d:=by
 cases n with
 | zero=>rfl
 | succ n=>rw [hearLoop,h]
theorem says_L (lm:LogM) (w n:Int):(lm.saysF w n).1.L=lm.L:=LogM.saysF_L _ _ _
theorem DkM.drop_L (d:DkM) (w:Int):(d.drop w).lm.L=d.lm.L:=LogM.leaveF_L _ _
theorem WM.hear_seen (m:WM) (x:Dd):(m.hear x).seen=m.seen+1∧(m.hear x).me=m.me:=by unfold WM.hear;split <;> exact ⟨rfl,rfl⟩
theorem DkM.Ok.hear_next {d:DkM} (h:d.Ok) {k:Int} {m:WM} (hw:d.writer k=some m) (h0:(d.hear m).2=0):∃ m',(d.hear m).1.writer k=some m'∧m'.seen=m.seen+1∧m'.unsent=m.unsent∧(d.hear m).1.lm.L=d.lm.L∧m.seen < d.lm.L.length∧∀ x,x≠k→(d.hear m).1.writer x=d.writer x:=by
 have hi:=(h.of_writer hw).1
 rcases (h.hear hw).2 with ⟨_,hl,e,_,hu⟩ | ⟨e,_⟩ | ⟨e,_⟩
 ·refine ⟨_,by rw [e,set_writer _ _ _ _ hi],(WM.hear_seen _ _).1,hu,by rw [e];exact says_L _ _ _,hl,fun x hx=>by rw [e,set_other _ _ _ _ _ hi hx]⟩
 ·rw [e] at h0;omega
 ·rw [e] at h0;omega
theorem DkM.Ok.hear_mu {d:DkM} (h:d.Ok) {k:Int} {m:WM} (hw:d.writer k=some m) (h0:(d.hear m).2=0):mu2 d k=mu2 (d.hear m).1 k+1:=by
 obtain ⟨m',e1,e2,_,e3,e4,_⟩:=h.hear_next hw h0
 unfold mu2
 rw [e1,hw,e3]
 simp only [e2];omega
theorem hearAll_none {d:DkM} {k:Int} (h:d.writer k=none):hearAll d k=d:=hearLoop_none _ _ _ h
theorem hearAll_stop {d:DkM} {k:Int} {m:WM} (hw:d.writer k=some m) (h0:(d.hear m).2≠0):hearAll d k=(d.hear m).1:=by unfold hearAll;rw [hearLoop,hw];simp only;rw [if_neg h0]
theorem DkM.Ok.hearAll_step {d:DkM} (h:d.Ok) {k:Int} {m:WM} (hw:d.writer k=some m) (h0:(d.hear m).2=0):hearAll d k=hearAll (d.hear m).1 k:=by
 have:=h.hear_mu hw h0
 unfold hearAll
 rw [hearLoop,hw]
 simp only
 rw [if_pos h0,this]
theorem drop_writer (d:DkM) (w:Int) (hw:isWriter w=true):(d.drop w).writer w=none:=set_writer _ _ _ _ hw
theorem drop_other (d:DkM) (w x:Int) (hw:isWriter w=true) (hx:x≠w):(d.drop w).writer x=d.writer x:=set_other _ _ _ _ _ hw hx
theorem DkM.Ok.sendAll_done:∀ (n:Nat) {d:DkM},d.Ok→∀ (k:Int),mu1 d k=n→(sendAll d k).Ok∧(∀ x,x≠k→(sendAll d k).writer x=d.writer x)∧(∀ m,(sendAll d k).writer k=some m→m.unsent=[]∧∃ m0,d.writer k=some m0∧m0.seen=m.seen):=by
 intro n
 induction n with
 | zero=>
  intro d h k hn
  cases hw:d.writer k with
  | none=>rw [sendAll_none hw];exact ⟨h,fun _ _=>rfl,fun m hm=>by rw [hw] at hm;cases hm⟩
  | some m=>
   have hi:=(h.of_writer hw).1
   obtain ⟨h1,h2⟩:=h.send hw
   unfold mu1 at hn;rw [hw] at hn
   have hu:m.unsent=[]:=List.eq_nil_of_length_eq_zero hn
   have e:d.send m=(d,5):=by unfold DkM.send;rw [hu]
   rw [sendAll_stop hw (by rw [e];simp),e]
   exact ⟨h,fun _ _=>rfl,fun m' hm=>by rw [hw] at hm;cases hm;exact ⟨hu,m,rfl,rfl⟩⟩
 | succ n ih=>
  intro d h k hn
  cases hw:d.writer k with
  | none=>rw [sendAll_none hw];exact ⟨h,fun _ _=>rfl,fun m hm=>by rw [hw] at hm;cases hm⟩
  | some m=>
   have hi:=(h.of_writer hw).1
   obtain ⟨h1,h2⟩:=h.send hw
   by_cases h0:(d.send m).2=0
   ·have hmu:=h.send_mu hw h0
    obtain ⟨u,us,e1,_,e2,e3⟩:=h.send_next hw h0
    rw [h.sendAll_step hw h0]
    obtain ⟨r1,r2,r3⟩:=ih h1 k (by omega)
    refine ⟨r1,fun x hx=>by rw [r2 x hx,e2,set_other _ _ _ _ _ hi hx],fun m' hm=>?_⟩
    obtain ⟨q1,m0,q2,q3⟩:=r3 m' hm
    rw [e2,set_writer _ _ _ _ hi] at q2
    cases q2
    exact ⟨q1,m,rfl,q3⟩
   ·rw [sendAll_stop hw h0]
    rcases h2 with e | ⟨_,hu,e⟩ | ⟨_,e⟩
    ·exact absurd e h0
    ·rw [e];exact ⟨h,fun _ _=>rfl,fun m' hm=>by rw [hw] at hm;cases hm;exact ⟨hu,m,rfl,rfl⟩⟩
    ·rw [e];exact ⟨h.drop hw,fun x hx=>drop_other _ _ _ hi hx,fun m' hm=>by rw [drop_writer _ _ hi] at hm;cases hm⟩
theorem DkM.Ok.hearAll_done:∀ (n:Nat) {d:DkM},d.Ok→∀ (k:Int),mu2 d k=n→(hearAll d k).Ok∧(hearAll d k).lm.L=d.lm.L∧(∀ x,x≠k→(hearAll d k).writer x=d.writer x)∧(∀ m,(hearAll d k).writer k=some m→m.seen=d.lm.L.length∧∃ m0,d.writer k=some m0∧m0.unsent=m.unsent):=by
 intro n
 induction n with
 | zero=>
  intro d h k hn
  cases hw:d.writer k with
  | none=>rw [hearAll_none hw];exact ⟨h,rfl,fun _ _=>rfl,fun m hm=>by rw [hw] at hm;cases hm⟩
  | some m=>
   obtain ⟨hi,_,_,t,hin⟩:=h.of_writer hw
   obtain ⟨h1,h2⟩:=h.hear hw
   have hsl:=hin.seen
   unfold mu2 at hn;rw [hw] at hn
   simp only at hn
   rcases h2 with ⟨_,hl,_⟩ | ⟨e1,e2,e3⟩ | ⟨e1,e3⟩
   ·omega
   ·rw [hearAll_stop hw (by rw [e1];omega),e3]
    exact ⟨h,rfl,fun _ _=>rfl,fun m' hm=>by rw [hw] at hm;cases hm;exact ⟨e2,m,rfl,rfl⟩⟩
   ·rw [hearAll_stop hw (by rw [e1];omega),e3]
    exact ⟨h.drop hw,DkM.drop_L _ _,fun x hx=>drop_other _ _ _ hi hx,fun m' hm=>by rw [drop_writer _ _ hi] at hm;cases hm⟩
 | succ n ih=>
  intro d h k hn
  cases hw:d.writer k with
  | none=>rw [hearAll_none hw];exact ⟨h,rfl,fun _ _=>rfl,fun m hm=>by rw [hw] at hm;cases hm⟩
  | some m=>
   have hi:=(h.of_writer hw).1
   obtain ⟨h1,h2⟩:=h.hear hw
   by_cases h0:(d.hear m).2=0
   ·have hmu:=h.hear_mu hw h0
    obtain ⟨m',e1,e2,e3,e4,e5,e6⟩:=h.hear_next hw h0
    rw [h.hearAll_step hw h0]
    obtain ⟨r1,r2,r3,r4⟩:=ih h1 k (by omega)
    refine ⟨r1,by rw [r2,e4],fun x hx=>by rw [r3 x hx,e6 x hx],fun m2 hm=>?_⟩
    obtain ⟨q1,m0,q2,q3⟩:=r4 m2 hm
    rw [e1] at q2
    cases q2
    exact ⟨by rw [q1,e4],m,rfl,by rw [← q3,e3]⟩
   ·rw [hearAll_stop hw h0]
    rcases h2 with ⟨e,_⟩ | ⟨e1,e2,e3⟩ | ⟨e1,e3⟩
    ·exact absurd e h0
    ·rw [e3];exact ⟨h,rfl,fun _ _=>rfl,fun m' hm=>by rw [hw] at hm;cases hm;exact ⟨e2,m,rfl,rfl⟩⟩
    ·rw [e3];exact ⟨h.drop hw,DkM.drop_L _ _,fun x hx=>drop_other _ _ _ hi hx,fun m' hm=>by rw [drop_writer _ _ hi] at hm;cases hm⟩
structure Settled (d:DkM):Prop where
 ok:d.Ok
 s:∀ k m,d.writer k=some m→m.unsent=[]∧m.seen=d.lm.L.length
theorem DkM.writer_cases {d:DkM} {k:Int} {m:WM} (h:d.writer k=some m):k=0∨k=1∨k=2∨k=3:=by
 unfold DkM.writer at h
 split at h
 ·rename_i hi;exact isWriter_cases hi
 ·cases h
theorem settle_settled {d:DkM} (h:d.Ok):Settled (settle d):=by
 obtain ⟨a1,a2,a3⟩:=DkM.Ok.sendAll_done _ h 0 rfl
 obtain ⟨b1,b2,b3⟩:=DkM.Ok.sendAll_done _ a1 1 rfl
 obtain ⟨c1,c2,c3⟩:=DkM.Ok.sendAll_done _ b1 2 rfl
 obtain ⟨e1,e2,e3⟩:=DkM.Ok.sendAll_done _ c1 3 rfl
 have hu:∀ k m,(sendAll (sendAll (sendAll (sendAll d 0) 1) 2) 3).writer k=some m→m.unsent=[]:=by
  intro k m hm
  rcases DkM.writer_cases hm with rfl | rfl | rfl | rfl
  ·rw [e2 0 (by omega),c2 0 (by omega),b2 0 (by omega)] at hm;exact (a3 m hm).1
  ·rw [e2 1 (by omega),c2 1 (by omega)] at hm;exact (b3 m hm).1
  ·rw [e2 2 (by omega)] at hm;exact (c3 m hm).1
  ·exact (e3 m hm).1
 unfold settle
 generalize sendAll (sendAll (sendAll (sendAll d 0) 1) 2) 3=D at *
 obtain ⟨a1,a4,a2,a3⟩:=DkM.Ok.hearAll_done _ e1 0 rfl
 obtain ⟨b1,b4,b2,b3⟩:=DkM.Ok.hearAll_done _ a1 1 rfl
 obtain ⟨c1,c4,c2,c3⟩:=DkM.Ok.hearAll_done _ b1 2 rfl
 obtain ⟨f1,f4,f2,f3⟩:=DkM.Ok.hearAll_done _ c1 3 rfl
 refine ⟨f1,fun k m hm=>?_⟩
 rcases DkM.writer_cases hm with rfl | rfl | rfl | rfl
 ·rw [f2 0 (by omega),c2 0 (by omega),b2 0 (by omega)] at hm
  obtain ⟨q1,m0,q2,q3⟩:=a3 m hm
  exact ⟨by rw [← q3];exact hu _ _ q2,by rw [q1,f4,c4,b4,a4]⟩
 ·rw [f2 1 (by omega),c2 1 (by omega)] at hm
  obtain ⟨q1,m0,q2,q3⟩:=b3 m hm
  rw [a2 1 (by omega)] at q2
  exact ⟨by rw [← q3];exact hu _ _ q2,by rw [q1,f4,c4,b4]⟩
 ·rw [f2 2 (by omega)] at hm
  obtain ⟨q1,m0,q2,q3⟩:=c3 m hm
  rw [b2 2 (by omega),a2 2 (by omega)] at q2
  exact ⟨by rw [← q3];exact hu _ _ q2,by rw [q1,f4,c4]⟩
 ·obtain ⟨q1,m0,q2,q3⟩:=f3 m hm
  rw [c2 3 (by omega),b2 3 (by omega),a2 3 (by omega)] at q2
  exact ⟨by rw [← q3];exact hu _ _ q2,by rw [q1,f4]⟩
theorem Settled.sendAll {d:DkM} (h:Settled d) (k:Int):sendAll d k=d:=by
 cases hw:d.writer k with
 | none=>exact sendAll_none hw
 | some m=>
  have e:d.send m=(d,5):=by unfold DkM.send;rw [(h.s k m hw).1]
  rw [sendAll_stop hw (by rw [e];simp),e]
theorem Settled.hearAll {d:DkM} (h:Settled d) (k:Int):hearAll d k=d:=by
 cases hw:d.writer k with
 | none=>exact hearAll_none hw
 | some m=>
  have e:d.hear m=(d,5):=by unfold DkM.hear;rw [List.getElem?_eq_none (by rw [(h.s k m hw).2];exact Nat.le_refl _)]
  rw [hearAll_stop hw (by rw [e];simp),e]
theorem Settled.settle {d:DkM} (h:Settled d):Go.Proofs.YtneoeokfffnonaaGreatDoor.settle d=d:=by
 unfold Go.Proofs.YtneoeokfffnonaaGreatDoor.settle
 simp only [h.sendAll,h.hearAll]
def WM.view (m:WM):List Int:=viewN m.seen m.me m.chars
def LogM.view (lm:LogM):List Int:=textF (allF lm.L).1
theorem WIn.plain {lm:LogM} {m:WM} {t:Int} (h:WIn lm m t) (hs:m.seen=lm.L.length) (hu:m.unsent=[]):m.opn=[]∧m.chars=m.base:=by
 have e:=h.ds_eq
 rw [hu,hs,List.drop_length] at e
 have e:m.ds=[]:=by rw [e];rfl
 have:m.opn=[]:=by unfold WM.ds at e;simpa using e
 exact ⟨this,by unfold WM.chars;rw [e];rfl⟩
theorem WIn.settled_view {lm:LogM} {m:WM} {t:Int} (h:WIn lm m t) (ho:lm.Ok) (hs:m.seen=lm.L.length) (hu:m.unsent=[]):m.view=lm.view:=by
 obtain ⟨_,e⟩:=h.plain hs hu
 have h1:=h.baseN m.seen m.me h.tSeen
 unfold WM.view LogM.view
 rw [e,h1,hs,pre_len,ho.lok.view_all]
theorem Settled.view {d:DkM} (h:Settled d) (k:Int) (m:WM) (hm:d.writer k=some m):m.view=d.lm.view:=by
 obtain ⟨_,_,_,t,hin⟩:=h.ok.of_writer hm
 obtain ⟨h1,h2⟩:=h.s k m hm
 exact hin.settled_view h.ok.lm h2 h1
end Go.Proofs.YtneoeokfffnonaaGreatDoor
namespace Go.Proofs.YtneoeokfffnonaaGreatDoor
open Go.RowKit
end Go.Proofs.YtneoeokfffnonaaGreatDoor
namespace Go.Proofs.YtneoeokfffnonaaGreatDoor
open Go.RowKit
structure Twin (lm:LogM) (a b:WM):Prop where
 me:a.me=b.me
 seen:a.seen=b.seen
 next:a.next=b.next
 ds:a.ds=b.ds
 ns:a.ns=b.ns
 bare:b.base=pre lm.L b.seen
 a:∃ t,WIn lm a t
 b:∃ t,WIn lm b t
theorem Twin.unsent {lm:LogM} {a b:WM} (h:Twin lm a b):a.unsent=b.unsent:=by unfold WM.unsent;rw [h.ds,h.ns]
theorem Twin.least {lm:LogM} {a b:WM} (h:Twin lm a b):a.least=b.least:=by unfold WM.least;rw [h.unsent,h.seen]
theorem Twin.bchars {lm:LogM} {a b:WM} (h:Twin lm a b):b.chars=apOs (pre lm.L b.seen) b.ds:=by unfold WM.chars;rw [h.bare]
theorem chain_len:∀ (os:List Dd) (l:List Ch),Chain l os→(apOs l os).length=l.length+(os.map fun o=>o.Text.size).sum:=by
 intro os
 induction os with
 | nil=>intro l _;rfl
 | cons o os ih=>
  intro l hc
  have h1:(apO l o).length=l.length+o.Text.size:=ap_length hc.1
  show (apOs (apO l o) os).length=_
  rw [ih _ hc.2,h1];simp;omega
theorem Twin.len {lm:LogM} {a b:WM} (h:Twin lm a b):a.chars.length≤b.chars.length:=by
 obtain ⟨t,ha⟩:=h.a
 obtain ⟨t',hb⟩:=h.b
 obtain ⟨X,hX,_⟩:=ha.bare
 have h1:=chain_len _ _ ha.chain
 have h2:=chain_len _ _ hb.chain
 have h3:a.base.length≤b.base.length:=by rw [hX,h.bare,h.seen];exact List.length_filter_le _ _
 show (apOs a.base a.ds).length≤(apOs b.base b.ds).length
 rw [h1,h2,h.ds];omega
theorem Twin.vis {lm:LogM} {a b:WM} (ho:lm.Ok) (h:Twin lm a b) (s y:Int) (t:Int) (ha:WIn lm a t) (hs:t≤s):Go.Proofs.YtneoeokfffnonaaGreatDoor.vis s y a.chars=Go.Proofs.YtneoeokfffnonaaGreatDoor.vis s y b.chars:=by
 rw [ha.view ho s y hs,h.bchars,h.seen,h.ds]
theorem Twin.may {lm:LogM} {a b:WM} (ho:lm.Ok) (h:Twin lm a b) (d:Dd) (t:Int) (ha:WIn lm a t) (hs:t≤d.Seen) (hc:mayDo b.chars d≠9):mayDo a.chars d=mayDo b.chars d:=by
 have hv:=h.vis ho d.Seen d.By t ha hs
 have hl:=h.len
 unfold mayDo at hc ⊢
 rw [hv]
 by_cases h1:deedFault d=0
 ·rw [if_pos h1] at hc ⊢
  rw [if_pos h1]
  by_cases h2:((Go.Proofs.YtneoeokfffnonaaGreatDoor.vis d.Seen d.By b.chars).length:Int) < d.At+d.Many
  ·rw [if_pos h2,if_pos h2]
  ·rw [if_neg h2] at hc ⊢
   rw [if_neg h2]
   by_cases h3:200 < b.chars.length+d.Text.size
   ·rw [if_pos h3] at hc;exact absurd rfl hc
   ·rw [if_neg h3,if_neg (by omega)]
 ·rw [if_neg h1,if_neg h1]
theorem Twin.view {lm:LogM} {a b:WM} (ho:lm.Ok) (h:Twin lm a b):a.view=b.view:=by
 obtain ⟨t,ha⟩:=h.a
 unfold WM.view viewN
 rw [h.vis ho a.seen a.me t ha ha.tSeen,h.seen,h.me]
theorem WM.ds_doF (m:WM) (d:Dd):(m.doF d).ds=m.ds++[d]:=by simp [WM.doF,WM.ds]
theorem Twin.do {lm:LogM} {a b:WM} (ho:lm.Ok) (h:Twin lm a b) (kind at_ many:Int) (text:ByteArray) (hc:mayDo b.chars (b.deed kind at_ many text)≠9) :
 a.deed kind at_ many text=b.deed kind at_ many text∧mayDo a.chars (b.deed kind at_ many text)=mayDo b.chars (b.deed kind at_ many text)∧
 (mayDo b.chars (b.deed kind at_ many text)=0→Twin lm (a.doF (b.deed kind at_ many text)) (b.doF (b.deed kind at_ many text))):=by
 obtain ⟨t,ha⟩:=h.a
 obtain ⟨t',hb⟩:=h.b
 have hd:a.deed kind at_ many text=b.deed kind at_ many text:=by unfold WM.deed;rw [h.me,h.next,h.seen]
 have hsn:t≤(b.deed kind at_ many text).Seen:=by have:=ha.tSeen;rw [h.seen] at this;exact this
 have hm:=h.may ho _ t ha hsn hc
 refine ⟨hd,hm,fun h0=>?_⟩
 have ha0:=ha.do ho kind at_ many text (by rw [hd,hm,h0])
 have hb0:=hb.do ho kind at_ many text h0
 rw [hd] at ha0
 exact ⟨h.me,h.seen,by show a.next+1=b.next+1;rw [h.next],by rw [WM.ds_doF,WM.ds_doF,h.ds],h.ns,h.bare,⟨t,ha0⟩,⟨t',hb0⟩⟩
theorem WM.ds_hearI (m:WM) (x:Dd):(m.hearI x).ds=m.ds.tail:=by unfold WM.ds WM.hearI;rw [List.map_tail]
theorem Twin.hear {lm:LogM} {a b:WM} (ho:lm.Ok) (h:Twin lm a b) (hl:b.seen < lm.L.length) (hc:lm.L[b.seen].By=b.me∨mayDo b.chars lm.L[b.seen]≠9) :
 (lm.L[b.seen].By≠b.me→mayDo a.chars lm.L[b.seen]=0∧mayDo b.chars lm.L[b.seen]=0)∧Twin lm (a.hear lm.L[b.seen]) (b.hear lm.L[b.seen]):=by
 obtain ⟨t,ha⟩:=h.a
 obtain ⟨t',hb⟩:=h.b
 have hla:a.seen < lm.L.length:=by rw [h.seen];exact hl
 have hxa:lm.L[a.seen]=lm.L[b.seen]:=by simp only [h.seen]
 obtain ⟨_,hp,_⟩:=pre_succ ho.all b.seen hl
 have hbare:ap b.base lm.L[b.seen] ((b.seen:Int)+1)=pre lm.L (b.seen+1):=by rw [h.bare,hp]
 by_cases hby:lm.L[b.seen].By=b.me
 ·refine ⟨fun hn=>absurd hby hn,?_⟩
  have hbya:lm.L[a.seen].By=a.me:=by rw [hxa,h.me,hby]
  obtain ⟨oa,osa,hopa,_⟩:=ha.own_head hla hbya
  obtain ⟨ob,osb,hopb,_⟩:=hb.own_head hl hby
  have ra:=(ha.hearI ho hla hbya oa osa hopa).1
  have rb:=(hb.hearI ho hl hby ob osb hopb).1
  rw [hxa] at ra
  have ea:a.hear lm.L[b.seen]=a.hearI lm.L[b.seen]:=by unfold WM.hear;rw [if_pos (by rw [hby,h.me])]
  have eb:b.hear lm.L[b.seen]=b.hearI lm.L[b.seen]:=by unfold WM.hear;rw [if_pos hby]
  rw [ea,eb]
  exact ⟨h.me,by show a.seen+1=b.seen+1;rw [h.seen],h.next,by rw [WM.ds_hearI,WM.ds_hearI,h.ds],by show a.ns - 1=b.ns - 1;rw [h.ns],hbare,⟨t,ra⟩,⟨t',rb⟩⟩
 ·have hne:=hc.resolve_left hby
  have h0:mayDo b.chars lm.L[b.seen]=0:=(hb.hear_code ho hl hby).resolve_right hne
  have hth:t≤lm.L[b.seen].Seen:=by rw [← hxa];exact ha.th _ (head_drop _ _ hla)
  have ha0:mayDo a.chars lm.L[b.seen]=0:=by rw [h.may ho _ t ha hth hne,h0]
  refine ⟨fun _=>⟨ha0,h0⟩,?_⟩
  have hbya:lm.L[a.seen].By≠a.me:=by rw [hxa,h.me];exact hby
  have ra:=(ha.hearO ho hla hbya (by rw [hxa];exact ha0)).1
  have rb:=(hb.hearO ho hl hby h0).1
  rw [hxa] at ra
  have ea:a.hear lm.L[b.seen]=a.hearO lm.L[b.seen]:=by unfold WM.hear;rw [if_neg (by rw [h.me];exact hby)]
  have eb:b.hear lm.L[b.seen]=b.hearO lm.L[b.seen]:=by unfold WM.hear;rw [if_neg hby]
  rw [ea,eb]
  exact ⟨h.me,by show a.seen+1=b.seen+1;rw [h.seen],h.next,h.ds,h.ns,hbare,⟨t,ra⟩,⟨t',rb⟩⟩
theorem Twin.mono {lm lm' : LogM} {a b:WM} (h:Twin lm a b) (hp:pre lm'.L b.seen=pre lm.L b.seen) (ha:∃ t,WIn lm' a t) (hb:∃ t,WIn lm' b t):Twin lm' a b:=
 ⟨h.me,h.seen,h.next,h.ds,h.ns,by rw [hp];exact h.bare,ha,hb⟩
structure Twins (d e:DkM):Prop where
 lm:d.lm=e.lm
 okd:d.Ok
 oke:e.Ok
 w:∀ k,(d.writer k=none∧e.writer k=none)∨∃ a b,d.writer k=some a∧e.writer k=some b∧Twin e.lm a b
theorem Twins.new:Twins DkM.new DkM.new:=⟨rfl,DkM.new_ok,DkM.new_ok,fun k=>.inl (by unfold DkM.writer DkM.new;split <;> exact ⟨rfl,rfl⟩)⟩
theorem Twins.set {d e:DkM} (h:Twins d e) (lm:LogM) (k:Int) (hk:isWriter k=true) (oa ob:Option WM) (hd:(d.set lm k oa).Ok) (he:(e.set lm k ob).Ok) (hL:∀ s,s≤e.lm.L.length→pre lm.L s=pre e.lm.L s)
 (ho:(oa=none∧ob=none)∨∃ a b,oa=some a∧ob=some b∧Twin lm a b):Twins (d.set lm k oa) (e.set lm k ob):=by
 refine ⟨rfl,hd,he,fun x=>?_⟩
 by_cases hx:x=k
 ·subst hx
  rw [set_writer _ _ _ _ hk,set_writer _ _ _ _ hk]
  exact ho
 ·rw [set_other _ _ _ _ _ hk hx,set_other _ _ _ _ _ hk hx]
  rcases h.w x with h1 | ⟨a,b,h1,h2,h3⟩
  ·exact .inl h1
  ·refine .inr ⟨a,b,h1,h2,h3.mono (hL _ (by obtain ⟨t,hb⟩:=h3.b;exact hb.seen)) ?_ ?_⟩
   ·have:=(hd.of_writer (w:=x) (m:=a) (by rw [set_other _ _ _ _ _ hk hx];exact h1)).2.2.2
    exact this
   ·exact (he.of_writer (w:=x) (m:=b) (by rw [set_other _ _ _ _ _ hk hx];exact h2)).2.2.2
theorem Twins.put {d e:DkM} (h:Twins d e) {k:Int} {a b:WM} (hd:d.writer k=some a) (he:e.writer k=some b) (hw:Twin e.lm a b) (kind at_ many:Int) (text:ByteArray) (hc:(e.put b (b.deed kind at_ many text)).2≠9) :
 (d.put a (a.deed kind at_ many text)).2=(e.put b (b.deed kind at_ many text)).2∧Twins (d.put a (a.deed kind at_ many text)).1 (e.put b (b.deed kind at_ many text)).1:=by
 have okd:=h.okd.put hd kind at_ many text
 have oke:=h.oke.put he kind at_ many text
 obtain ⟨hi,hme,_⟩:=h.oke.of_writer he
 have hmea:=(h.okd.of_writer hd).2.1
 have hc' : mayDo b.chars (b.deed kind at_ many text)≠9:=by
  intro e9
  apply hc
  unfold DkM.put
  rw [if_neg (by rw [e9];decide),e9]
 obtain ⟨h1,h2,h3⟩:=hw.do h.oke.lm kind at_ many text hc'
 rw [h1] at okd ⊢
 by_cases h0:mayDo b.chars (b.deed kind at_ many text)=0
 ·have e1:d.put a (b.deed kind at_ many text)=(d.set d.lm k (some (a.doF (b.deed kind at_ many text))),0):=by unfold DkM.put;rw [if_pos (by rw [h2,h0]),hmea]
  have e2:e.put b (b.deed kind at_ many text)=(e.set e.lm k (some (b.doF (b.deed kind at_ many text))),0):=by unfold DkM.put;rw [if_pos h0,hme]
  rw [e1] at okd ⊢
  rw [e2] at oke ⊢
  rw [h.lm] at okd ⊢
  exact ⟨rfl,h.set e.lm k hi _ _ okd oke (fun _ _=>rfl) (.inr ⟨_,_,rfl,rfl,h3 h0⟩)⟩
 ·have e1:d.put a (b.deed kind at_ many text)=(d,mayDo b.chars (b.deed kind at_ many text)):=by unfold DkM.put;rw [if_neg (by rw [h2];exact h0),h2]
  have e2:e.put b (b.deed kind at_ many text)=(e,mayDo b.chars (b.deed kind at_ many text)):=by unfold DkM.put;rw [if_neg h0]
  rw [e1,e2]
  exact ⟨rfl,h⟩
theorem pre_leave (lm:LogM) (w:Int) (s:Nat):pre (lm.leaveF w).1.L s=pre lm.L s:=by rw [LogM.leaveF_L]
theorem Twins.drop {d e:DkM} (h:Twins d e) {k:Int} {a b:WM} (hd:d.writer k=some a) (he:e.writer k=some b):Twins (d.drop k) (e.drop k):=by
 have hi:=(h.oke.of_writer he).1
 have okd:=h.okd.drop hd
 have oke:=h.oke.drop he
 unfold DkM.drop at *
 rw [h.lm] at okd ⊢
 exact h.set _ k hi none none okd oke (fun s _=>pre_leave _ _ s) (.inl ⟨rfl,rfl⟩)
theorem Twins.send {d e:DkM} (h:Twins d e) {k:Int} {a b:WM} (hd:d.writer k=some a) (he:e.writer k=some b) (hw:Twin e.lm a b) :
 (d.send a).2=(e.send b).2∧Twins (d.send a).1 (e.send b).1:=by
 have okd:=(h.okd.send hd).1
 have oke:=(h.oke.send he).1
 obtain ⟨hi,hme,_⟩:=h.oke.of_writer he
 have hmea:=(h.okd.of_writer hd).2.1
 have hu:=hw.unsent
 cases hub:b.unsent with
 | nil=>
  have e1:d.send a=(d,5):=by unfold DkM.send;rw [hu,hub]
  have e2:e.send b=(e,5):=by unfold DkM.send;rw [hub]
  rw [e1,e2];exact ⟨rfl,h⟩
 | cons u us=>
  by_cases h0:(e.lm.takeF u).2.2=0
  ·have e1:d.send a=(d.set (e.lm.takeF u).1 k (some a.sendF),0):=by unfold DkM.send;rw [hu,hub,h.lm];simp only;rw [if_pos h0,hmea]
   have e2:e.send b=(e.set (e.lm.takeF u).1 k (some b.sendF),0):=by unfold DkM.send;rw [hub];simp only;rw [if_pos h0,hme]
   rw [e1] at okd ⊢
   rw [e2] at oke ⊢
   have hL:∀ s,s≤e.lm.L.length→pre (e.lm.takeF u).1.L s=pre e.lm.L s:=fun s hs=>by
    rw [(LogM.take_of u h0).2.2.2.2.2.2];exact pre_append _ _ _ hs
   refine ⟨rfl,h.set _ k hi _ _ okd oke hL (.inr ⟨_,_,rfl,rfl,?_⟩)⟩
   have ta:=(okd.of_writer (w:=k) (m:=a.sendF) (set_writer _ _ _ _ hi)).2.2.2
   have tb:=(oke.of_writer (w:=k) (m:=b.sendF) (set_writer _ _ _ _ hi)).2.2.2
   obtain ⟨t,hb⟩:=hw.b
   exact ⟨hw.me,hw.seen,hw.next,hw.ds,by show a.ns+1=b.ns+1;rw [hw.ns],by show b.base=pre (e.lm.takeF u).1.L b.seen;rw [hL b.seen hb.seen];exact hw.bare,ta,tb⟩
  ·have e1:d.send a=(d.drop k,(e.lm.takeF u).2.2):=by unfold DkM.send;rw [hu,hub,h.lm];simp only;rw [if_neg h0,hmea]
   have e2:e.send b=(e.drop k,(e.lm.takeF u).2.2):=by unfold DkM.send;rw [hub];simp only;rw [if_neg h0,hme]
   rw [e1,e2];exact ⟨rfl,h.drop hd he⟩
theorem Twins.hear {d e:DkM} (h:Twins d e) {k:Int} {a b:WM} (hd:d.writer k=some a) (he:e.writer k=some b) (hw:Twin e.lm a b) (hc:(e.hear b).2≠9) :
 (d.hear a).2=(e.hear b).2∧Twins (d.hear a).1 (e.hear b).1:=by
 have okd:=(h.okd.hear hd).1
 have oke:=(h.oke.hear he).1
 obtain ⟨hi,hme,_⟩:=h.oke.of_writer he
 have hmea:=(h.okd.of_writer hd).2.1
 by_cases hl:b.seen < e.lm.L.length
 ·have hget:e.lm.L[b.seen]? = some e.lm.L[b.seen]:=List.getElem?_eq_getElem hl
  have hca:e.lm.L[b.seen].By=b.me∨mayDo b.chars e.lm.L[b.seen]≠9:=by
   by_cases hby:e.lm.L[b.seen].By=b.me
   ·exact .inl hby
   ·right
    intro e9
    apply hc
    unfold DkM.hear
    rw [hget]
    simp only
    rw [if_pos ⟨hby,by rw [e9];decide⟩,e9]
  obtain ⟨t1,t2⟩:=hw.hear h.oke.lm hl hca
  have nb:¬ (e.lm.L[b.seen].By≠b.me∧mayDo b.chars e.lm.L[b.seen]≠0):=fun hh=>hh.2 (t1 hh.1).2
  have na:¬ (e.lm.L[b.seen].By≠a.me∧mayDo a.chars e.lm.L[b.seen]≠0):=fun hh=>hh.2 (t1 (by rw [← hw.me];exact hh.1)).1
  have e1:d.hear a=(d.set (e.lm.saysF k (b.hear e.lm.L[b.seen]).least).1 k (some (a.hear e.lm.L[b.seen])),0):=by
   unfold DkM.hear;rw [h.lm,hw.seen,hget];simp only;rw [if_neg na,hmea,t2.least]
  have e2:e.hear b=(e.set (e.lm.saysF k (b.hear e.lm.L[b.seen]).least).1 k (some (b.hear e.lm.L[b.seen])),0):=by
   unfold DkM.hear;rw [hget];simp only;rw [if_neg nb,hme]
  rw [e1] at okd ⊢
  rw [e2] at oke ⊢
  have hL:∀ s,s≤e.lm.L.length→pre (e.lm.saysF k (b.hear e.lm.L[b.seen]).least).1.L s=pre e.lm.L s:=fun s _=>by rw [LogM.saysF_L]
  refine ⟨rfl,h.set _ k hi _ _ okd oke hL (.inr ⟨_,_,rfl,rfl,?_⟩)⟩
  have ta:=(okd.of_writer (w:=k) (m:=a.hear e.lm.L[b.seen]) (set_writer _ _ _ _ hi)).2.2.2
  have tb:=(oke.of_writer (w:=k) (m:=b.hear e.lm.L[b.seen]) (set_writer _ _ _ _ hi)).2.2.2
  exact t2.mono (by rw [LogM.saysF_L]) ta tb
 ·have e1:d.hear a=(d,5):=by unfold DkM.hear;rw [h.lm,hw.seen,List.getElem?_eq_none (by omega)]
  have e2:e.hear b=(e,5):=by unfold DkM.hear;rw [List.getElem?_eq_none (by omega)]
  rw [e1,e2];exact ⟨rfl,h⟩
theorem Twins.clear {d e:DkM} (h:Twins d e) {k:Int} {a:WM} (hd:d.writer k=some a):Twins (d.set d.lm a.me (some (a.clearF (leastFor d.lm a.seen)))) e:=by
 have okd:=h.okd.clear hd
 obtain ⟨hi,hme,_,t0,hin⟩:=h.okd.of_writer hd
 rw [hme] at okd ⊢
 refine ⟨h.lm,okd,h.oke,fun x=>?_⟩
 by_cases hx:x=k
 ·subst hx
  rw [set_writer _ _ _ _ hi]
  rcases h.w x with ⟨h1,_⟩ | ⟨a',b,h1,h2,h3⟩
  ·rw [hd] at h1;cases h1
  ·rw [hd] at h1;cases h1
   have hcl:=(hin.clear h.okd.lm).1
   rw [h.lm] at hcl ⊢
   exact .inr ⟨_,b,rfl,h2,⟨h3.me,h3.seen,h3.next,h3.ds,h3.ns,h3.bare,⟨_,hcl⟩,h3.b⟩⟩
 ·rw [set_other _ _ _ _ _ hi hx];exact h.w x
theorem Twins.join {d e:DkM} (h:Twins d e) (w:Int) (h0:(e.lm.joinF w).2.2=0):Twins (d.set (d.lm.joinF w).1 w (some (WM.new d.lm w))) (e.set (e.lm.joinF w).1 w (some (WM.new e.lm w))):=by
 have oke:=(h.oke.join w h0)
 have okd:=(h.okd.join w (by rw [h.lm];exact h0))
 have hi:=oke.2.1
 have hn:=oke.2.2
 rw [h.lm] at okd ⊢
 have hL:∀ s,s≤e.lm.L.length→pre (e.lm.joinF w).1.L s=pre e.lm.L s:=fun s _=>by rw [LogM.joinF_L]
 have hin:=(WIn.new h.oke.lm w hi hn).2
 exact h.set _ w hi _ _ okd.1 oke.1 hL (.inr ⟨_,_,rfl,rfl,⟨rfl,rfl,rfl,rfl,rfl,by show (allF e.lm.L).1=pre (e.lm.joinF w).1.L e.lm.L.length;rw [LogM.joinF_L,pre_len],⟨0,hin⟩,⟨0,hin⟩⟩⟩)
theorem Twins.step {d e:DkM} (h:Twins d e) (x:DStep) (h6:x.Kind≠6) (h9:(e.step x).2≠9):(d.step x).2=(e.step x).2∧Twins (d.step x).1 (e.step x).1:=by
 unfold DkM.step at h9 ⊢
 by_cases hk:x.Kind < 1∨7 < x.Kind
 ·rw [if_pos hk,if_pos hk];exact ⟨rfl,h⟩
 ·rw [if_neg hk] at h9 ⊢
  rw [if_neg hk]
  by_cases h1:x.Kind=1
  ·rw [if_pos h1,if_pos h1,h.lm]
   by_cases h0:(e.lm.joinF x.W).2.2=0
   ·rw [if_pos h0,if_pos h0]
    have:=h.join x.W h0
    rw [h.lm] at this
    exact ⟨rfl,this⟩
   ·rw [if_neg h0,if_neg h0];exact ⟨rfl,h⟩
  ·rw [if_neg h1] at h9 ⊢
   rw [if_neg h1]
   rcases h.w x.W with ⟨hd,he⟩ | ⟨a,b,hd,he,hw⟩
   ·rw [hd,he];exact ⟨rfl,h⟩
   ·rw [he] at h9 ⊢
    rw [hd]
    simp only at h9 ⊢
    by_cases h2:x.Kind=2
    ·rw [if_pos h2] at h9 ⊢
     rw [if_pos h2]
     exact h.put hd he hw _ _ _ _ h9
    ·rw [if_neg h2] at h9 ⊢
     rw [if_neg h2]
     by_cases h3:x.Kind=3
     ·rw [if_pos h3] at h9 ⊢
      rw [if_pos h3]
      exact h.put hd he hw _ _ _ _ h9
     ·rw [if_neg h3] at h9 ⊢
      rw [if_neg h3]
      by_cases h4:x.Kind=4
      ·rw [if_pos h4,if_pos h4];exact h.send hd he hw
      ·rw [if_neg h4] at h9 ⊢
       rw [if_neg h4]
       by_cases h5:x.Kind=5
       ·rw [if_pos h5] at h9 ⊢
        rw [if_pos h5]
        exact h.hear hd he hw h9
       ·rw [if_neg h5,if_neg h5,if_neg h6,if_neg h6]
        have:=h.drop hd he
        rw [(h.okd.of_writer hd).2.1,(h.oke.of_writer he).2.1]
        exact ⟨rfl,this⟩
theorem Twins.view {d e:DkM} (h:Twins d e) (k:Int):(d.writer k).map WM.view=(e.writer k).map WM.view:=by
 rcases h.w k with ⟨h1,h2⟩ | ⟨a,b,h1,h2,hw⟩
 ·rw [h1,h2]
 ·rw [h1,h2,Option.map_some,Option.map_some,hw.view h.oke.lm]
end Go.Proofs.YtneoeokfffnonaaGreatDoor
namespace Go.Proofs.YtneoeokfffnonaaGreatDoor
open Go.RowKit
def sJ (w:Int):DStep:=⟨1,w,0,0,⟨#[]⟩⟩
def sA:DStep:=⟨2,0,0,0,⟨#[97,98]⟩⟩
def sB:DStep:=⟨2,1,0,0,⟨#[99]⟩⟩
def e1:DkM:=(DkM.new.step (sJ 0)).1
def e2:DkM:=(e1.step (sJ 1)).1
def e3:DkM:=(e2.step sA).1
def e4:DkM:=(e3.step sB).1
end Go.Proofs.YtneoeokfffnonaaGreatDoor
namespace Go.Proofs.YtneoeokfffnonaaGreatDoor
open Go.RowKit
theorem chain_small {ds:List Dd}:∀ {l:List Ch},Chain l ds→l.length≤200→(apOs l ds).length≤200:=by
 induction ds with
 | nil=>intro l _ h;exact h
 | cons o os ih=>
  intro l h hl
  refine ih h.2 ?_
  have h1:=chain_len [o] l ⟨h.1,trivial⟩
  have h2:=(mayDo_zero h.1).2.2
  simp only [List.map_cons,List.map_nil,List.sum_cons,List.sum_nil] at h1
  show (apOs l [o]).length≤200
  omega
theorem WIn.base_len {lm:LogM} {m:WM} {t:Int} (h:WIn lm m t) (ho:lm.Ok):m.base.length≤200:=by
 obtain ⟨X,e,_⟩:=h.bare
 rw [e]
 have:=(ho.lok.made m.seen h.seen).max
 exact Nat.le_trans (List.length_filter_le _ _) this
theorem WIn.chars_len {lm:LogM} {m:WM} {t:Int} (h:WIn lm m t) (ho:lm.Ok):m.chars.length≤200:=chain_small h.chain (h.base_len ho)
theorem WIn.base_gone {lm:LogM} {m:WM} {t:Int} (h:WIn lm m t) (ho:lm.Ok):∀ c∈m.base,i64ok c.Gone:=by
 obtain ⟨X,e,_⟩:=h.bare
 intro c hc
 rw [e] at hc
 have:=bad1_false ((ho.lok.made m.seen h.seen).good c ((List.mem_filter.1 hc).1)).b1
 unfold i64ok;omega
theorem WIn.next_le {lm:LogM} {m:WM} {t:Int} (h:WIn lm m t) (ho:lm.Ok) (N:Nat) (hN:m.opn.length≤N):1≤m.next∧m.next≤121+N:=by
 have h1:=h.next
 have h2:=cntBy_le m.me lm.L
 have h3:=cntBy_nonneg m.me lm.L
 have h4:=ho.len
 have h5:m.unsent.length≤m.opn.length:=by unfold WM.unsent WM.ds;rw [List.length_drop,List.length_map];omega
 omega
def DkM.Sm (d:DkM) (N:Nat):Prop:=∀ j m,d.W j=some m→m.opn.length≤N
theorem DkM.Sm.mono {d:DkM} {N M:Nat} (h:d.Sm N) (hm:N≤M):d.Sm M:=fun j m e=>Nat.le_trans (h j m e) hm
theorem DkM.Sm.set {d:DkM} {N:Nat} (h:d.Sm N) (lm:LogM) (w:Int) (o:Option WM) (ho:∀ m,o=some m→m.opn.length≤N):(d.set lm w o).Sm N:=by
 intro j m e
 simp only [DkM.set] at e
 split at e
 ·exact ho m e
 ·exact h j m e
theorem DkM.Sm.writer {d:DkM} {N:Nat} (h:d.Sm N) {w:Int} {m:WM} (hw:d.writer w=some m):m.opn.length≤N:=by
 unfold DkM.writer at hw
 split at hw
 ·exact h _ _ hw
 ·cases hw
theorem DkM.new_sm:DkM.new.Sm 0:=fun j m e=>by cases e
theorem DkM.Sm.drop {d:DkM} {N:Nat} (h:d.Sm N) (w:Int):(d.drop w).Sm N:=h.set _ _ _ (fun m e=>by cases e)
theorem DkM.Sm.put {d:DkM} {N:Nat} (h:d.Sm N) {m:WM} (hm:m.opn.length≤N) (x:Dd):(d.put m x).1.Sm (N+1):=by
 unfold DkM.put
 split
 ·refine (h.mono (by omega)).set _ _ _ fun m' e=>?_
  cases e
  simp [WM.doF];omega
 ·exact h.mono (by omega)
theorem DkM.Sm.send {d:DkM} {N:Nat} (h:d.Sm N) {m:WM} (hm:m.opn.length≤N):(d.send m).1.Sm N:=by
 unfold DkM.send
 split
 ·exact h
 ·split
  ·refine h.set _ _ _ fun m' e=>?_
   cases e;exact hm
  ·exact h.drop _
theorem WM.hear_opn (m:WM) (x:Dd):(m.hear x).opn.length≤m.opn.length:=by
 unfold WM.hear
 split
 ·simp [WM.hearI]
 ·exact Nat.le_refl _
theorem DkM.Sm.hear {d:DkM} {N:Nat} (h:d.Sm N) {m:WM} (hm:m.opn.length≤N):(d.hear m).1.Sm N:=by
 unfold DkM.hear
 split
 ·exact h
 ·split
  ·exact h.drop _
  ·refine h.set _ _ _ fun m' e=>?_
   cases e;exact Nat.le_trans (m.hear_opn _) hm
theorem DkM.Sm.step {d:DkM} {N:Nat} (h:d.Sm N) (x:DStep):(d.step x).1.Sm (N+1):=by
 have h1:=h.mono (show N≤N+1 by omega)
 unfold DkM.step
 split
 ·exact h1
 ·split
  ·split
   ·exact h1.set _ _ _ fun m' e=>by cases e;simp [WM.new]
   ·exact h1
  ·split
   ·exact h1
   ·rename_i m hw
    have hm:=h.writer hw
    split
    ·exact h.put hm _
    ·split
     ·exact h.put hm _
     ·split
      ·exact (h.send hm).mono (by omega)
      ·split
       ·exact (h.hear hm).mono (by omega)
       ·split
        ·refine h1.set _ _ _ fun m' e=>?_
         cases e
         show m.opn.length≤N+1;omega
        ·exact h1.drop _
theorem DkM.Sm.sendLoop {N:Nat}:∀ (n:Nat) {d:DkM} (k:Int),d.Sm N→(Go.Proofs.YtneoeokfffnonaaGreatDoor.sendLoop n d k).Sm N:=by
 intro n
 induction n with
 | zero=>intro d k h;exact h
 | succ n ih=>
  intro d k h
  unfold Go.Proofs.YtneoeokfffnonaaGreatDoor.sendLoop
  split
  ·exact h
  ·rename_i m hw
   split
   ·exact ih k (h.send (h.writer hw))
   ·exact h.send (h.writer hw)
theorem DkM.Sm.hearLoop {N:Nat}:∀ (n:Nat) {d:DkM} (k:Int),d.Sm N→(Go.Proofs.YtneoeokfffnonaaGreatDoor.hearLoop n d k).Sm N:=by
 intro n
 induction n with
 | zero=>intro d k h;exact h
 | succ n ih=>
  intro d k h
  unfold Go.Proofs.YtneoeokfffnonaaGreatDoor.hearLoop
  split
  ·exact h
  ·rename_i m hw
   split
   ·exact ih k (h.hear (h.writer hw))
   ·exact h.hear (h.writer hw)
theorem DkM.Sm.settle {d:DkM} {N:Nat} (h:d.Sm N):(Go.Proofs.YtneoeokfffnonaaGreatDoor.settle d).Sm N:=by
 unfold Go.Proofs.YtneoeokfffnonaaGreatDoor.settle hearAll sendAll
 repeat first | exact h | apply DkM.Sm.hearLoop | apply DkM.Sm.sendLoop
end Go.Proofs.YtneoeokfffnonaaGreatDoor
namespace Go.Proofs.YtneoeokfffnonaaGreatDoor
open Go.RowKit
structure RStep where
 (Do W At Many:Int) (Text:ByteArray)
def RStep.d (x:RStep):DStep:=⟨x.Do+1,x.W,x.At,x.Many,x.Text⟩
def RStep.acts (bare:Bool) (x:RStep):Prop:=0≤x.Do∧x.Do≤5∧isWriter x.W=true∧¬ (bare=true∧x.Do=5)
instance (bare:Bool) (x:RStep):Decidable (x.acts bare):=by unfold RStep.acts;infer_instance
def DkM.over (d:DkM) (x:RStep):Bool:=isWriter x.W&&(x.Do==3||x.Do==4)&&(d.step x.d).2==9
theorem DkM.Ok.here_of {d:DkM} (h:d.Ok) {w:Int} {m:WM} (hw:d.writer w=some m):(d.lm.seat w).here=true:=by
 obtain ⟨_,hme,_,t,hin⟩:=h.of_writer hw
 rw [← hme];exact hin.here
def DkM.done (d:DkM) (w:Int):Int:=match d.writer w with
 | none=>0
 | some m=>m.next - 1
structure RIn (d:DkM):Prop where
 ok:d.Ok
 no:∀ w,isWriter w=true→d.writer w=none→cntBy w d.lm.L=0
theorem RIn.new:RIn DkM.new:=⟨DkM.new_ok,fun _ _ _=>rfl⟩
def RBare (d:DkM):Prop:=∀ w m,d.writer w=some m→m.base=pre d.lm.L m.seen
theorem RBare.new:RBare DkM.new:=fun w m e=>by
 unfold DkM.writer DkM.new at e;split at e <;> cases e
end Go.Proofs.YtneoeokfffnonaaGreatDoor
namespace Go.Proofs.YtneoeokfffnonaaGreatDoor
open Go.RowKit
def alive (l:List Ch):List Ch:=l.filter fun c=>c.Out==0
theorem LOk.sees_alive {L:List Dd} (h:LOk L) (n:Nat) (hn:n≤L.length) (s:Int) (hs:n≤s) (_hs2:s < 1073741824):∀ c∈pre L n,c.sees s (-1)=(c.Out==0):=by
 intro c hc
 have g:=(h.made n hn).good c hc
 have g1:=g.in2
 have g2:=g.out1
 have g4:=g.out0
 have g3:=bad1_false g.b1
 unfold Ch.sees
 rw [knowsOut_took,took_no c.Gone (-1) rfl]
 have e1:c.knowsIn s (-1)=true:=by unfold Ch.knowsIn;simp;left;omega
 rw [e1,Bool.eq_iff_iff]
 simp
 omega
theorem LOk.vis_alive {L:List Dd} (h:LOk L) (n:Nat) (hn:n≤L.length) (s:Int) (hs:n≤s) (hs2:s < 1073741824):vis s (-1) (pre L n)=alive (pre L n):=
 List.filter_congr (h.sees_alive n hn s hs hs2)
theorem LOk.textF_alive {L:List Dd} (h:LOk L) (n:Nat) (hn:n≤L.length):textF (pre L n)=(alive (pre L n)).map Ch.C:=by
 unfold textF viewN;rw [h.vis_alive n hn _ (by have:=h.len;omega) (by omega)]
def hasK (k:Int × Int × Int) (l:List Ch):Prop:=∃ c∈l,key c=k
end Go.Proofs.YtneoeokfffnonaaGreatDoor
namespace Go.Proofs.YtneoeokfffnonaaGreatDoor
open Go.RowKit
def txtL (L:List Dd) (n:Nat):List Int:=(alive (pre L n)).map Ch.C
def bysL (L:List Dd) (n:Nat):List Int:=(alive (pre L n)).map Ch.By
theorem LOk.vis_n {L:List Dd} (h:LOk L) (n:Nat) (hn:n≤L.length):vis n (-1) (pre L n)=alive (pre L n):=h.vis_alive n hn n (by omega) (by have:=h.len;omega)
theorem LOk.txt {L:List Dd} (h:LOk L) (n:Nat) (hn:n≤L.length):textF (pre L n)=txtL L n:=h.textF_alive n hn
structure WhIn (L:List Dd) (x:Ch) (n:Nat) (came gone:Bool):Prop where
 c:came=true→∃ m,m+1=n∧hasK (key x) (pre L m)
 g:gone=true→∃ m,m+1=n∧hasK (key x) (pre L m)∧¬ hasK (key x) (alive (pre L m))
theorem WhIn.start (L:List Dd) (x:Ch):WhIn L x 0 false false:=⟨(fun h=>by cases h),(fun h=>by cases h)⟩
end Go.Proofs.YtneoeokfffnonaaGreatDoor
set_option linter.unusedVariables false
set_option linter.unusedSimpArgs false
namespace Go.Proofs.YtneoeokfffnonaaGreatDoor
open Go.RowKit Go
def wordsGo (cur:Str):Str→List Str
 | []=>if cur=[] then [] else [cur]
 | c :: l=>if c=32 then (if cur=[] then wordsGo [] l else cur :: wordsGo [] l) else wordsGo (cur++[c]) l
def wordsK (s:Str):List Str:=wordsGo [] s
theorem wordsGo_app:∀ (a cur r:Str),(∀ c∈a,c≠32)→wordsGo cur (a++32 :: r)=(if cur++a=[] then [] else [cur++a])++wordsGo [] r:=by
 intro a
 induction a with
 | nil=>
  intro cur r _
  rw [List.nil_append,List.append_nil]
  show (if (32:UInt8)=32 then (if cur=[] then wordsGo [] r else cur :: wordsGo [] r) else _)=_
  rw [if_pos rfl]
  by_cases h:cur=[]
  ·rw [if_pos h,if_pos h];rfl
  ·rw [if_neg h,if_neg h];rfl
 | cons c a ih=>
  intro cur r h
  have hc:=h c List.mem_cons_self
  show (if c=32 then (if cur=[] then wordsGo [] (a++32 :: r) else cur :: wordsGo [] (a++32 :: r)) else wordsGo (cur++[c]) (a++32 :: r))=_
  rw [if_neg hc,ih _ _ fun x hx=>h x (List.mem_cons_of_mem _ hx)]
  simp
theorem wordsGo_end:∀ (a cur:Str),(∀ c∈a,c≠32)→wordsGo cur a=if cur++a=[] then [] else [cur++a]:=by
 intro a
 induction a with
 | nil=>intro cur _;rw [List.append_nil];rfl
 | cons c a ih=>
  intro cur h
  have hc:=h c List.mem_cons_self
  show (if c=32 then (if cur=[] then wordsGo [] a else cur :: wordsGo [] a) else wordsGo (cur++[c]) a)=_
  rw [if_neg hc,ih _ fun x hx=>h x (List.mem_cons_of_mem _ hx)]
  simp
theorem wordsGo_cons (cur:Str) (c:UInt8) (l:Str):wordsGo cur (c :: l)=if c=32 then (if cur=[] then [] else [cur])++wordsGo [] l else wordsGo (cur++[c]) l:=by
 show (if c=32 then (if cur=[] then wordsGo [] l else cur :: wordsGo [] l) else wordsGo (cur++[c]) l)=_
 split
 ·split <;> rfl
 ·rfl
theorem count32 (s:Str):(wordF s=none→s.count 32=0)∧∀ a r,wordF s=some (a,r)→s.count 32=r.count 32+1:=by
 refine ⟨fun h=>?_,fun a r h=>?_⟩
 ·rw [List.count_eq_zero]
  exact fun hm=>wordF_none h _ hm rfl
 ·obtain ⟨h1,h2⟩:=wordF_some h
  rw [h1,List.count_append,List.count_cons_self,List.count_eq_zero.2 (fun hm=>h2 _ hm rfl)]
  omega
theorem split_words:∀ (k:Nat) (s:Str),s.count 32=k→(Lib.splitK [32] 0 k s).filter (fun x=>decide (x≠[]))=wordsK s:=by
 intro k
 induction k with
 | zero=>
  intro s hs
  have hn:wordF s=none:=by
   cases h:wordF s with
   | none=>rfl
   | some p=>have:=(count32 s).2 p.1 p.2 h;omega
  show ([s]:List Str).filter _=wordsGo [] s
  rw [wordsGo_end s [] (wordF_none hn),List.nil_append]
  by_cases h:s=[]
  ·simp [h]
  ·simp [h]
 | succ k ih=>
  intro s hs
  unfold Lib.splitK
  rcases index_word s with ⟨h1,h2⟩ | ⟨a,r,h1,h2⟩
  ·have:=(count32 s).1 h1;omega
  ·have hc:=(count32 s).2 a r h1
   rw [h2]
   have hne:((a.length:Int)==-1)=false:=by rw [beq_eq_false_iff_ne];omega
   obtain ⟨e,hb⟩:=wordF_some h1
   have ht:s.take ((a.length:Int).toNat+0)=a:=by rw [e];simp
   have hd:s.drop ((a.length:Int).toNat+[(32:UInt8)].length)=r:=by rw [e];simp
   rw [hne,ht,hd]
   simp only [Bool.false_eq_true,if_false]
   rw [List.filter_cons,ih r (by omega)]
   show _=wordsGo [] s
   rw [e,wordsGo_app a [] r hb,List.nil_append]
   by_cases h:a=[]
   ·simp [h,wordsK]
   ·simp [h,wordsK]
theorem words_split (s:Str):(Lib.split s [32]).filter (fun x=>decide (x≠[]))=wordsK s:=by
 unfold Lib.split
 rw [Lib.count_one]
 exact split_words _ s rfl
theorem words_len (s:Str):∀ cur:Str,(wordsGo cur s).length≤s.length+1∧∀ x∈wordsGo cur s,x.length≤cur.length+s.length∧x≠[]:=by
 induction s with
 | nil=>
  intro cur
  show (if cur=[] then ([]:List Str) else [cur]).length≤1∧∀ x∈(if cur=[] then ([]:List Str) else [cur]),_
  split
  ·exact ⟨by simp,fun x hx=>by cases hx⟩
  ·rename_i h
   exact ⟨by simp,fun x hx=>by simp at hx;subst hx;exact ⟨by simp,h⟩⟩
 | cons c l ih=>
  intro cur
  rw [wordsGo_cons]
  split
  ·obtain ⟨h1,h2⟩:=ih []
   split
   ·exact ⟨by simp;omega,fun x hx=>by
     obtain ⟨k1,k2⟩:=h2 x hx
     exact ⟨by simp at k1 ⊢;omega,k2⟩⟩
   ·rename_i h
    refine ⟨by simp;omega,fun x hx=>?_⟩
    simp only [List.singleton_append,List.mem_cons] at hx
    rcases hx with rfl | hx
    ·exact ⟨by simp,h⟩
    ·obtain ⟨k1,k2⟩:=h2 x hx
     exact ⟨by simp at k1 ⊢;omega,k2⟩
  ·obtain ⟨h1,h2⟩:=ih (cur++[c])
   exact ⟨by simp;omega,fun x hx=>by
    obtain ⟨k1,k2⟩:=h2 x hx
    exact ⟨by simp at k1 ⊢;omega,k2⟩⟩
def numsK:List Str→Option (List Int)
 | []=>some []
 | s :: l=>match numOf s with
  | none=>none
  | some n=>(numsK l).map (n :: ·)
theorem numsK_app:∀ (l:List Str) (s:Str),numsK (l++[s])=match numsK l with | none=>none | some ns=>(numOf s).map fun n=>ns++[n]:=by
 intro l
 induction l with
 | nil=>intro s;show (match numOf s with | none=>none | some n=>(some []).map (n :: ·))=_;cases numOf s <;> rfl
 | cons a l ih=>
  intro s
  show (match numOf a with | none=>none | some n=>(numsK (l++[s])).map (n :: ·))=_
  rw [ih]
  show _=match (match numOf a with | none=>none | some n=>(numsK l).map (n :: ·)) with | none=>none | some ns=>(numOf s).map fun n=>ns++[n]
  cases numOf a with
  | none=>rfl
  | some n=>
   cases numsK l with
   | none=>rfl
   | some ns=>cases numOf s <;> rfl
theorem numsK_stop (l:List Str) (k:Nat) (hk:k < l.length) (h:numOf l[k]=none):numsK l=none:=by
 induction l generalizing k with
 | nil=>simp at hk
 | cons a l ih=>
  show (match numOf a with | none=>none | some n=>(numsK l).map (n :: ·))=none
  cases k with
  | zero=>simp only [List.getElem_cons_zero] at h;rw [h]
  | succ k=>
   simp only [List.getElem_cons_succ] at h
   rw [ih k (by simpa using hk) h]
   cases numOf a <;> rfl
inductive Ask where
 | step (x:DStep)
 | text (w:Int)
 | all
 | opn (w:Int)
 | log
 | thn (n:Int)
 | settle
 | least
 | what
 | nothing
def joinB:Str:=[106,111,105,110]
def sendB:Str:=[115,101,110,100]
def hearB:Str:=[104,101,97,114]
def clearB:Str:=[99,108,101,97,114]
def leaveB:Str:=[108,101,97,118,101]
def textB:Str:=[116,101,120,116]
def openB:Str:=[111,112,101,110]
def logB:Str:=[108,111,103]
def thenB:Str:=[116,104,101,110]
def settleB:Str:=[115,101,116,116,108,101]
def leastB:Str:=[108,101,97,115,116]
def whatB:Str:=[119,104,97,116]
def noB:Str:=[110,111]
def okB:Str:=[111,107]
def endB:Str:=[101,110,100]
def byB:Str:=[98,121]
def stepK (w:Str):Option Int:=
 if w=joinB then some 1 else if w=sendB then some 4 else if w=hearB then some 5 else if w=clearB then some 6 else if w=leaveB then some 7 else none
def askN (w:Str) (n:List Int):Ask:=match stepK w,n with
 | some k,[a]=>.step ⟨k,a,0,0,⟨#[]⟩⟩
 | _,n=>
  if w=takeB then (match n with | [a,b,c]=>.step ⟨3,a,b,c,⟨#[]⟩⟩ | _=>.what)
  else if w=textB then (match n with | [a]=>.text a | []=>.all | _=>.what)
  else if w=openB then (match n with | [a]=>.opn a | _=>.what)
  else if w=logB then (match n with | []=>.log | _=>.what)
  else if w=thenB then (match n with | [a]=>.thn a | _=>.what)
  else if w=settleB then (match n with | []=>.settle | _=>.what)
  else if w=leastB then (match n with | []=>.least | _=>.what)
  else .what
def askW:List Str→Ask
 | []=>.nothing
 | w :: l=>match numsK l with
  | none=>.what
  | some n=>askN w n
def askF (s:Str):Ask:=match wordsF 3 s with
 | some ([k,a,b],t)=>
  if k=putB then (match numOf a,numOf b with
   | some A,some B=>.step ⟨2,A,B,0,⟨t.toArray⟩⟩
   | _,_=>askW (wordsK s))
  else askW (wordsK s)
 | _=>askW (wordsK s)
def codeL (c:Int):Str:=if c=0 then okB else noB++32 :: Lib.itoa c
def strL (l:List Int):Str:=(strOfNums l).data.toList
def bysS:List Int→Str
 | []=>[]
 | k :: l=>32 :: (Lib.itoa k++bysS l)
def tellK (d:DkM):Ask→DkM × List Str
 | .step x=>((d.step x).1,[codeL (d.step x).2])
 | .text w=>(d,match d.writer w with | none=>[codeL 5] | some m=>[textB++32 :: strL m.view])
 | .all=>(d,[textB++32 :: strL d.lm.view])
 | .opn w=>(d,match d.writer w with | none=>[codeL 5] | some m=>m.ds.map lineB++[endB])
 | .log=>(d,d.lm.L.map lineB++[endB])
 | .thn n=>(d,if 0≤n∧n≤d.lm.L.length then [textB++32 :: strL (txtL d.lm.L n.toNat),byB++bysS (bysL d.lm.L n.toNat)] else [codeL 5])
 | .settle=>(settle d,[okB])
 | .least=>(d,[leastB++32 :: (Lib.itoa d.lm.least++32 :: Lib.itoa (d.lm.L.length:Int))])
 | .what=>(d,[whatB])
 | .nothing=>(d,[])
def linesS:List Str→Str
 | []=>[]
 | s :: l=>s++10 :: linesS l
theorem linesS_app (a b:List Str):linesS (a++b)=linesS a++linesS b:=by
 induction a with
 | nil=>rfl
 | cons s l ih=>show s++10 :: linesS (l++b)=(s++10 :: linesS l)++linesS b;rw [ih];simp
def lineK (d:DkM) (s:Str):DkM × Str:=((tellK d (askF s)).1,linesS (tellK d (askF s)).2)
def linesK (d:DkM):List Str→DkM × Str
 | []=>(d,[])
 | s :: l=>((linesK (lineK d s).1 l).1,(lineK d s).2++(linesK (lineK d s).1 l).2)
theorem linesK_app:∀ (a b:List Str) (d:DkM),linesK d (a++b)=((linesK (linesK d a).1 b).1,(linesK d a).2++(linesK (linesK d a).1 b).2):=by
 intro a
 induction a with
 | nil=>intro b d;rfl
 | cons s l ih=>
  intro b d
  show ((linesK (lineK d s).1 (l++b)).1,(lineK d s).2++(linesK (lineK d s).1 (l++b)).2)=_
  rw [ih]
  show _=((linesK (linesK (lineK d s).1 l).1 b).1,((lineK d s).2++(linesK (lineK d s).1 l).2)++(linesK (linesK (lineK d s).1 l).1 b).2)
  simp
theorem tellK_ok {d:DkM} (h:d.Ok) (a:Ask):(tellK d a).1.Ok:=by
 cases a
 case step x=>exact h.step x
 case settle=>exact (settle_settled h).ok
 all_goals exact h
theorem linesK_ok:∀ (l:List Str) {d:DkM},d.Ok→(linesK d l).1.Ok:=by
 intro l
 induction l with
 | nil=>intro d h;exact h
 | cons s l ih=>intro d h;exact ih (tellK_ok h _)
theorem tellK_sm {d:DkM} {N:Nat} (h:d.Sm N) (a:Ask):(tellK d a).1.Sm (N+1):=by
 cases a
 case step x=>exact h.step x
 case settle=>exact (h.settle).mono (by omega)
 all_goals exact h.mono (by omega)
theorem linesK_sm:∀ (l:List Str) {d:DkM} {N:Nat},d.Sm N→(linesK d l).1.Sm (N+l.length):=by
 intro l
 induction l with
 | nil=>intro d N h;exact h
 | cons s l ih=>intro d N h;have:=ih (tellK_sm h (askF s));exact this.mono (by simp;omega)
end Go.Proofs.YtneoeokfffnonaaGreatDoor
set_option linter.unusedVariables false
set_option linter.unusedSimpArgs false
namespace Go.Proofs.YtneoeokfffnonaaGreatDoor
open Go.RowKit Go
set_option maxRecDepth 100000
def begunL:List Str:=[[106,111,105,110,32,48],
 [106,111,105,110,32,49],
 [112,117,116,32,48,32,48,32,97,32,98],
 [112,117,116,32,49,32,48,32,99],
 [115,101,116,116,108,101],
 [116,101,120,116,32,49],
 [116,97,107,101,32,48,32,48,32,49],
 [111,112,101,110,32,48],
 [115,101,110,100,32,48],
 [108,111,103],
 [116,104,101,110,32,51],
 [108,101,97,115,116],
 [120]]
def begunT:Str:=[111,107,10,111,107,10,111,107,10,111,107,10,111,107,10,116,101,120,116,32,99,97,32,98,10,111,107,10,116,97,107,101,32,48,32,50,32,50,32,48,32,49,10,101,110,100,10,111,107,10,112,117,116,32,48,32,49,32,48,32,48,32,97,32,98,10,112,117,116,32,49,32,49,32,48,32,48,32,99,10,116,97,107,101,32,48,32,50,32,50,32,48,32,49,10,101,110,100,10,116,101,120,116,32,97,32,98,10,98,121,32,48,32,48,32,48,10,108,101,97,115,116,32,50,32,51,10,119,104,97,116,10]
theorem begun_told:(linesK DkM.new begunL).2=begunT:=of_decide_eq_true (by kernel_rfl)
def slowK (n:Int):List Str→Bool
 | []=>false
 | s :: l=>if 9000 < n+(s.length:Int) then true else slowK (n+(s.length:Int)) l
theorem slowK_false:∀ (l:List Str) (n:Int),0≤n→slowK n l=false→∀ s∈l,s.length≤9000:=by
 intro l
 induction l with
 | nil=>intro n _ _ s hs;cases hs
 | cons a l ih=>
  intro n hn h s hs
  unfold slowK at h
  split at h
  ·cases h
  ·rename_i h1
   rcases List.mem_cons.1 hs with rfl | hs
   ·omega
   ·exact ih _ (by omega) h s hs
def badAt:List Str→Nat→Option Nat
 | [],_=>none
 | s :: l,i=>if (10:UInt8)∈s then some i else badAt l (i+1)
theorem badAt_none:∀ (l:List Str) (i:Nat),badAt l i=none↔∀ s∈l,(10:UInt8)∉s:=by
 intro l
 induction l with
 | nil=>intro i;exact ⟨fun _ s hs=>(by cases hs),fun _=>rfl⟩
 | cons a l ih=>
  intro i
  show (if (10:UInt8)∈a then some i else badAt l (i+1))=none↔_
  by_cases h:(10:UInt8)∈a
  ·rw [if_pos h];simp [h]
  ·rw [if_neg h,ih];simp [h]
def faultK (l:List Str):Int × Int:=if 150 < l.length then (10,-1) else match badAt l 0 with
 | some i=>(11,(i:Int))
 | none=>(0,0)
theorem faultK_zero {l:List Str}:(faultK l).1=0↔l.length≤150∧∀ s∈l,(10:UInt8)∉s:=by
 unfold faultK
 split
 ·constructor
  ·intro h;cases h
  ·intro h;omega
 ·rename_i h
  cases hb:badAt l 0 with
  | some i=>
   constructor
   ·intro h;cases h
   ·intro h2;rw [(badAt_none l 0).2 h2.2] at hb;cases hb
  | none=>exact ⟨fun _=>⟨by omega,(badAt_none l 0).1 hb⟩,fun _=>rfl⟩
def doK (d:DkM) (l:List Str):DkM:=if (faultK l).1=0 then (linesK d l).1 else d
def saysK (d:DkM) (l:List Str):Str:=if (faultK l).1=0 then (linesK d l).2 else []
end Go.Proofs.YtneoeokfffnonaaGreatDoor
set_option linter.unusedVariables false
set_option linter.unusedSimpArgs false
namespace Go.Proofs.YtneoeokfffnonaaGreatDoor
open Go.RowKit Go
theorem deedFault_code (x:Dd):0≤deedFault x∧deedFault x≤9:=by
 unfold deedFault
 repeat' split
 all_goals omega
theorem mayDo_code (l:List Ch) (x:Dd):0≤mayDo l x∧mayDo l x≤9:=by
 have:=deedFault_code x
 unfold mayDo
 repeat' split
 all_goals omega
theorem doF_code9 (l:List Ch) (x:Dd) (p:Int):0≤(doF l x p).2∧(doF l x p).2≤9:=by
 have:=mayDo_code l x
 unfold doF
 repeat' split
 all_goals first | exact this | simp_all <;> omega
theorem takeF_code (m:LogM) (x:Dd):0≤(m.takeF x).2.2∧(m.takeF x).2.2≤9:=by
 have:=doF_code9 m.chars x ((m.L.length:Int)+1)
 unfold LogM.takeF
 repeat' split
 all_goals first | exact this | simp
theorem joinF_code (m:LogM) (x:Int):0≤(m.joinF x).2.2∧(m.joinF x).2.2≤9:=by
 unfold LogM.joinF
 repeat' split
 all_goals simp
theorem step_code (d:DkM) (x:DStep):0≤(d.step x).2∧(d.step x).2≤9:=by
 have hp:∀ (m:WM) (u:Dd),0≤(d.put m u).2∧(d.put m u).2≤9:=fun m u=>by
  have:=mayDo_code m.chars u
  unfold DkM.put
  split
  ·simp
  ·exact this
 have hs:∀ m:WM,0≤(d.send m).2∧(d.send m).2≤9:=fun m=>by
  unfold DkM.send
  split
  ·simp
  ·rename_i u us _
   have:=takeF_code d.lm u
   split
   ·simp
   ·exact this
 have hh:∀ m:WM,0≤(d.hear m).2∧(d.hear m).2≤9:=fun m=>by
  unfold DkM.hear
  split
  ·simp
  ·rename_i u _
   have:=mayDo_code m.chars u
   split
   ·exact this
   ·simp
 have hj:=joinF_code d.lm x.W
 unfold DkM.step
 split
 ·simp
 split
 ·split
  ·simp
  ·exact hj
 split
 ·simp
 split
 ·exact hp _ _
 split
 ·exact hp _ _
 split
 ·exact hs _
 split
 ·exact hh _
 split <;> simp
theorem ok_of_fault {u:Dd} (h:deedFault u=0):u.ok:=by
 obtain ⟨hw,h1,h2,h3,h4,h5,h6,hk⟩:=deedFault_zero h
 have hby:0≤u.By∧u.By < 4:=by have:=toNat_lt hw;omega
 have f:=fault_facts h
 unfold Dd.ok i64ok
 rcases hk with ⟨k1,k2,k3⟩ | ⟨k1,k2,k3,k4⟩
 ·have:=(textOk_size k3).2
  refine ⟨by omega,by omega,by omega,by omega,by omega,by omega,?_⟩
  unfold maxLen;omega
 ·refine ⟨by omega,by omega,by omega,by omega,by omega,by omega,?_⟩
  unfold maxLen;omega
theorem log_fault {m:LogM} (ho:m.Ok):∀ u∈m.L,deedFault u=0:=fun u hu=>by
 obtain ⟨i,hi,e⟩:=List.getElem_of_mem hu
 rw [← e];exact (ho.deeds i hi).f
theorem ds_fault {lm:LogM} {m:WM} {t:Int} (h:WIn lm m t) (ho:lm.Ok):∀ u∈m.ds,deedFault u=0:=fun u hu=>by
 rw [h.ds_eq] at hu
 rcases List.mem_append.1 hu with hu | hu
 ·exact log_fault ho u (List.mem_of_mem_drop (List.mem_filter.1 hu).1)
 ·obtain ⟨i,hi,e⟩:=List.getElem_of_mem hu
  rw [← e];exact (h.us i hi).f
theorem code5_len:(codeL 5).length=4:=of_decide_eq_true (by kernel_rfl)
theorem strL_len (l:List Int):(strL l).length=l.length:=by
 unfold strL;rw [Array.length_toList];simp [strOfNums]
theorem itoa21 {n:Int} (h:i64ok n):(Lib.itoa n).length≤21:=by
 unfold i64ok at h;exact Lib.itoa_length_le n h.1 (by omega)
theorem codeL_len {c:Int} (h:0≤c∧c≤9):(codeL c).length≤24:=by
 unfold codeL
 split
 ·decide
 ·have:=itoa21 (n:=c) (by unfold i64ok;omega)
  simp [noB];omega
theorem linesS_len (N:Nat):∀ l:List Str,(∀ s∈l,s.length≤N)→(linesS l).length≤l.length * (N+1):=by
 intro l
 induction l with
 | nil=>intro _;exact Nat.zero_le _
 | cons s l ih=>
  intro h
  have h1:=h s List.mem_cons_self
  have h2:=ih fun x hx=>h x (List.mem_cons_of_mem _ hx)
  show (s++10 :: linesS l).length≤(l.length+1) * (N+1)
  rw [List.length_append,List.length_cons,Nat.add_mul,Nat.one_mul]
  omega
theorem bysS_len:∀ l:List Int,(∀ k∈l,0≤k∧k < 4)→(bysS l).length≤l.length * 22:=by
 intro l
 induction l with
 | nil=>intro _;exact Nat.zero_le _
 | cons k l ih=>
  intro h
  have h1:=itoa21 (n:=k) (by have:=h k List.mem_cons_self;unfold i64ok;omega)
  have h2:=ih fun x hx=>h x (List.mem_cons_of_mem _ hx)
  show (32 :: (Lib.itoa k++bysS l)).length≤(l.length+1) * 22
  rw [List.length_cons,List.length_append,Nat.add_mul]
  omega
theorem mem_of_alive {l:List Ch} {c:Ch} (h:c∈alive l):c∈l:=by
 unfold alive at h;first | exact (List.mem_filter.1 h).1 | exact List.mem_of_mem_filter h
theorem bysL_small {L:List Dd} (hL:LOk L) (n:Nat) (hn:n≤L.length):(bysL L n).length≤200∧(txtL L n).length≤200∧∀ k∈bysL L n,0≤k∧k < 4:=by
 have hm:=hL.made n hn
 have h200:(pre L n).length≤200:=hm.max
 have ha:(alive (pre L n)).length≤(pre L n).length:=by unfold alive;exact List.length_filter_le _ _
 refine ⟨by unfold bysL;rw [List.length_map];omega,by unfold txtL;rw [List.length_map];omega,fun k hk=>?_⟩
 unfold bysL at hk
 obtain ⟨c,hc,rfl⟩:=List.mem_map.1 hk
 have hb:=(hm.good c (mem_of_alive hc)).b1
 have hw:isWriter c.By=true:=by
  unfold bad1 at hb
  cases h:isWriter c.By
  ·simp [h] at hb
  ·rfl
 have:=toNat_lt hw
 omega
theorem told_len {d:DkM} (ho:d.Ok) {N:Nat} (hs:d.Sm N) (hN:N≤1000) (a:Ask):(linesS (tellK d a).2).length≤400000:=by
 have one:∀ (s:Str) (M:Nat),s.length≤M→M+1≤400000→(linesS [s]).length≤400000:=fun s M h h2=>by
  have:=linesS_len M [s] (fun x hx=>by simp only [List.mem_singleton] at hx;subst hx;exact h)
  simp only [List.length_singleton,Nat.one_mul] at this;omega
 have hlv:d.lm.view.length≤1000:=by
  unfold LogM.view textF
  rw [viewN_length]
  have h1:(allF d.lm.L).1.length≤200:=by rw [← pre_len];exact (ho.lm.lok.made _ (Nat.le_refl _)).max
  exact Nat.le_trans (Nat.le_trans (List.length_filter_le _ _) h1) (by omega)
 have hlines:∀ l:List Dd,l.length≤1000→(∀ u∈l,deedFault u=0)→(linesS (l.map lineB++[endB])).length≤400000:=fun l hl h=>by
  have:=linesS_len 200 (l.map lineB++[endB]) (fun x hx=>by
   rcases List.mem_append.1 hx with hx | hx
   ·obtain ⟨u,hu,rfl⟩:=List.mem_map.1 hx
    exact line_len (h u hu)
   ·simp only [List.mem_singleton] at hx;subst hx;decide)
  rw [List.length_append,List.length_map,List.length_singleton] at this
  have h2:(l.length+1) * (200+1)≤1001 * 201:=Nat.mul_le_mul (by omega) (by omega)
  omega
 cases a with
 | step x=>exact one _ 24 (codeL_len (step_code d x)) (by omega)
 | text w=>
  show (linesS (match d.writer w with | none=>[codeL 5] | some m=>[textB++32 :: strL m.view])).length≤_
  cases hw:d.writer w with
  | none=>exact one _ 24 (codeL_len (by omega)) (by omega)
  | some m=>
   obtain ⟨_,_,_,tm,hin⟩:=ho.of_writer hw
   have hcl:=hin.chars_len ho.lm
   have hv:m.view.length≤200:=by
    have e:m.view.length=(vis m.seen m.me m.chars).length:=viewN_length _ _ _
    have e2:(vis m.seen m.me m.chars).length≤m.chars.length:=List.length_filter_le _ _
    omega
   refine one _ 1000 ?_ (by omega)
   have:=strL_len m.view
   simp [textB];omega
 | all=>
  refine one _ 2000 ?_ (by omega)
  have:=strL_len d.lm.view
  simp [textB];omega
 | opn w=>
  show (linesS (match d.writer w with | none=>[codeL 5] | some m=>m.ds.map lineB++[endB])).length≤_
  cases hw:d.writer w with
  | none=>exact one _ 24 (codeL_len (by omega)) (by omega)
  | some m=>
   obtain ⟨_,_,_,tm,hin⟩:=ho.of_writer hw
   exact hlines m.ds (by have:=hs.writer hw;unfold WM.ds;rw [List.length_map];omega) (ds_fault hin ho.lm)
 | log=>exact hlines _ (by have:=ho.lm.len;omega) (log_fault ho.lm)
 | thn n=>
  show (linesS (if 0≤n∧n≤d.lm.L.length then [textB++32 :: strL (txtL d.lm.L n.toNat),byB++bysS (bysL d.lm.L n.toNat)] else [codeL 5])).length≤_
  split
  ·rename_i h
   obtain ⟨h1,h2,h3⟩:=bysL_small ho.lm.lok n.toNat (by omega)
   have h4:=bysS_len _ h3
   have h5:=strL_len (txtL d.lm.L n.toNat)
   have:=linesS_len 10000 [textB++32 :: strL (txtL d.lm.L n.toNat),byB++bysS (bysL d.lm.L n.toNat)] (fun x hx=>by
    simp only [List.mem_cons,List.not_mem_nil,or_false] at hx
    rcases hx with rfl | rfl
    ·simp [textB];omega
    ·simp [byB];omega)
   simp only [List.length_cons,List.length_nil] at this
   omega
  ·exact one _ 24 (codeL_len (by omega)) (by omega)
 | settle=>exact one _ 24 (by decide) (by omega)
 | least=>
  refine one _ 200 ?_ (by omega)
  have h1:=ho.lm.least0
  have h2:=d.lm.least_le
  have h3:=ho.lm.len
  have h4:=itoa21 (n:=d.lm.least) (by unfold i64ok;omega)
  have h5:=itoa21 (n:=(d.lm.L.length:Int)) (by unfold i64ok;omega)
  simp [leastB];omega
 | what=>exact one _ 24 (by decide) (by omega)
 | nothing=>exact Nat.zero_le _
end Go.Proofs.YtneoeokfffnonaaGreatDoor
