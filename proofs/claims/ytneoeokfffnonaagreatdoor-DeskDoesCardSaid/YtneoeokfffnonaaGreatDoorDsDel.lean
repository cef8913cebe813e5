/- slices.DeleteFunc at strings. -/
import Derived.Test.YtneoeokfffnonaaGreatDoorCharsW
set_option linter.unusedVariables false
set_option linter.unusedSimpArgs false
namespace Go.Proofs.YtneoeokfffnonaaGreatDoor
open Go.RowKit Go
def SlO (w:World) (a:Option Addr) (cap:Nat) (l:List ByteArray):Prop:=l.length≤cap∧cap≤maxLen∧∀ i (h:i < l.length),∃ b off,a=some ⟨b,off,none⟩∧w.cell? ⟨b,off+i,none⟩=some (.string l[i])
theorem SlO.nil (w:World):SlO w none 0 []:=⟨by simp,by simp,fun i h=>by simp at h⟩
theorem SlO.nth {w:World} {a:Option Addr} {cap:Nat} {l:List ByteArray} (h:SlO w a cap l) {k:Nat} (hk:k < l.length):∃ b off,a=some ⟨b,off,none⟩∧w.cell? ⟨b,off+k,none⟩=some (.string l[k]):=h.2.2 k hk
theorem SlO.belowB {w w' : World} {a:Option Addr} {cap B:Nat} {l:List ByteArray} (h:SlO w a cap l) (hb:Below B w w') (hB:∀ ad,a=some ad→l≠[]→ad.block < B):SlO w' a cap l:=by
 refine ⟨h.1,h.2.1,fun i hi=>?_⟩
 obtain ⟨b,off,e,hc⟩:=h.2.2 i hi
 refine ⟨b,off,e,(hb.cell (p:=⟨b,off+i,none⟩) ?_).trans hc⟩
 show b < B
 exact hB ⟨b,off,none⟩ e (fun e2=>by rw [e2] at hi;cases hi)
theorem SlO.lt {w:World} {a:Option Addr} {cap:Nat} {l:List ByteArray} (h:SlO w a cap l):∀ ad,a=some ad→l≠[]→ad.block < w.heap.size:=fun ad e hne=>by
 obtain ⟨b,off,e2,hc⟩:=h.2.2 0 (List.length_pos_iff.2 hne)
 rw [e2] at e;cases e
 exact World.block_lt_of_cell? w _ hc
theorem SlO.below {w w' : World} {a:Option Addr} {cap:Nat} {l:List ByteArray} (h:SlO w a cap l) (hb:Below w.heap.size w w'):SlO w' a cap l:=h.belowB hb h.lt
theorem SlO.ofRow {w:World} {base:Nat} {e:TypeId} {a:Option Addr} {cap:Nat} {l:List ByteArray} (h:OwnRow w base e 1 a l.length cap (l.map Value.string)):SlO w a cap l:=by
 refine ⟨h.le,h.max,fun i hi=>?_⟩
 obtain ⟨g,off,e,_,_,hc⟩:=h.cell (by rw [List.length_map];omega)
 exact ⟨g,off,e,hc i _ (by simp [hi])⟩
theorem SlO.take {w:World} {a:Option Addr} {cap:Nat} {l:List ByteArray} (h:SlO w a cap l) (k:Nat):SlO w a cap (l.take k):=by
 refine ⟨Nat.le_trans (by rw [List.length_take];omega) h.1,h.2.1,fun i hi=>?_⟩
 obtain ⟨b,off,e,hc⟩:=h.2.2 i (by rw [List.length_take] at hi;omega)
 exact ⟨b,off,e,by rw [List.getElem_take];exact hc⟩
def PredS (P:Program) (g:FuncId) (fst caps:Array Value) (p:ByteArray→Bool):Prop:=
 ∀ (c:ByteArray) (W:World),Calls P g (fst.push (.string c)++caps) W fun e W'=>e=.returned (.bool (p c))∧Below W.heap.size W W'
def idxS (p:ByteArray→Bool):List ByteArray→Int→Int
 | [],_=>-1
 | x :: l,i=>if p x then i else idxS p l (i+1)
theorem idxS_spec (p:ByteArray→Bool) (l:List ByteArray):∀ i:Int,(idxS p l i=-1∧l.filter (fun c=>!p c)=l)∨∃ k,∃ h:k < l.length,idxS p l i=i+k∧p l[k]=true∧(l.take k).filter (fun c=>!p c)=l.take k:=by
 induction l with
 | nil=>intro i;left;exact ⟨rfl,rfl⟩
 | cons c l ih=>
  intro i
  unfold idxS
  cases hp:p c
  ·rcases ih (i+1) with ⟨h1,h2⟩ | ⟨k,hk,h1,h2,h3⟩
   ·left;simp [h1,hp,h2]
   ·right
    refine ⟨k+1,by simp;omega,by simp [h1];omega,by simpa using h2,?_⟩
    rw [List.take_succ_cons,List.filter_cons_of_pos (by simp [hp]),h3]
  ·right;exact ⟨0,by simp,by simp,by simpa using hp,by simp⟩
theorem mem_idxS (p:ByteArray→Bool) (l:List ByteArray) (k:Nat) (h:k < l.length) (hp:p l[k]=true) (ht:(l.take k).filter (fun c=>!p c)=l.take k):(l.take (k+1)).filter (fun c=>!p c)=l.take k:=by
 rw [List.take_succ_eq_append_getElem h,List.filter_append,ht];simp [hp]
theorem IndexFuncS_c (a:Option Addr) (cap:Nat) (l:List ByteArray) (g:FuncId) (fst caps:Array Value) (p:ByteArray→Bool) (w:World) (hs:SlO w a cap l) (hp:PredS Tryz.prog g fst caps p) (heg:∀ (args:Array Value) (W:World),Sem.run Tryz.prog (callFunc g args) W=.ok (.enter g args) W) :
 Calls Tryz.prog 49 #[.slice a l.length cap,.func (.func g) fst caps] w fun e w'=>e=.returned (.int .i64 (idxS p l 0))∧Below w.heap.size w w':=by
 have hm:l.length≤maxLen:=Nat.le_trans hs.1 hs.2.1
 unfold maxLen at hm
 go_enter Tryz.func49,Tryz.ntmps49
 go_wp2
 go_loopw [8] (fun i wr=>∃ k:Nat,k≤l.length∧i=.int .i64 k∧Below w.heap.size w wr∧Hid (idxS p (l.drop k) k=idxS p l 0)) (fun i _=>l.length - (intOf i).toNat)
 case atStart=>exact ⟨0,Nat.zero_le _,rfl,Below.refl _ _,Lib.hid (by simp)⟩
 case round=>
  obtain ⟨k,hk,rfl,hb,HE⟩:=hrel
  by_cases hlt:k < l.length
  ·obtain ⟨b,off,rfl,hc⟩:=(hs.below hb).nth hlt
   have HD:=Lib.hid (show idxS p (l.drop k) k=if p l[k] then (k:Int) else idxS p (l.drop (k+1)) (k+1) by rw [List.drop_eq_getElem_cons hlt];rfl)
   generalize hx:l[k]=x at *
   go_wp2_with fail
   refine (hp x _).mono ?_
   rintro e w2 ⟨rfl,hb2⟩
   clear hc
   have hbx:Below w.heap.size w w2:=hb.trans (hb2.mono hb.size)
   cases hsm:p x
   ·have HD2:=Lib.hid (show idxS p (l.drop (k+1)) ((k+1:Nat):Int)=idxS p l 0 by rw [← HE.out,HD.out,hsm];simp)
    clear HD HE
    go_wp2
    exact ⟨⟨k+1,by omega,by go_num,hbx,HD2⟩,by simp [intOf];omega⟩
   ·have HD2:=Lib.hid (show idxS p l 0=k by rw [← HE.out,HD.out,hsm];simp)
    clear HD HE
    go_wp2
    go_ret
    exact ⟨by rw [HD2.out];rfl,hbx⟩
  ·obtain rfl:k=l.length:=by omega
   have HD2:=Lib.hid (show idxS p l 0=-1 by rw [← HE.out];simp [idxS])
   clear HE
   go_wp2
   go_ret
   exact ⟨by rw [HD2.out];rfl,hb⟩
theorem zero_str1:∀ v∈(Value.string ⟨#[]⟩).cells,v.oneCell'=true:=by
 intro v hv;simp [Value.cells] at hv;subst hv;rfl
theorem zero_str:∃ i,Tryz.prog.info? 9=some i∧i.zero=some (.string ⟨#[]⟩):=info_zero (by kernel_rfl)
set_option maxRecDepth 100000 in
set_option maxHeartbeats 1000000 in
theorem DeleteFuncS_c (a:Option Addr) (cap:Nat) (l:List ByteArray) (g0:FuncId) (fst caps:Array Value) (p:ByteArray→Bool) (w:World) (base:Nat) (h:OwnRow w base 9 1 a l.length cap (l.map Value.string)) (hp:PredS Tryz.prog g0 fst caps p)
 (heg:∀ (args:Array Value) (W:World),Sem.run Tryz.prog (callFunc g0 args) W=.ok (.enter g0 args) W) :
 Calls Tryz.prog 24 #[.slice a l.length cap,.func (.func g0) fst caps] w fun e w'=>e=.returned (.slice a (l.filter fun c=>!p c).length cap)∧
  OwnRow w' base 9 1 a (l.filter fun c=>!p c).length cap ((l.filter fun c=>!p c).map Value.string)∧w.grownBy w' (ownB a cap):=by
 have hm:l.length≤maxLen:=Nat.le_trans h.le h.max
 unfold maxLen at hm
 go_enter Tryz.func24,Tryz.ntmps24
 rcases idxS_spec p l 0 with ⟨h1,h2⟩ | ⟨k,hk,h1,h2,h3⟩
 ·have H2:=Lib.hid h2;clear h2
  go_wp2_with fail
  refine (IndexFuncS_c a cap l _ _ _ p _ (SlO.ofRow h) hp heg).mono ?_
  rintro e w1 ⟨rfl,hb1⟩
  rw [h1]
  clear h1
  go_wp2
  go_ret
  exact ⟨by rw [H2.out];rfl,by rw [H2.out];exact h.below hb1,grownBy_below hb1 _⟩
 ·have HF:=Lib.hid (mem_idxS p l k hk h2 h3)
  obtain ⟨g,off,rfl,hbg,hgw,_⟩:=h.cell (by rw [List.length_map];omega)
  have hcap0:¬ cap=0:=by have:=h.le;omega
  have hob:ownB (some ⟨g,off,none⟩) cap=some g:=by simp [ownB,hcap0]
  rw [hob]
  have h1' : idxS p l 0=(k:Int):=by rw [h1,Int.zero_add]
  clear h1 h2 h3 hob
  have hkm:k≤9223372036854775806:=by omega
  have hne:((k:Int)==-1)=false:=by simp
  go_wp2_with fail
  refine (IndexFuncS_c _ cap l _ _ _ p _ (SlO.ofRow h) hp heg).mono ?_
  rintro e w1 ⟨rfl,hb1⟩
  rw [h1']
  clear h1'
  go_wp2
  go_loopw [5,6] (fun s5 s6 wr=>∃ (i j:Nat) (L:List ByteArray),i < j∧j≤l.length∧s5=.int .i64 i∧s6=.int .i64 j∧Hid (L.length=l.length)∧Hid (L.take i=(l.take j).filter fun c=>!p c)∧Hid (L.drop j=l.drop j)∧
   Hid (OwnRow wr base 9 1 (some ⟨g,off,none⟩) l.length cap (L.map Value.string))∧w.grownBy wr (some g)) (fun _ s6 _=>l.length - (intOf s6).toNat)
  case atStart=>exact ⟨k,k+1,l,by omega,by omega,rfl,by go_num,Lib.hid rfl,Lib.hid HF.out.symm,Lib.hid rfl,Lib.hid (h.below hb1),grownBy_below hb1 _⟩
  case round=>
   obtain ⟨i,j,L,hij,hjl,rfl,rfl,HL,HT,HD,HO,hgr⟩:=hrel
   have hmj:j≤9223372036854775807:=by omega
   by_cases hlt:j < l.length
   ·have hjL:j < L.length:=by rw [HL.out];exact hlt
    have hxl:L[j]=l[j]:=by
     have:=congrArg (·[0]?) HD.out
     simpa [List.getElem?_drop,List.getElem?_eq_getElem hjL,List.getElem?_eq_getElem hlt] using this
    obtain ⟨b,off',he,hc⟩:=(SlO.ofRow (l:=L) (by rw [HL.out];exact HO.out)).nth hjL
    cases he
    have HF1:=Lib.hid (show (l.take (j+1)).filter (fun c=>!p c)=(l.take j).filter (fun c=>!p c)++(if p L[j] then [] else [L[j]]) by
     rw [List.take_succ_eq_append_getElem hlt,List.filter_append,hxl];congr 1;cases hpp:p l[j] <;> simp [hpp])
    have HD1:=Lib.hid (show L.drop (j+1)=l.drop (j+1) by
     have:=congrArg (List.drop 1) HD.out;simpa [List.drop_drop,Nat.add_comm] using this)
    clear hxl HD
    have hjl' : (j:Int) < l.length:=by omega
    generalize hx:L[j]=x at *
    have HX:=Lib.hid hx;clear hx
    go_wp2_with fail
    refine (hp x _).mono ?_
    rintro e w2 ⟨rfl,hb2⟩
    clear hc
    have hg2:w.grownBy w2 (some g):=grownBy_trans hgr (grownBy_below hb2 _)
    have HO2:=Lib.hid (HO.out.below hb2)
    cases hpx:p x
    ·have HF2:=Lib.hid (show (l.take (j+1)).filter (fun c=>!p c)=(l.take j).filter (fun c=>!p c)++[x] by rw [HF1.out,hpx];rfl)
     clear HF1
     have hil' : (i:Int) < l.length:=by omega
     go_wp2_with (refine wpList_store_own1 rfl 9 (.tmp 33) (.tmp 32) rfl HO2.out rfl i (.string x) (off+i) rfl rfl rfl rfl (by kernel_rfl) (by rw [List.length_map,HL.out];omega) rfl ?_)
     intro w3 ho3 hg3
     have hiL:i < L.length:=by rw [HL.out];omega
     have HO3:=Lib.hid (show OwnRow w3 base 9 1 (some ⟨g,off,none⟩) l.length cap ((L.set i x).map Value.string) by rw [List.map_set];exact ho3)
     have HT3:=Lib.hid (show (L.set i x).take (i+1)=(l.take (j+1)).filter fun c=>!p c by
      rw [HF2.out,← HT.out,List.take_succ_eq_append_getElem (by simpa using hiL),List.getElem_set_self,List.take_set_of_le (Nat.le_refl _)])
     have HD3:=Lib.hid (show (L.set i x).drop (j+1)=l.drop (j+1) by rw [List.drop_set_of_lt (by omega)];exact HD1.out)
     have HL3:=Lib.hid (show (L.set i x).length=l.length by rw [List.length_set];exact HL.out)
     clear ho3 HO2 HF2 HT HD1
     go_wp2
     exact ⟨⟨i+1,j+1,L.set i x,by omega,by omega,by go_num,by go_num,HL3,HT3,HD3,HO3,grownBy_trans hg2 hg3⟩,by simp [intOf];omega⟩
    ·have HF2:=Lib.hid (show L.take i=(l.take (j+1)).filter (fun c=>!p c) by rw [HF1.out,hpx,HT.out];simp)
     clear HF1
     go_wp2
     exact ⟨⟨i,j+1,L,by omega,by omega,rfl,by go_num,HL,HF2,HD1,HO2,hg2⟩,by simp [intOf];omega⟩
   ·obtain rfl:j=l.length:=by omega
    have HTf:=Lib.hid (show L.take i=l.filter fun c=>!p c by rw [HT.out];simp)
    have hlen:(l.filter fun c=>!p c).length=i:=by rw [← HTf.out,List.length_take,HL.out];omega
    have HLen:=Lib.hid hlen;clear hlen
    have hic:i≤cap:=by have:=h.le;omega
    have hic' : (i:Int)≤cap:=by omega
    have hil' : (i:Int)≤l.length:=by omega
    have hilt:i < l.length:=by omega
    have hne2:¬ cap=i:=by have:=h.le;omega
    clear HT HD
    obtain ⟨ic,hinfo,hzero⟩:=zero_str
    have HI:=Lib.hid hinfo;clear hinfo
    have HZ:=Lib.hid hzero;clear hzero
    go_wp2_with (refine wpList_clear_own (size:=1) (n:=l.length) (cap:=cap) (base:=base) rfl (.tmp 38) 22 rfl Tryz.underlying22 ic _ HI.out HZ.out rfl zero_str1 (by omega) HO.out rfl i (l.length - i) (cap - i) (by rw [Nat.mul_one];rfl) (by omega) (by omega) ?_)
    intro w3 ys ho3 hg3
    go_wp2
    go_ret
    have hiL:i≤L.length:=by rw [HL.out];omega
    have e:((L.map Value.string).take i++ys).take (i * 1)=(l.filter fun c=>!p c).map Value.string:=by
     rw [Nat.mul_one,List.take_append_of_le_length (by rw [List.length_take,List.length_map];omega),List.take_take,Nat.min_self,← List.map_take,HTf.out]
    refine ⟨by rw [HLen.out];rfl,?_,grownBy_trans hgr hg3⟩
    rw [HLen.out,← e]
    exact ho3.take i (by omega)
theorem line1_c (x:ByteArray) (w:World):Calls Tryz.prog 26 #[.string x] w fun e w'=>e=.returned (.bool x.toList.isEmpty)∧Below w.heap.size w w':=by
 have hb:=Lib.hid (Below.refl w.heap.size w)
 go_enter Tryz.func26,Tryz.ntmps26
 go_wp2
 go_ret
 exact ⟨rfl,hb.out⟩
end Go.Proofs.YtneoeokfffnonaaGreatDoor
