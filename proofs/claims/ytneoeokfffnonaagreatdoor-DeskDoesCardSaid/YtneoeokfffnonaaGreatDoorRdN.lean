/- Lines that may not be, by the document; a new desk of the document's. -/
import Derived.Test.YtneoeokfffnonaaGreatDoorRdDo
import Derived.Test.YtneoeokfffnonaaGreatDoorRdW
set_option linter.unusedVariables false
set_option linter.unusedSimpArgs false
namespace Go.Proofs.YtneoeokfffnonaaGreatDoor
open Go.RowKit Go
theorem nl_at (x:ByteArray):(10:UInt8)∈x.data.toList↔∃ k,∃ h:k < x.size,x[k]=10:=by
 constructor
 ·intro h
  obtain ⟨k,hk,e⟩:=List.getElem_of_mem h
  exact ⟨k,by rw [ba_len] at hk;exact hk,e⟩
 ·rintro ⟨k,h,e⟩
  rw [← e]
  exact List.getElem_mem (by rw [ba_len];exact h)
theorem rdNew_c (w:World):Calls Tryz.prog 7 #[] w fun e w'=>∃ F g,e=.returned (.pointer (some ⟨g,0,none⟩))∧RdAt w' w.heap.size F g DkM.new []∧Below w.heap.size w w':=by
 go_enter Tryz.func7,Tryz.ntmps7
 go_wp2_with fail
 refine (NewTown_c w).mono ?_
 rintro e w1 ⟨FD,gd,gw,rfl,hd,hb⟩
 have hbo:=(Below.refl w1.heap.size w1).alloc (Nat.le_refl _) (.cells #[.string ⟨#[]⟩,.pointer (some ⟨gd,0,none⟩)] 48)
 have HR:=Lib.hid (show RdAt (w1.alloc (.cells #[.string ⟨#[]⟩,.pointer (some ⟨gd,0,none⟩)] 48)) w.heap.size (fun k=>k=w1.heap.size∨FD k) w1.heap.size DkM.new [] from by
  refine ⟨.inl rfl,fun k hk=>?_,gd,FD,gw,(by show (w1.heap.push _)[w1.heap.size]? = _;simp),hd.later hbo,fun k hk=>⟨.inr hk,fun e=>?_⟩⟩
  ·rcases hk with rfl | hk
   ·exact ⟨hb.size,by simp⟩
   ·have:=hd.foot k hk
    exact ⟨this.1,by simp;omega⟩
  ·have:=hd.foot k hk;omega)
 have HB:=Lib.hid (hb.trans (hbo.mono hb.size))
 clear hd hb hbo
 go_wp2
 go_ret
 exact ⟨_,_,rfl,HR.out,HB.out⟩
set_option maxRecDepth 100000 in
set_option maxHeartbeats 1000000 in
theorem LinesFault_c (a:Option Addr) (cap:Nat) (xs:List ByteArray) (w:World) (hs:SlO w a cap xs) (hz:∀ x∈xs,x.size≤9000) :
 Calls Tryz.prog 9 #[.slice a xs.length cap] w fun e w'=>e=.returned (.agg #[.int .i64 (faultK (xs.map (fun x:ByteArray=>x.data.toList))).1,.int .i64 (faultK (xs.map (fun x:ByteArray=>x.data.toList))).2])∧Below w.heap.size w w':=by
 have hm:xs.length≤maxLen:=Nat.le_trans hs.1 hs.2.1
 unfold maxLen at hm
 have hb0:=(Below.refl w.heap.size w).alloc (Nat.le_refl _) (.cells #[.int .i64 0,.int .i64 0] 31)
 have hs0:=hs.below hb0
 have f0:(w.alloc (.cells #[.int .i64 0,.int .i64 0] 31)).cell? ⟨w.heap.size,0,none⟩=some (.int .i64 0):=by simp
 have f1:(w.alloc (.cells #[.int .i64 0,.int .i64 0] 31)).cell? ⟨w.heap.size,1,none⟩=some (.int .i64 0):=by simp
 have z0:(w.alloc (.cells #[.int .i64 0,.int .i64 0] 31)).frozen? ⟨w.heap.size,0,none⟩=false:=by simp
 have z1:(w.alloc (.cells #[.int .i64 0,.int .i64 0] 31)).frozen? ⟨w.heap.size,1,none⟩=false:=by simp
 have HXN:=Lib.hid (show w.heap.size < (w.alloc (.cells #[.int .i64 0,.int .i64 0] 31)).heap.size from by simp)
 obtain ⟨Z,hZ⟩:∃ Z,Z=w.heap.size:=⟨_,rfl⟩
 have HZQ:=Lib.hid hZ
 have HFIN:=Lib.hid (fun (w1:World) (hb:Below (w.alloc (.cells #[.int .i64 0,.int .i64 0] 31)).heap.size (w.alloc (.cells #[.int .i64 0,.int .i64 0] 31)) w1) (v v2:Value)=>show Below Z w ((w1.setCell ⟨w.heap.size,0,none⟩ v).setCell ⟨w.heap.size,1,none⟩ v2) from
  hZ ▸ ((hb0.trans (hb.mono hb0.size)).setCell (p:=⟨w.heap.size,0,none⟩) (Nat.le_refl _) v).setCell (p:=⟨w.heap.size,1,none⟩) (Nat.le_refl _) v2)
 have HZ:=Lib.hid hz
 obtain ⟨ys,hys⟩:∃ ys,ys=(xs.map (fun x:ByteArray=>x.data.toList)):=⟨_,rfl⟩
 have hyl:ys.length=xs.length:=by rw [hys,List.length_map]
 have HYS:=Lib.hid hys
 have HYL:=Lib.hid hyl
 rw [← hys]
 clear hs hz hb0 hys hyl hZ
 go_enter Tryz.func9,Tryz.ntmps9
 go_upto_region 1 with fail
 generalize hw0:w.alloc _=w0
 have hw0' : w.alloc (.cells #[.int .i64 0,.int .i64 0] 31)=w0:=hw0
 rw [hw0'] at hs0 HFIN f0 f1 z0 z1 HXN
 clear hw0 hw0'
 generalize w.heap.size=X at f0 f1 z0 z1 HXN HFIN ⊢
 have HKEEP:=Lib.hid (fun (w1:World) (hb:Below w0.heap.size w0 w1)=>show w1.cell? ⟨X,0,none⟩=some (.int .i64 0)∧w1.cell? ⟨X,1,none⟩=some (.int .i64 0)∧w1.frozen? ⟨X,0,none⟩=false∧w1.frozen? ⟨X,1,none⟩=false from
  ⟨(hb.cell (p:=⟨X,0,none⟩) HXN.out).trans f0,(hb.cell (p:=⟨X,1,none⟩) HXN.out).trans f1,(hb.frozen (p:=⟨X,0,none⟩) HXN.out).trans z0,(hb.frozen (p:=⟨X,1,none⟩) HXN.out).trans z1⟩)
 by_cases hbig:150 < xs.length
 ·have HR:=Lib.hid (show faultK ys=(10,-1) from by unfold faultK;rw [if_pos (by rw [HYL.out];exact hbig)])
  have hbB:decide ((150:Int) < (xs.length:Int))=true:=decide_eq_true (by omega)
  go_wp2_with fail
  refine (RF_c 10 (-1) w0).mono ?_
  rintro e w1 ⟨rfl,hb1⟩
  obtain ⟨y0,y1,y2,y3⟩:=HKEEP.out w1 hb1
  have HQ:=Lib.hid (HFIN.out w1 hb1)
  clear hb1 f0 f1 z0 z1
  go_wp2
  refine bodyPost_ret (v:=.agg #[.int .i64 10,.int .i64 (-1)]) (by simp [results,Tryz.results9,go_sem,y0,y1]) rfl ?_
  exact ⟨by rw [HR.out],by rw [← HZQ.out];exact HQ.out _ _⟩
 ·have hbB:decide ((150:Int) < (xs.length:Int))=false:=decide_eq_false (by omega)
  have HST:=Lib.hid (show badAt (ys.drop 0) 0=badAt ys 0 from rfl)
  go_wp2
  go_loopw [3] (fun s3 wr=>∃ i:Nat,i≤xs.length∧s3=(.int .i64 (i:Int))∧wr=w0∧Hid (badAt (ys.drop i) i=badAt ys 0)) (fun s3 _=>xs.length - (intOf s3).toNat)
  case atStart=>exact ⟨0,Nat.zero_le _,rfl,rfl,HST⟩
  case round=>
   obtain ⟨i,hi,rfl,rfl,HBD⟩:=hrel
   rename World=>wr
   clear HST
   by_cases hlt:i < xs.length
   ·obtain ⟨b,off,rfl,hc⟩:=hs0.nth hlt
    have hlt' : (i:Int) < (xs.length:Int):=by omega
    have hi0:(0:Int)≤(i:Int):=by omega
    have hwi:IntKind.i64.wrap ((i:Int)+1)=(i:Int)+1:=by rw [IntKind.wrap_i64];omega
    have HKY:=Lib.hid (show ys.drop i=(xs[i]).data.toList :: ys.drop (i+1) from by
     rw [List.drop_eq_getElem_cons (by rw [HYL.out];exact hlt)]
     congr 1
     simp only [HYS.out,List.getElem_map])
    have HXZ:=Lib.hid (HZ.out xs[i] (List.getElem_mem hlt))
    generalize xs[i]=x at *
    have HBY:=Lib.hid (show badAt ys 0=if (10:UInt8)∈x.data.toList then some i else badAt (ys.drop (i+1)) (i+1) from by
     rw [← HBD.out,HKY.out];rfl)
    have HNO:=Lib.hid (show ∀ j,j < 0→∀ h:j < x.size,x[j]≠10 from fun j hj=>by omega)
    clear HKY HBD
    go_wp2
    go_loopw [4] (fun s4 wq=>∃ k:Nat,k≤x.size∧s4=(.int .i64 (k:Int))∧wq=wr∧Hid (∀ j,j < k→∀ h:j < x.size,x[j]≠10)) (fun s4 _=>x.size - (intOf s4).toNat)
    case atStart=>exact ⟨0,Nat.zero_le _,rfl,rfl,HNO⟩
    case round=>
     obtain ⟨k,hk,rfl,rfl,HN⟩:=hrel
     rename World=>wq
     clear HNO
     by_cases hkl:k < x.size
     ·have hkl' : (k:Int) < (x.size:Int):=by omega
      have hk0:(0:Int)≤(k:Int):=by omega
      have hwk:IntKind.i64.wrap ((k:Int)+1)=(k:Int)+1:=by have:=HXZ.out;rw [IntKind.wrap_i64];omega
      by_cases h10:x[k]=10
      ·have h10i:(x[k].toNat:Int)=10:=by rw [h10];rfl
       have h10B:decide ((x[k].toNat:Int)=10)=true:=decide_eq_true h10i
       have HR:=Lib.hid (show faultK ys=(11,(i:Int)) from by
        unfold faultK
        rw [if_neg (by rw [HYL.out];omega),HBY.out,if_pos ((nl_at x).2 ⟨k,hkl,h10⟩)])
       clear h10
       go_wp2_with fail
       refine (RF_c 11 (i:Int) _).mono ?_
       rintro e w1 ⟨rfl,hb1⟩
       obtain ⟨y0,y1,y2,y3⟩:=HKEEP.out w1 hb1
       have HQ:=Lib.hid (HFIN.out w1 hb1)
       clear hb1 f0 f1 z0 z1
       go_wp2
       refine bodyPost_ret (v:=.agg #[.int .i64 11,.int .i64 (i:Int)]) (by simp [results,Tryz.results9,go_sem,y0,y1]) rfl ?_
       exact ⟨by rw [HR.out],by rw [← HZQ.out];exact HQ.out _ _⟩
      ·have h10i:¬ ((x[k].toNat:Int)=10):=fun e=>h10 (by
        have:x[k].toNat=10:=by omega
        exact UInt8.toNat_inj.1 this)
       have h10B:decide ((x[k].toNat:Int)=10)=false:=decide_eq_false h10i
       have HN2:=Lib.hid (show ∀ j,j < k+1→∀ h:j < x.size,x[j]≠10 from fun j hj h=>by
        by_cases e:j=k
        ·subst e;exact h10
        ·exact HN.out j (by omega) h)
       clear h10
       go_wp2
       exact ⟨⟨k+1,by omega,by go_num,(by first | rfl | trivial),HN2⟩,by simp [intOf];omega⟩
     ·obtain rfl:k=x.size:=by omega
      have hkB:decide ((x.size:Int) < (x.size:Int))=false:=by simp
      have HBN:=Lib.hid (show badAt (ys.drop (i+1)) (i+1)=badAt ys 0 from by
       rw [HBY.out,if_neg]
       intro h
       obtain ⟨j,hj,e⟩:=(nl_at x).1 h
       exact HN.out j hj hj e)
      clear HN HBY
      go_wp2
      exact ⟨⟨i+1,by omega,by go_num,(by first | rfl | trivial),HBN⟩,by simp [intOf];omega⟩
   ·obtain rfl:i=xs.length:=by omega
    have hltB:decide ((xs.length:Int) < (xs.length:Int))=false:=by simp
    have HR:=Lib.hid (show faultK ys=(0,0) from by
     unfold faultK
     rw [if_neg (by rw [HYL.out];omega),← HBD.out,List.drop_of_length_le (by rw [HYL.out];exact Nat.le_refl _)];rfl)
    have HQ:=Lib.hid (HFIN.out wr (Below.refl _ _))
    go_wp2
    refine bodyPost_ret (v:=.agg #[.int .i64 0,.int .i64 0]) (by simp [results,Tryz.results9,go_sem,f0,f1]) rfl ?_
    exact ⟨by rw [HR.out],by rw [← HZQ.out];exact HQ.out _ _⟩
end Go.Proofs.YtneoeokfffnonaaGreatDoor
