/- The walks of the reference's Told and WhereIs. -/
import Derived.Test.YtneoeokfffnonaaGreatDoorStoW
import Derived.Test.YtneoeokfffnonaaGreatDoorRefW
import Derived.Test.YtneoeokfffnonaaGreatDoorDkC
set_option linter.unusedVariables false
set_option linter.unusedSimpArgs false
namespace Go.Proofs.YtneoeokfffnonaaGreatDoor
open Go.RowKit
theorem RAllP_c (a:Option Addr) (cap:Nat) (ds:List Dd) (n:Nat) (hn:n≤ds.length) (w:World) (hs:SlDd w a cap ds) (hL:LOk ds) :
 Calls Tryz.prog 65 #[.slice a n cap] w fun e w'=>∃ a' cap' at_,e=.returned (.tuple #[.slice a' (pre ds n).length cap',.agg #[.int .i64 0,.int .i64 at_]])∧SlCh w' a' cap' (pre ds n)∧Below w.heap.size w w':=by
 have h0:=take_all ds hL.all n
 have hl:(ds.take n).length=n:=by rw [List.length_take];omega
 have h1:=RAll_c a cap (ds.take n) w (hs.take n) (fun d hd=>by
  have hd':=List.mem_of_mem_take hd
  obtain ⟨i,hi,rfl⟩:=List.getElem_of_mem hd'
  exact (fault_ok (mayDo_zero (pre_succ hL.all i hi).1).1).1) (by have:=hL.len;omega)
 rw [hl] at h1
 refine h1.mono ?_
 rintro e w' ⟨a',cap',rfl,ho,hb⟩
 exact ⟨a',cap',(allF (ds.take n)).2.2,by rw [h0];rfl,ho.slCh,hb⟩
section
variable {w:World} {a:Option Addr} {cap:Nat} {ds:List Dd}
theorem Told_no (n:Int) (hn:n < 0∨(ds.length:Int) < n):Calls Tryz.prog 40 #[.slice a ds.length cap,.int .i64 n] w fun e w'=>e=.returned (.tuple #[.string ⟨#[]⟩,.slice none 0 0,.bool false])∧Below w.heap.size w w':=by
 go_enter Tryz.func40,Tryz.ntmps40
 by_cases h0:n < 0
 ·have h0B:decide (n < 0)=true:=decide_eq_true h0
  go_wp2
  all_goals
   go_ret3
   exact ⟨rfl,Below.refl _ _⟩
 ·have h0B:decide (n < 0)=false:=decide_eq_false h0
  have h1B:decide ((ds.length:Int) < n)=true:=decide_eq_true (by omega)
  go_wp2
  all_goals
   go_ret3
   exact ⟨rfl,Below.refl _ _⟩
theorem pre_gone (hL:LOk ds) (n:Nat) (hn:n≤ds.length):∀ c∈pre ds n,i64ok c.Gone:=fun c hc=>by
 have:=bad1_false ((hL.made n hn).good c hc).b1
 unfold i64ok;omega
set_option maxRecDepth 100000 in
set_option maxHeartbeats 800000 in
theorem Told_c (hs:SlDd w a cap ds) (n:Nat) (hn:n≤ds.length) (hL:LOk ds):Calls Tryz.prog 40 #[.slice a ds.length cap,.int .i64 n] w fun e w'=>∃ a' cap',
 e=.returned (.tuple #[.string (strOfNums (txtL ds n)),.slice a' (bysL ds n).length cap',.bool true])∧OwnRow w' w.heap.size 3 1 a' (bysL ds n).length cap' ((bysL ds n).map (Value.int .i64))∧Below w.heap.size w w':=by
 have hlen:=hL.len
 have hl200:(pre ds n).length≤200:=(hL.made n hn).max
 have HV:=Lib.hid (show (vis n (-1) (pre ds n)).map Ch.By=bysL ds n from by rw [hL.vis_n n hn];rfl)
 have HT:=Lib.hid (hL.txt n hn)
 have HGO:=Lib.hid (pre_gone hL n hn)
 have h0B:decide ((n:Int) < 0)=false:=decide_eq_false (by omega)
 have h1B:decide ((ds.length:Int) < (n:Int))=false:=decide_eq_false (by omega)
 have hn1:(n:Int)≤(ds.length:Int):=by omega
 have hn0:(0:Int)≤(n:Int):=by omega
 have hcap:ds.length≤cap:=hs.1
 have hcn:(n:Int)≤(cap:Int):=by omega
 have HAL:=Lib.hid (RAllP_c a cap ds n hn w hs hL)
 clear hs hL
 generalize pre ds n=l at *
 generalize bysL ds n=bs at *
 obtain ⟨S,hS⟩:∃ S,S=strOfNums (txtL ds n):=⟨_,rfl⟩
 have HTX:=Lib.hid (show strOfNums (textF l)=S from by rw [hS,HT.out])
 rw [← hS]
 clear hS HT
 go_enter Tryz.func40,Tryz.ntmps40
 go_wp2_with fail
 refine (HAL.out).mono ?_
 rintro e w3 ⟨a1,cap1,at_,rfl,hsl,hb3⟩
 have hb4:∀ o,Below w.heap.size w (w3.alloc o):=fun o=>hb3.alloc hb3.size o
 have hs4:∀ o,SlCh (w3.alloc o) a1 cap1 l:=fun o=>hsl.below ((Below.refl w3.heap.size w3).alloc (Nat.le_refl _) o)
 have HB4:=Lib.hid hb4;have HS4:=Lib.hid hs4
 clear hb4 hs4 hb3 hsl HAL h0B h1B hn1 hcn hcap
 go_upto_region 4 with fail
 generalize hw4:w3.alloc _=w4
 have HB:=Lib.hid (show Below w.heap.size w w4 from by rw [← hw4];exact HB4.out _)
 have HS:=Lib.hid (show SlCh w4 a1 cap1 l from by rw [← hw4];exact HS4.out _)
 clear HB4 HS4 hw4
 go_wp2
 go_loopw [9,10] (fun v i wr=>∃ (k:Nat) (a' : Option Addr) (cap' : Nat),k≤l.length∧i=(.int .i64 k)∧v=.slice a' (vis n (-1) (l.take k)).length cap'∧Hid (OwnRow wr w4.heap.size 3 1 a' (vis n (-1) (l.take k)).length cap' (((vis n (-1) (l.take k)).map Ch.By).map (Value.int .i64)))∧Hid (Below w4.heap.size w4 wr)) (fun _ i _=>l.length - (intOf i).toNat)
 case atStart=>exact ⟨0,none,0,Nat.zero_le _,rfl,rfl,Lib.hid (OwnRow.nil _ _ _ _ _),Lib.hid (Below.refl _ _)⟩
 case round=>
  obtain ⟨k,a',cap',hk,rfl,rfl,HOW,HBr⟩:=hrel
  have HSr:=Lib.hid (HS.out.below HBr.out)
  by_cases hlt:k < l.length
  ·have hgk:i64ok l[k].Gone:=HGO.out _ (List.getElem_mem hlt)
   obtain ⟨b1,off1,rfl,hc⟩:=HSr.out.nth hlt
   have HC:=Lib.hid hc
   have Hs:=Lib.hid (vis_snoc n (-1) l k hlt)
   have Hb:=Lib.hid (bys_snoc n (-1) l k hlt)
   have hvl:(vis n (-1) (l.take k)).length≤k:=Nat.le_trans (vis_le ..) (by simp;omega)
   have hk0:(0:Int)≤(k:Int):=by omega
   obtain ⟨q0,q1,q2,q3,q4,q5,q6⟩:=hc
   go_wp2_with fail
   refine (RSees_c l[k] _ _ _ hgk).mono ?_
   rintro e w2 ⟨rfl,hb2⟩
   have HC2:=Lib.hid (HC.out.below hb2 HC.out.lt)
   have HOW2:=Lib.hid (HOW.out.below hb2)
   have HB2:=Lib.hid (HBr.out.trans (hb2.mono HBr.out.size))
   clear q0 q1 q2 q3 q4 q5 q6 hb2 HC HOW HSr HBr
   obtain ⟨q0,q1,q2,q3,q4,q5,q6⟩:=HC2.out
   cases hsee:l[k].sees n (-1)
   ·have Hs2:=Lib.hid (show vis n (-1) (l.take (k+1))=vis n (-1) (l.take k) by rw [Hs.out,hsee];simp)
    clear Hs Hb
    go_wp2
    exact ⟨⟨k+1,a',cap',by omega,by go_num,by rw [Hs2.out],Lib.hid (by rw [Hs2.out];exact HOW2.out),HB2⟩,by simp [intOf];omega⟩
   ·have Hs2:=Lib.hid (show (vis n (-1) (l.take (k+1))).length=(vis n (-1) (l.take k)).length+1 by rw [Hs.out,hsee];simp)
    have Hb2:=Lib.hid (show (vis n (-1) (l.take (k+1))).map Ch.By=(vis n (-1) (l.take k)).map Ch.By++[l[k].By] by rw [Hb.out,hsee];simp)
    clear Hs Hb
    have hz:=HB2.out.size
    go_wp2_with (at_builtin;refine wpList_append_new rfl (.tmp 38) (.tmp 44) 71 rfl w4.heap.size 3 1 8 Tryz.underlying71 ti_int a' _ cap' _ rfl HOW2.out 1 1 [.int .i64 l[k].By] rfl rfl (one1 rfl) (by omega) HB2.out.size ?_)
    intro a3 cap3 w3 hown3 hb3 hz3 hg3
    have Hfin:=Lib.hid (show OwnRow w3 w4.heap.size 3 1 a3 (vis n (-1) (l.take (k+1))).length cap3 (((vis n (-1) (l.take (k+1))).map Ch.By).map (Value.int .i64)) from by
     rw [Hs2.out,Hb2.out,List.map_append,List.map_map];exact hown3)
    have HB3:=Lib.hid (HB2.out.trans hb3)
    clear hown3 HOW2 q0 q1 q2 q3 q4 q5 q6 HC2 hb3 hg3 hz3
    go_wp2
    exact ⟨⟨k+1,a3,cap3,by omega,by go_num,by rw [Hs2.out],Hfin,HB3⟩,by simp [intOf];omega⟩
  ·obtain rfl:k=l.length:=by omega
   have Hs2:=Lib.hid (show l.take l.length=l by simp)
   have HVL:=Lib.hid (show (vis n (-1) l).length=bs.length from by rw [← HV.out];simp)
   go_wp2_with fail
   refine (RTextOf_c a1 cap1 l wr HSr.out HGO.out).mono ?_
   rintro e w5 ⟨rfl,hb5⟩
   have HOW4:=Lib.hid ((HOW.out.below hb5).mono HB.out.size)
   have HB4:=Lib.hid (HB.out.trans ((HBr.out.trans (hb5.mono HBr.out.size)).mono HB.out.size))
   have hown:=HOW4.out
   rw [Hs2.out,HVL.out,HV.out] at hown
   have HOWN:=Lib.hid hown
   rw [Hs2.out]
   clear hb5 HOW HSr HBr HOW4 hown
   go_wp2
   go_ret3
   exact ⟨a',cap',by rw [HVL.out,HTX.out];rfl,HOWN.out,HB4.out⟩
end
end Go.Proofs.YtneoeokfffnonaaGreatDoor
