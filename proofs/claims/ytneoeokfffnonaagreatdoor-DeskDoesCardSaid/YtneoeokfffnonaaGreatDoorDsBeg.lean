/- The first lines; lines that ask for too much. -/
import Derived.Test.YtneoeokfffnonaaGreatDoorRdW
set_option linter.unusedVariables false
set_option linter.unusedSimpArgs false
namespace Go.Proofs.YtneoeokfffnonaaGreatDoor
open Go.RowKit Go
def begunB:List ByteArray:=[⟨#[106,111,105,110,32,48]⟩,⟨#[106,111,105,110,32,49]⟩,⟨#[112,117,116,32,48,32,48,32,97,32,98]⟩,⟨#[112,117,116,32,49,32,48,32,99]⟩,⟨#[115,101,116,116,108,101]⟩,⟨#[116,101,120,116,32,49]⟩,⟨#[116,97,107,101,32,48,32,48,32,49]⟩,⟨#[111,112,101,110,32,48]⟩,⟨#[115,101,110,100,32,48]⟩,⟨#[108,111,103]⟩,⟨#[116,104,101,110,32,51]⟩,⟨#[108,101,97,115,116]⟩,⟨#[120]⟩]
theorem LibK.low {w:World} (h:LibK w):lowB≤w.heap.size:=by
 obtain ⟨h1,⟨t2,p2,h2⟩,⟨t3,p3,h3⟩,⟨m,h4⟩⟩:=h
 have a2:=World.block_lt_of_cell? w _ h2
 have a3:=World.block_lt_of_cell? w _ h3
 have a4:=World.block_lt_of_cell? w _ h4
 have hg:Tryz.prog.globalNamed "internal/strconv.uint64pow10" = some 5:=by kernel_rfl
 have a1:5 < w.heap.size:=by
  unfold Lib.TabIs World.var? at h1
  rw [hg] at h1
  rcases Nat.lt_or_ge 5 w.heap.size with h | h
  ·exact h
  ·exfalso
   simp [Array.getElem?_eq_none h] at h1
 unfold lowB
 simp only at a2 a3 a4
 omega
theorem begun_fault:faultK begunL=(0,0):=of_decide_eq_true (by kernel_rfl)
theorem begun_says:saysK DkM.new begunL=begunT:=by unfold saysK;rw [if_pos (by rw [begun_fault]),begun_told]
theorem begunB_len:∀ x∈begunB,x.size≤9000:=of_decide_eq_true (by kernel_rfl)
set_option maxRecDepth 100000 in
set_option maxHeartbeats 1000000 in
theorem deskBegun_c (w:World) (hk:LibK w):Calls Tryz.prog 4 #[] w fun e w'=>e=.returned (.bool true)∧Below w.heap.size w w':=by
 have HK:=Lib.hid hk
 obtain ⟨S,hS⟩:∃ S:ByteArray,S=⟨begunT.toArray⟩:=⟨_,rfl⟩
 have HS:=Lib.hid hS
 have HD:=Lib.hid (fun (w1:World) (F:Nat→Prop) (g:Nat) (hI:DsI w1 w.heap.size F g DkM.new) (hb1:Below w.heap.size w w1)=>show Calls Tryz.prog 8 #[.pointer (some ⟨g,0,none⟩),.slice (some ⟨w1.heap.size,0,none⟩) 13 13] (w1.alloc (.cells #[.string ⟨#[106,111,105,110,32,48]⟩,.string ⟨#[106,111,105,110,32,49]⟩,.string ⟨#[112,117,116,32,48,32,48,32,97,32,98]⟩,.string ⟨#[112,117,116,32,49,32,48,32,99]⟩,.string ⟨#[115,101,116,116,108,101]⟩,.string ⟨#[116,101,120,116,32,49]⟩,.string ⟨#[116,97,107,101,32,48,32,48,32,49]⟩,.string ⟨#[111,112,101,110,32,48]⟩,.string ⟨#[115,101,110,100,32,48]⟩,.string ⟨#[108,111,103]⟩,.string ⟨#[116,104,101,110,32,51]⟩,.string ⟨#[108,101,97,115,116]⟩,.string ⟨#[120]⟩] 9)) fun e w'=>e=.returned (.tuple #[.string S,.agg #[.int .i64 0,.int .i64 0]])∧Below w.heap.size w w' from by
  have hbo:=(Below.refl w1.heap.size w1).alloc (Nat.le_refl _) (.cells #[.string ⟨#[106,111,105,110,32,48]⟩,.string ⟨#[106,111,105,110,32,49]⟩,.string ⟨#[112,117,116,32,48,32,48,32,97,32,98]⟩,.string ⟨#[112,117,116,32,49,32,48,32,99]⟩,.string ⟨#[115,101,116,116,108,101]⟩,.string ⟨#[116,101,120,116,32,49]⟩,.string ⟨#[116,97,107,101,32,48,32,48,32,49]⟩,.string ⟨#[111,112,101,110,32,48]⟩,.string ⟨#[115,101,110,100,32,48]⟩,.string ⟨#[108,111,103]⟩,.string ⟨#[116,104,101,110,32,51]⟩,.string ⟨#[108,101,97,115,116]⟩,.string ⟨#[120]⟩] 9)
  have hrow:=rowNew w1 begunB _ rfl (by show (13:Nat)≤_;unfold maxLen;omega)
  have hsl:SlO (w1.alloc (.cells #[.string ⟨#[106,111,105,110,32,48]⟩,.string ⟨#[106,111,105,110,32,49]⟩,.string ⟨#[112,117,116,32,48,32,48,32,97,32,98]⟩,.string ⟨#[112,117,116,32,49,32,48,32,99]⟩,.string ⟨#[115,101,116,116,108,101]⟩,.string ⟨#[116,101,120,116,32,49]⟩,.string ⟨#[116,97,107,101,32,48,32,48,32,49]⟩,.string ⟨#[111,112,101,110,32,48]⟩,.string ⟨#[115,101,110,100,32,48]⟩,.string ⟨#[108,111,103]⟩,.string ⟨#[116,104,101,110,32,51]⟩,.string ⟨#[108,101,97,115,116]⟩,.string ⟨#[120]⟩] 9)) (some ⟨w1.heap.size,0,none⟩) 13 begunB:=SlO.ofRow hrow
  have hc:=dsDo_c (hI.later hbo) DkM.new_ok DkM.new_sm (by omega) ((hk.later hb1).later hbo) hk.low (some ⟨w1.heap.size,0,none⟩) 13 begunB
   (fun W hW=>hsl.moves hW (fun ad e _ hF=>by cases e;have:=(hI.foot _ hF).2;simp at this)) begunB_len
  rw [show (begunB.map (fun x:ByteArray=>x.data.toList))=begunL from rfl,begun_fault,begun_says,← hS] at hc
  refine hc.mono ?_
  rintro e w' ⟨he,F',_,hm,_⟩
  exact ⟨he,(hb1.trans (hbo.mono hb1.size)).trans ((hI.later hbo).bel hm)⟩)
 clear hk hS
 go_enter Tryz.func4,Tryz.ntmps4
 go_wp2_with fail
 refine (dsNew_c w).mono ?_
 rintro e w1 ⟨F,g,rfl,hI,hb1⟩
 have HC:=Lib.hid (HD.out w1 F g hI hb1)
 clear hI hb1 HD
 go_wp2_with fail
 refine HC.out.mono ?_
 rintro e w2 ⟨rfl,hb2⟩
 have HB2:=Lib.hid (hb2.trans (((Below.refl w2.heap.size w2).alloc (Nat.le_refl _) (.cells #[.int .i64 0,.int .i64 0] 31)).mono hb2.size))
 clear hb2 HC
 go_wp2
 go_ret
 exact ⟨by rw [HS.out];kernel_rfl,HB2.out⟩
set_option maxRecDepth 100000 in
theorem slow_c (a:Option Addr) (cap:Nat) (l:List ByteArray) (w:World) (hs:SlO w a cap l) (hz:∀ x∈l,x.size≤140737488355328) :
 Calls Tryz.prog 5 #[.slice a l.length cap] w fun e w'=>e=.returned (.bool (slowK 0 (l.map (fun x:ByteArray=>x.data.toList))))∧w'=w:=by
 have hm:l.length≤maxLen:=Nat.le_trans hs.1 hs.2.1
 unfold maxLen at hm
 have HZ:=Lib.hid hz
 obtain ⟨ys,hys⟩:∃ ys,ys=(l.map (fun x:ByteArray=>x.data.toList)):=⟨_,rfl⟩
 have hyl:ys.length=l.length:=by rw [hys,List.length_map]
 have HYS:=Lib.hid hys
 have HYL:=Lib.hid hyl
 rw [← hys]
 clear hz hys hyl
 have HST:=Lib.hid (show slowK 0 (ys.drop 0)=slowK 0 ys from rfl)
 go_enter Tryz.func5,Tryz.ntmps5
 go_wp2
 go_loopw [3,4] (fun s3 s4 wr=>∃ (k:Nat) (n:Nat),k≤l.length∧n≤9000∧s4=(.int .i64 (k:Int))∧s3=(.int .i64 (n:Int))∧wr=w∧Hid (slowK (n:Int) (ys.drop k)=slowK 0 ys)) (fun _ s4 _=>l.length - (intOf s4).toNat)
 case atStart=>exact ⟨0,0,Nat.zero_le _,Nat.zero_le _,rfl,rfl,rfl,HST⟩
 case round=>
  obtain ⟨k,n,hk,hn,rfl,rfl,rfl,HE⟩:=hrel
  rename World=>wr
  clear HST
  by_cases hlt:k < l.length
  ·obtain ⟨b,off,rfl,hc⟩:=hs.nth hlt
   have hlt' : (k:Int) < (l.length:Int):=by omega
   have hk0:(0:Int)≤(k:Int):=by omega
   have HKY:=Lib.hid (show ys.drop k=(l[k]).data.toList :: ys.drop (k+1) from by
    rw [List.drop_eq_getElem_cons (by rw [HYL.out];exact hlt)]
    congr 1
    simp only [HYS.out,List.getElem_map])
   have HXZ:=Lib.hid (HZ.out l[k] (List.getElem_mem hlt))
   generalize l[k]=x at *
   have HEX:=Lib.hid (show slowK 0 ys=if 9000 < (n:Int)+(x.size:Int) then true else slowK ((n:Int)+(x.size:Int)) (ys.drop (k+1)) from by
    rw [← HE.out,HKY.out]
    show (if 9000 < (n:Int)+(x.data.toList.length:Int) then true else slowK ((n:Int)+(x.data.toList.length:Int)) (ys.drop (k+1)))=_
    rw [ba_len])
   have hw1:IntKind.i64.wrap ((n:Int)+(x.size:Int))=(n:Int)+(x.size:Int):=by
    have:=HXZ.out
    rw [IntKind.wrap_i64];omega
   have hw2:IntKind.i64.wrap ((k:Int)+1)=(k:Int)+1:=by rw [IntKind.wrap_i64];omega
   clear HKY HE
   by_cases hbig:9000 < (n:Int)+(x.size:Int)
   ·have HR:=Lib.hid (show slowK 0 ys=true from by rw [HEX.out,if_pos hbig])
    have hbB:decide (9000 < (n:Int)+(x.size:Int))=true:=decide_eq_true hbig
    clear HEX
    go_wp2
    go_ret
    exact ⟨by rw [HR.out];rfl,rfl⟩
   ·have HR:=Lib.hid (show slowK (((n+x.size:Nat):Int)) (ys.drop (k+1))=slowK 0 ys from by rw [HEX.out,if_neg hbig];push_cast;rfl)
    have hbB:decide (9000 < (n:Int)+(x.size:Int))=false:=decide_eq_false hbig
    have hnx:n+x.size≤9000:=by omega
    clear HEX
    go_wp2
    exact ⟨⟨k+1,n+x.size,by omega,hnx,by go_num,by go_num,(by first | rfl | trivial),HR⟩,by simp [intOf];omega⟩
  ·obtain rfl:k=l.length:=by omega
   have hltB:decide ((l.length:Int) < (l.length:Int))=false:=by simp
   have HR:=Lib.hid (show slowK 0 ys=false from by
    rw [← HE.out,List.drop_of_length_le (by rw [HYL.out];exact Nat.le_refl _)];rfl)
   clear HE
   go_wp2
   go_ret
   exact ⟨by rw [HR.out];rfl,rfl⟩
end Go.Proofs.YtneoeokfffnonaaGreatDoor
