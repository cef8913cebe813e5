/- Merged: Types CharsW CheckW ClearW. -/
import Derived.Test.YtneoeokfffnonaaGreatDoorProg
import Derived.Test.YtneoeokfffnonaaGreatDoorMixX
import Derived.Shelf.Abstract
import Derived.Deep.DeepCutAuto
import Derived.WalkSpells
set_option linter.unusedVariables false
set_option linter.unusedSimpArgs false
namespace Go.Proofs.YtneoeokfffnonaaGreatDoor
theorem ti_u8:TInfo Tryz.prog 5 1 1:=.mk (z:=.int .u8 0) (by kernel_rfl) rfl (by decide)
theorem ti_int:TInfo Tryz.prog 3 1 8:=.mk (z:=.int .i64 0) (by kernel_rfl) rfl (by decide)
theorem ti_Char:TInfo Tryz.prog 125 7 56:=.mk (z:=.agg #[.int .u8 0,.int .i64 0,.int .i64 0,.int .i64 0,.int .i64 0,.int .i64 0,.int .i64 0]) (by kernel_rfl) rfl (by decide)
theorem ti_Deed:TInfo Tryz.prog 122 7 64:=.mk (z:=.agg #[.int .i64 0,.int .i64 0,.int .i64 0,.int .i64 0,.int .i64 0,.int .i64 0,.string ⟨#[]⟩]) (by kernel_rfl) rfl (by decide)
end Go.Proofs.YtneoeokfffnonaaGreatDoor
namespace Go.Proofs.YtneoeokfffnonaaGreatDoor
open Go.RowKit
theorem Writer_c (x:Int) (w:World) :
 Calls Tryz.prog 125 #[.int .i64 x] w fun e w'=>e=.returned (.bool (isWriter x))∧w'=w:=by
 go_enter Tryz.func125,Tryz.ntmps125
 by_cases h1:0≤x <;> by_cases h2:x < 4
 all_goals (go_wp2;go_ret;exact ⟨by simp [isWriter,h1,h2],rfl⟩)
theorem bit_c (x:Int) (w:World) :
 Calls Tryz.prog 187 #[.int .i64 x] w fun e w'=>e=.returned (.int .i64 (bitOf x))∧w'=w:=by
 go_enter Tryz.func187,Tryz.ntmps187
 by_cases h1:0≤x∧x < 4
 ·have h:x=0∨x=1∨x=2∨x=3:=by omega
  have h3:isWriter x=true:=by simp [isWriter];omega
  rcases h with rfl | rfl | rfl | rfl
  all_goals
   go_wp2_with (go_at_call 125;refine (Writer_c _ _).mono ?_;rintro e w' ⟨rfl,rfl⟩)
   go_ret
   exact ⟨rfl,rfl⟩
 ·have h2:bitOf x=0:=by unfold bitOf;repeat (rw [if_neg (by omega)])
  have h3:isWriter x=false:=by simp [isWriter];omega
  have H2:=Lib.hid h2;clear h2
  go_wp2_with (go_at_call 125;refine (Writer_c _ _).mono ?_;rintro e w' ⟨rfl,rfl⟩)
  go_ret
  exact ⟨by rw [H2.out];rfl,rfl⟩
theorem In_c (c:Ch) (seen by_:Int) (w:World) :
 Calls Tryz.prog 170 #[.agg #[.int .u8 c.C,.int .i64 c.By,.int .i64 c.No,.int .i64 c.K,.int .i64 c.In,.int .i64 c.Out,.int .i64 c.Gone],.int .i64 seen,.int .i64 by_] w fun e w'=>e=.returned (.bool (c.knowsIn seen by_))∧Below w.heap.size w w':=by
 go_enter Tryz.func170,Tryz.ntmps170
 by_cases h1:c.In≤seen <;> by_cases h2:c.By=by_
 all_goals (go_wp2;go_ret;exact ⟨by simp [Ch.knowsIn,h1,h2],(Below.refl _ _).alloc (Nat.le_refl _) _⟩)
theorem Out_c (c:Ch) (seen by_:Int) (w:World) :
 Calls Tryz.prog 171 #[.agg #[.int .u8 c.C,.int .i64 c.By,.int .i64 c.No,.int .i64 c.K,.int .i64 c.In,.int .i64 c.Out,.int .i64 c.Gone],.int .i64 seen,.int .i64 by_] w fun e w'=>e=.returned (.bool (c.knowsOut seen by_))∧Below w.heap.size w w':=by
 go_enter Tryz.func171,Tryz.ntmps171
 have Hend:=Lib.hid (fun o n=>bl_drewN ((Below.refl w.heap.size w).alloc (Nat.le_refl _) o) n)
 by_cases h1:0 < c.Out
 ·by_cases h2:c.Out≤seen
  ·have Hf:=Lib.hid (show c.knowsOut seen by_=true by simp [Ch.knowsOut,h1,h2])
   go_wp2
   go_quiet (fail)
   go_wp2
   go_ret
   exact ⟨by rw [Hf.out];rfl,Hend.out _ _⟩
  ·have Hf:=Lib.hid (show c.knowsOut seen by_=(bits .and .i64 c.Gone (bitOf by_) !=0) by simp [Ch.knowsOut,h2])
   have h3:decide (c.Out≤seen)=false:=by simpa using h2
   go_wp2
   go_quiet ((go_at_call 187;exact Calls.quiet_of_same (bit_c _ _)))
   go_wp2
   go_ret
   exact ⟨by rw [Hf.out];rfl,Hend.out _ _⟩
 ·have Hf:=Lib.hid (show c.knowsOut seen by_=(bits .and .i64 c.Gone (bitOf by_) !=0) by simp [Ch.knowsOut,h1])
  have h3:decide (0 < c.Out)=false:=by simpa using h1
  go_wp2
  go_quiet ((go_at_call 187;exact Calls.quiet_of_same (bit_c _ _)))
  go_wp2
  go_ret
  exact ⟨by rw [Hf.out];rfl,Hend.out _ _⟩
theorem Sees_c (c:Ch) (seen by_:Int) (w:World) :
 Calls Tryz.prog 139 #[.agg #[.int .u8 c.C,.int .i64 c.By,.int .i64 c.No,.int .i64 c.K,.int .i64 c.In,.int .i64 c.Out,.int .i64 c.Gone],.int .i64 seen,.int .i64 by_] w fun e w'=>e=.returned (.bool (c.sees seen by_))∧Below w.heap.size w w':=by
 go_enter Tryz.func139,Tryz.ntmps139
 have Hf:=Lib.hid (show c.sees seen by_=(c.knowsIn seen by_&&!c.knowsOut seen by_) from rfl)
 cases h1:c.knowsIn seen by_
 ·go_wp2_with (go_at_call 170;refine (In_c c _ _ _).mono ?_;rintro e w1 ⟨rfl,hb1⟩)
  go_ret
  exact ⟨by rw [Hf.out,h1];rfl,((Below.refl _ _).alloc (Nat.le_refl _) _).trans (hb1.mono (by simp))⟩
 ·go_wp2_with fail
  refine (In_c c _ _ _).mono ?_
  rintro e w1 ⟨rfl,hb1⟩
  obtain ⟨hc1,hf1⟩:=bcell hb1
  go_wp2_with fail
  refine (Out_c c _ _ _).mono ?_
  rintro e w2 ⟨rfl,hb2⟩
  go_wp2
  go_ret
  exact ⟨by rw [Hf.out,h1];rfl,(((Below.refl _ _).alloc (Nat.le_refl _) _).trans (hb1.mono (by simp))).trans (hb2.mono (by have:=hb1.size;simp at this;omega))⟩
theorem View_c (a:Option Addr) (cap:Nat) (l:List Ch) (seen by_:Int) (w:World) (hs:SlCh w a cap l) (hsz:l.length≤140737488355328) :
 Calls Tryz.prog 135 #[.slice a l.length cap,.int .i64 seen,.int .i64 by_] w fun e w'=>∃ a' cap',e=.returned (.slice a' (vis seen by_ l).length cap')∧
  OwnRow w' w.heap.size 5 1 a' (vis seen by_ l).length cap' (viewV seen by_ l)∧Below w.heap.size w w':=by
 have hm:l.length≤maxLen:=Nat.le_trans hs.1 hs.2.1
 unfold maxLen at hm
 obtain ⟨N,hN⟩:∃ N,N=l.length:=⟨_,rfl⟩
 go_enter Tryz.func135,Tryz.ntmps135
 go_wp2
 go_loopw [7,12] (fun v i wr=>∃ (k:Nat) (a' : Option Addr) (cap' : Nat),k≤l.length∧i=.int .i64 k∧v=.slice a' (vis seen by_ (l.take k)).length cap'∧OwnRow wr w.heap.size 5 1 a' (vis seen by_ (l.take k)).length cap' (viewV seen by_ (l.take k))∧Below w.heap.size w wr) (fun _ i _=>l.length - (intOf i).toNat)
 case atStart=>exact ⟨0,none,0,Nat.zero_le _,rfl,rfl,OwnRow.nil _ _ _ _ _,Below.refl _ _⟩
 case round=>
  obtain ⟨k,a',cap',hk,rfl,rfl,hown,hb⟩:=hrel
  by_cases hlt:k < l.length
  ·obtain ⟨b,off,rfl,hc⟩:=hs.nth hlt
   obtain ⟨q0,q1,q2,q3,q4,q5,q6⟩:=hc.below hb hc.lt
   have Hs:=Lib.hid (vis_snoc seen by_ l k hlt)
   have hvl:(vis seen by_ (l.take k)).length≤k:=Nat.le_trans (vis_le ..) (by simp;omega)
   go_wp2_with fail
   refine (Sees_c l[k] _ _ _).mono ?_
   rintro e w2 ⟨rfl,hb2⟩
   obtain ⟨hc2,hf2⟩:=bcell hb2
   have hz2:=hb2.size
   simp at hz2
   have hown2:=(hown.alloc _).below hb2
   have hbx:Below w.heap.size w w2:=(hb.alloc hb.size _).trans (hb2.mono (by have:=hb.size;simp;omega))
   cases hsee:l[k].sees seen by_
   ·have Hs2:=Lib.hid (show vis seen by_ (l.take (k+1))=vis seen by_ (l.take k) by rw [Hs.out,hsee];simp)
    clear Hs
    go_wp2
    go_roundw
    case rel=>exact ⟨k+1,a',cap',by omega,by go_num,by rw [Hs2.out],by unfold viewV viewN;rw [Hs2.out];exact hown2,hbx⟩
    case measure=>simp [intOf];omega
   ·have Hs2:=Lib.hid (show vis seen by_ (l.take (k+1))=vis seen by_ (l.take k)++[l[k]] by rw [Hs.out,hsee];simp)
    clear Hs
    go_wp2_with (at_builtin;refine wpList_append_new rfl (.tmp 20) (.tmp 23) 40 rfl w.heap.size 5 1 1 Tryz.underlying40 ti_u8 a' _ cap' _ rfl hown2 1 1 [.int .u8 l[k].C] rfl rfl (one1 rfl) (by omega) hbx.size ?_)
    intro a3 cap3 w3 hown3 hb3 hz3 hg3
    have hfin:OwnRow w3 w.heap.size 5 1 a3 (vis seen by_ (l.take (k+1))).length cap3 (viewV seen by_ (l.take (k+1))):=by
     unfold viewV viewN at *;rw [Hs2.out];simpa using hown3
    have Hfin:=Lib.hid hfin;clear hfin
    go_wp2
    refine ⟨⟨k+1,a3,cap3,by omega,by go_num,by rw [Hs2.out];simp,Hfin.out,hbx.trans hb3⟩,by simp [intOf];omega⟩
  ·obtain rfl:k=l.length:=by omega
   have Hs2:=Lib.hid (show l.take l.length=l by simp)
   go_wp2
   go_ret
   exact ⟨a',cap',by rw [Hs2.out];rfl,by rw [Hs2.out] at hown;exact hown,hb⟩
theorem Behind_neg (a:Option Addr) (cap:Nat) (l:List Ch) (seen by_ n:Int) (w:World) (hs:SlCh w a cap l) (hsz:l.length≤140737488355328) (hn:n < 0) (hn2 : -9223372036854775808≤n) :
 Calls Tryz.prog 186 #[.slice a l.length cap,.int .i64 seen,.int .i64 by_,.int .i64 n] w fun e w'=>e=.returned (.int .i64 (behind seen by_ l n))∧Below w.heap.size w w':=by
 have hm:l.length≤maxLen:=Nat.le_trans hs.1 hs.2.1
 unfold maxLen at hm
 have hz:(n==0)=false:=by simp;omega
 have Hf:=Lib.hid (show behind seen by_ l n=-1 by unfold behind;rw [if_neg (by omega)];exact behindFrom_neg _ _ _ _ _ (by omega))
 go_enter Tryz.func186,Tryz.ntmps186
 go_wp2
 go_loopw [3,15] (fun m i wr=>∃ (k:Nat) (M:Int),k≤l.length∧i=.int .i64 k∧m=.int .i64 M∧(M < 0∨9223372036854775808≤M+k)∧-9223372036854775808≤M∧M < 9223372036854775808∧Below w.heap.size w wr) (fun _ i _=>l.length - (intOf i).toNat)
 case atStart=>exact ⟨0,n,Nat.zero_le _,rfl,rfl,.inl hn,hn2,by omega,Below.refl _ _⟩
 case round=>
  obtain ⟨k,M,hk,rfl,rfl,hM,hM1,hM2,hb⟩:=hrel
  by_cases hlt:k < l.length
  ·obtain ⟨b,off,rfl,hc⟩:=hs.nth hlt
   obtain ⟨q0,q1,q2,q3,q4,q5,q6⟩:=hc.below hb hc.lt
   go_wp2_with fail
   refine (Sees_c l[k] _ _ _).mono ?_
   rintro e w2 ⟨rfl,hb2⟩
   obtain ⟨hc2,hf2⟩:=bcell hb2
   have hz2:=hb2.size
   simp at hz2
   have hbx:Below w.heap.size w w2:=(hb.alloc hb.size _).trans (hb2.mono (by have:=hb.size;simp;omega))
   cases hsee:l[k].sees seen by_
   ·go_wp2
    refine ⟨⟨k+1,M,by omega,by go_num,rfl,by omega,hM1,hM2,hbx⟩,by simp [intOf];omega⟩
   ·have hX:(wrap64 (M - 1) < 0∨9223372036854775808≤wrap64 (M - 1)+(k+1:Nat))∧-9223372036854775808≤wrap64 (M - 1)∧wrap64 (M - 1) < 9223372036854775808:=by
     unfold wrap64;omega
    have hX0:(wrap64 (M - 1)==0)=false:=by simp;omega
    have HX:=Lib.hid hX;clear hX
    go_wp2
    exact ⟨⟨k+1,_,by omega,by go_num,rfl,HX.out.1,HX.out.2.1,HX.out.2.2,hbx⟩,by simp [intOf];omega⟩
  ·obtain rfl:k=l.length:=by omega
   go_wp2
   go_ret
   exact ⟨by rw [Hf.out];rfl,hb⟩
theorem Behind_pos (a:Option Addr) (cap:Nat) (l:List Ch) (seen by_ n:Int) (w:World) (hs:SlCh w a cap l) (hsz:l.length≤140737488355328) (hn:0≤n) (hn2:n < 9223372036854775808) :
 Calls Tryz.prog 186 #[.slice a l.length cap,.int .i64 seen,.int .i64 by_,.int .i64 n] w fun e w'=>e=.returned (.int .i64 (behind seen by_ l n))∧Below w.heap.size w w':=by
 have hm:l.length≤maxLen:=Nat.le_trans hs.1 hs.2.1
 unfold maxLen at hm
 rcases Int.lt_or_eq_of_le hn with hp | rfl
 case inr=>
  go_enter Tryz.func186,Tryz.ntmps186
  go_wp2
  go_ret
  exact ⟨rfl,Below.refl _ _⟩
 have hz:(n==0)=false:=by simp;omega
 have Hf:=Lib.hid (show behind seen by_ l n=behindFrom seen by_ l n 0 by unfold behind;rw [if_neg (by omega)])
 go_enter Tryz.func186,Tryz.ntmps186
 go_wp2
 go_loopw [3,15] (fun m i wr=>∃ (k:Nat) (M:Int),k≤l.length∧i=.int .i64 k∧m=.int .i64 M∧0 < M∧M≤n∧Hid (behindFrom seen by_ (l.drop k) M k=behindFrom seen by_ l n 0)∧Below w.heap.size w wr) (fun _ i _=>l.length - (intOf i).toNat)
 case atStart=>exact ⟨0,n,Nat.zero_le _,rfl,rfl,hp,by omega,Lib.hid (by simp),Below.refl _ _⟩
 case round=>
  obtain ⟨k,M,hk,rfl,rfl,hM,hM1,HE,hb⟩:=hrel
  by_cases hlt:k < l.length
  ·obtain ⟨b,off,rfl,hc⟩:=hs.nth hlt
   obtain ⟨q0,q1,q2,q3,q4,q5,q6⟩:=hc.below hb hc.lt
   have HD:=Lib.hid (show behindFrom seen by_ (l.drop k) M k=if l[k].sees seen by_ then (if M=1 then (k:Int)+1 else behindFrom seen by_ (l.drop (k+1)) (M - 1) (k+1)) else behindFrom seen by_ (l.drop (k+1)) M (k+1) by
    rw [List.drop_eq_getElem_cons hlt];rfl)
   go_wp2_with fail
   refine (Sees_c l[k] _ _ _).mono ?_
   rintro e w2 ⟨rfl,hb2⟩
   obtain ⟨hc2,hf2⟩:=bcell hb2
   have hz2:=hb2.size
   simp at hz2
   have hbx:Below w.heap.size w w2:=(hb.alloc hb.size _).trans (hb2.mono (by have:=hb.size;simp;omega))
   cases hsee:l[k].sees seen by_
   ·have HD2:=Lib.hid (show behindFrom seen by_ (l.drop (k+1)) M ((k+1:Nat):Int)=behindFrom seen by_ l n 0 by rw [← HE.out,HD.out,hsee];simp)
    clear HD HE
    go_wp2
    exact ⟨⟨k+1,M,by omega,by go_num,rfl,by omega,hM1,HD2,hbx⟩,by simp [intOf];omega⟩
   ·by_cases h1:M=1
    ·have HD2:=Lib.hid (show behindFrom seen by_ l n 0=(k:Int)+1 by rw [← HE.out,HD.out,hsee,if_pos rfl,if_pos h1])
     clear HD HE
     subst h1
     go_wp2
     go_ret
     exact ⟨by rw [Hf.out,HD2.out];rfl,hbx⟩
    ·have HD2:=Lib.hid (show behindFrom seen by_ (l.drop (k+1)) (M - 1) ((k+1:Nat):Int)=behindFrom seen by_ l n 0 by rw [← HE.out,HD.out,hsee,if_pos rfl,if_neg h1];simp)
     clear HD HE
     have h2:(M - 1==0)=false:=by simp;omega
     go_wp2
     exact ⟨⟨k+1,M - 1,by omega,by go_num,rfl,by omega,by omega,HD2,hbx⟩,by simp [intOf];omega⟩
  ·obtain rfl:k=l.length:=by omega
   have HD2:=Lib.hid (show behindFrom seen by_ l n 0=-1 by rw [← HE.out];simp [behindFrom])
   clear HE
   go_wp2
   go_ret
   exact ⟨by rw [Hf.out,HD2.out];rfl,hb⟩
theorem Behind_c (a:Option Addr) (cap:Nat) (l:List Ch) (seen by_ n:Int) (w:World) (hs:SlCh w a cap l) (hsz:l.length≤140737488355328) (hn : -9223372036854775808≤n) (hn2:n < 9223372036854775808) :
 Calls Tryz.prog 186 #[.slice a l.length cap,.int .i64 seen,.int .i64 by_,.int .i64 n] w fun e w'=>e=.returned (.int .i64 (behind seen by_ l n))∧Below w.heap.size w w':=by
 rcases Int.lt_or_le n 0 with h | h
 ·exact Behind_neg a cap l seen by_ n w hs hsz h hn
 ·exact Behind_pos a cap l seen by_ n w hs hsz h hn2
theorem Same_c (x y:Ch) (w:World) :
 Calls Tryz.prog 182 #[.agg #[.int .u8 x.C,.int .i64 x.By,.int .i64 x.No,.int .i64 x.K,.int .i64 x.In,.int .i64 x.Out,.int .i64 x.Gone],.agg #[.int .u8 y.C,.int .i64 y.By,.int .i64 y.No,.int .i64 y.K,.int .i64 y.In,.int .i64 y.Out,.int .i64 y.Gone]] w fun e w'=>e=.returned (.bool (x.same y))∧Below w.heap.size w w':=by
 have Hf:=Lib.hid (show x.same y=(x.By==y.By&&x.No==y.No&&x.K==y.K) from rfl)
 have Hend:=Lib.hid (fun (o o' : Obj)=>((Below.refl w.heap.size w).alloc (Nat.le_refl _) o).alloc (by simp) o')
 go_enter Tryz.func182,Tryz.ntmps182
 cases h1:x.By==y.By <;> cases h2:x.No==y.No
 all_goals
  go_wp2
  go_ret
  exact ⟨by rw [Hf.out];simp [h1,h2],Hend.out _ _⟩
theorem Count_c (a:Option Addr) (cap:Nat) (l:List Ch) (seen by_:Int) (w:World) (hs:SlCh w a cap l) (hsz:l.length≤140737488355328) :
 Calls Tryz.prog 183 #[.slice a l.length cap,.int .i64 seen,.int .i64 by_] w fun e w'=>e=.returned (.int .i64 ((vis seen by_ l).length:Nat))∧Below w.heap.size w w':=by
 have hm:l.length≤maxLen:=Nat.le_trans hs.1 hs.2.1
 unfold maxLen at hm
 have hv:=vis_le seen by_ l
 go_enter Tryz.func183,Tryz.ntmps183
 go_wp2_with fail
 refine (View_c a cap l _ _ _ hs hsz).mono ?_
 rintro e w1 ⟨a1,cap1,rfl,_,hb1⟩
 go_wp2
 go_ret
 exact ⟨rfl,hb1⟩
def PredCall (P:Program) (g:FuncId) (fst caps:Array Value) (p:Ch→Bool) (w0:World):Prop:=
 ∀ (c:Ch) (W:World),Below w0.heap.size w0 W→Calls P g (fst.push (.agg #[.int .u8 c.C,.int .i64 c.By,.int .i64 c.No,.int .i64 c.K,.int .i64 c.In,.int .i64 c.Out,.int .i64 c.Gone])++caps) W fun e W'=>e=.returned (.bool (p c))∧Below W.heap.size W W'
def idxFrom (p:Ch→Bool):List Ch→Int→Int
 | [],_=>-1
 | x :: l,i=>if p x then i else idxFrom p l (i+1)
theorem IndexFunc_c (a:Option Addr) (cap:Nat) (l:List Ch) (g:FuncId) (fst caps:Array Value) (p:Ch→Bool) (w:World) (hs:SlCh w a cap l) (hp:PredCall Tryz.prog g fst caps p w) (heg:∀ (args:Array Value) (W:World),Sem.run Tryz.prog (callFunc g args) W=.ok (.enter g args) W) :
 Calls Tryz.prog 180 #[.slice a l.length cap,.func (.func g) fst caps] w fun e w'=>e=.returned (.int .i64 (idxFrom p l 0))∧Below w.heap.size w w':=by
 have hm:l.length≤maxLen:=Nat.le_trans hs.1 hs.2.1
 unfold maxLen at hm
 go_enter Tryz.func180,Tryz.ntmps180
 go_wp2
 go_loopw [8] (fun i wr=>∃ k:Nat,k≤l.length∧i=.int .i64 k∧Below w.heap.size w wr∧Hid (idxFrom p (l.drop k) k=idxFrom p l 0)) (fun i _=>l.length - (intOf i).toNat)
 case atStart=>exact ⟨0,Nat.zero_le _,rfl,Below.refl _ _,Lib.hid (by simp)⟩
 case round=>
  obtain ⟨k,hk,rfl,hb,HE⟩:=hrel
  by_cases hlt:k < l.length
  ·obtain ⟨b,off,rfl,hc⟩:=hs.nth hlt
   obtain ⟨q0,q1,q2,q3,q4,q5,q6⟩:=hc.below hb hc.lt
   have HD:=Lib.hid (show idxFrom p (l.drop k) k=if p l[k] then (k:Int) else idxFrom p (l.drop (k+1)) (k+1) by rw [List.drop_eq_getElem_cons hlt];rfl)
   go_wp2_with fail
   refine (hp l[k] _ hb).mono ?_
   rintro e w2 ⟨rfl,hb2⟩
   clear q0 q1 q2 q3 q4 q5 q6
   have hbx:Below w.heap.size w w2:=hb.trans (hb2.mono hb.size)
   cases hsm:p l[k]
   ·have HD2:=Lib.hid (show idxFrom p (l.drop (k+1)) ((k+1:Nat):Int)=idxFrom p l 0 by rw [← HE.out,HD.out,hsm];simp)
    clear HD HE
    go_wp2
    exact ⟨⟨k+1,by omega,by go_num,hbx,HD2⟩,by simp [intOf];omega⟩
   ·have HD2:=Lib.hid (show idxFrom p l 0=k by rw [← HE.out,HD.out,hsm];simp)
    clear HD HE
    go_wp2
    go_ret
    exact ⟨by rw [HD2.out];rfl,hbx⟩
  ·obtain rfl:k=l.length:=by omega
   have HD2:=Lib.hid (show idxFrom p l 0=-1 by rw [← HE.out];simp [idxFrom])
   clear HE
   go_wp2
   go_ret
   exact ⟨by rw [HD2.out];rfl,hb⟩
theorem Find1_c (x c:Ch) (b:Nat) (w:World) (hc:ChAt w b 0 c) :
 Calls Tryz.prog 193 #[.agg #[.int .u8 x.C,.int .i64 x.By,.int .i64 x.No,.int .i64 x.K,.int .i64 x.In,.int .i64 x.Out,.int .i64 x.Gone],.pointer (some ⟨b,0,none⟩)] w fun e w'=>e=.returned (.bool (x.same c))∧Below w.heap.size w w':=by
 have hlt:=hc.lt
 obtain ⟨q0,q1,q2,q3,q4,q5,q6⟩:=hc.below ((Below.refl w.heap.size w).alloc (Nat.le_refl _) (.cells #[.int .u8 x.C,.int .i64 x.By,.int .i64 x.No,.int .i64 x.K,.int .i64 x.In,.int .i64 x.Out,.int .i64 x.Gone] 125)) hlt
 go_enter Tryz.func193,Tryz.ntmps193
 go_wp2_with fail
 refine (Same_c x c _).mono ?_
 rintro e w2 ⟨rfl,hb2⟩
 clear q0 q1 q2 q3 q4 q5 q6
 go_wp2
 go_ret
 exact ⟨rfl,((Below.refl _ _).alloc (Nat.le_refl _) _).trans (hb2.mono (by simp))⟩
theorem idx_find (c:Ch) (l:List Ch):∀ i,idxFrom (fun x=>x.same c) l i=findFrom c l i:=by
 induction l with
 | nil=>intro i;rfl
 | cons x l ih=>intro i;unfold idxFrom findFrom;rw [ih]
theorem Find_c (a:Option Addr) (cap:Nat) (l:List Ch) (c:Ch) (w:World) (hs:SlCh w a cap l) :
 Calls Tryz.prog 179 #[.slice a l.length cap,.agg #[.int .u8 c.C,.int .i64 c.By,.int .i64 c.No,.int .i64 c.K,.int .i64 c.In,.int .i64 c.Out,.int .i64 c.Gone]] w fun e w'=>e=.returned (.int .i64 (find l c))∧Below w.heap.size w w':=by
 have hm:l.length≤maxLen:=Nat.le_trans hs.1 hs.2.1
 unfold maxLen at hm
 have Hf:=Lib.hid (show find l c=idxFrom (fun x=>x.same c) l 0 from (idx_find c l 0).symm)
 have hb0:=(Below.refl w.heap.size w).alloc (Nat.le_refl _) (.cells #[.int .u8 c.C,.int .i64 c.By,.int .i64 c.No,.int .i64 c.K,.int .i64 c.In,.int .i64 c.Out,.int .i64 c.Gone] 125)
 have hs0:=hs.below hb0
 have hc0:ChAt (w.alloc (.cells #[.int .u8 c.C,.int .i64 c.By,.int .i64 c.No,.int .i64 c.K,.int .i64 c.In,.int .i64 c.Out,.int .i64 c.Gone] 125)) w.heap.size 0 c:=by simp [ChAt]
 have hp:PredCall Tryz.prog 193 #[] #[.pointer (some ⟨w.heap.size,0,none⟩)] (fun x=>x.same c) (w.alloc (.cells #[.int .u8 c.C,.int .i64 c.By,.int .i64 c.No,.int .i64 c.K,.int .i64 c.In,.int .i64 c.Out,.int .i64 c.Gone] 125)):=
  fun x W hb=>Find1_c x c _ W (hc0.below hb hc0.lt)
 go_enter Tryz.func179,Tryz.ntmps179
 clear hc0
 go_wp2_with fail
 refine (IndexFunc_c a cap l _ _ _ _ _ hs0 hp (enters_of Tryz.func193 (by kernel_rfl) rfl)).mono ?_
 rintro e w2 ⟨rfl,hb2⟩
 go_wp2
 go_ret
 exact ⟨by rw [Hf.out];rfl,hb0.trans (hb2.mono (by simp))⟩
theorem Find_n (a:Option Addr) (cap:Nat) (l:List Ch) (c:Ch) (n:Nat) (hn:l.length=n) (w:World) (hs:SlCh w a cap l) :
 Calls Tryz.prog 179 #[.slice a n cap,.agg #[.int .u8 c.C,.int .i64 c.By,.int .i64 c.No,.int .i64 c.K,.int .i64 c.In,.int .i64 c.Out,.int .i64 c.Gone]] w fun e w'=>e=.returned (.int .i64 (find l c))∧Below w.heap.size w w':=by
 subst hn;exact Find_c a cap l c w hs
end Go.Proofs.YtneoeokfffnonaaGreatDoor
namespace Go.Proofs.YtneoeokfffnonaaGreatDoor
open Go.RowKit
set_option maxRecDepth 100000 in
set_option maxHeartbeats 1000000 in
theorem Check_c (a:Option Addr) (cap:Nat) (l:List Ch) (log:Int) (w:World) (hs:SlCh w a cap l) :
 Calls Tryz.prog 155 #[.slice a l.length cap,.int .i64 log] w fun e w'=>e=.returned (.int .i64 (listFault l log))∧Below w.heap.size w w':=by
 have hm:l.length≤maxLen:=Nat.le_trans hs.1 hs.2.1
 unfold maxLen at hm
 by_cases hbig:200 < l.length
 ·have Hf:=Lib.hid (show listFault l log=10 by unfold listFault;rw [if_pos hbig])
  go_enter Tryz.func155,Tryz.ntmps155
  go_wp2
  go_ret
  exact ⟨by rw [Hf.out];rfl,Below.refl _ _⟩
 have hsm:l.length≤200:=by omega
 have Hf:=Lib.hid (show listFault l log=chk log [] l by unfold listFault;rw [if_neg hbig])
 clear hbig
 go_enter Tryz.func155,Tryz.ntmps155
 go_wp2
 go_loopw [12] (fun i wr=>∃ k:Nat,k≤l.length∧i=.int .i64 k∧Below w.heap.size w wr∧Hid (chk log (l.take k) (l.drop k)=chk log [] l)) (fun i _=>l.length - (intOf i).toNat)
 case atStart=>exact ⟨0,Nat.zero_le _,rfl,Below.refl _ _,Lib.hid (by simp)⟩
 case round=>
  obtain ⟨k,hk,rfl,hb,HE⟩:=hrel
  by_cases hlt:k < l.length
  ·obtain ⟨b,off,rfl,hc⟩:=hs.nth hlt
   obtain ⟨q0,q1,q2,q3,q4,q5,q6⟩:=hc.below hb hc.lt
   have HD:=Lib.hid (show chk log (l.take k) (l.drop k)=if bad1 l[k] then 1 else if bad2 log l[k] then 1 else if bad3 l[k] then 3 else if 0≤find (l.take k) l[k] then 6 else chk log (l.take (k+1)) (l.drop (k+1)) by
    rw [List.drop_eq_getElem_cons hlt,List.take_succ_eq_append_getElem hlt];rfl)
   generalize hx:l[k]=x at *
   have HX:=Lib.hid hx;clear hx
   go_upto_region 6 with fail
   go_cut [17] (fun s17 wx=>s17=.bool (bad1 x)∧wx=wr.alloc (.cells #[.int .u8 x.C,.int .i64 x.By,.int .i64 x.No,.int .i64 x.K,.int .i64 x.In,.int .i64 x.Out,.int .i64 x.Gone] 125))
   case first=>
    rcases bad1_cases x with ⟨hx,h⟩ | ⟨hx,h,h1⟩ | ⟨hx,h,h1,h2⟩ | ⟨hx,h,h1,h2,h3⟩ | ⟨hx,h,h1,h2,h3,h4⟩ | ⟨hx,h,h1,h2,h3,h4,h5⟩ | ⟨hx,h,h1,h2,h3,h4,h5⟩
    all_goals
     have HB:=Lib.hid hx;clear hx
     go_wp2_with (go_at_call 125;refine (Writer_c _ _).mono ?_;rintro e w' ⟨rfl,rfl⟩)
     go_meet
     exact ⟨by (try rw [HB.out]);first | done | rfl | (congr 1;simp;omega),rfl⟩
   case rest=>
    obtain ⟨rfl,rfl⟩:=hcut
    cases hB1:bad1 x
    case true=>
     have HD2:=Lib.hid (show chk log [] l=1 by rw [← HE.out,HD.out,hB1];rfl)
     clear HD HE
     go_wp2
     go_ret
     exact ⟨by rw [Hf.out,HD2.out];rfl,hb.alloc hb.size _⟩
    case false=>
    go_upto_region 8 with fail
    go_cut [47] (fun s17 wx=>s17=.bool (bad2 log x)∧wx=wr.alloc (.cells #[.int .u8 x.C,.int .i64 x.By,.int .i64 x.No,.int .i64 x.K,.int .i64 x.In,.int .i64 x.Out,.int .i64 x.Gone] 125))
    case first=>
     rcases bad2_cases log x with ⟨hx,h,h1⟩ | ⟨hx,h,h1,h2⟩ | ⟨hx,h,h1⟩ | ⟨hx,h,h1,h2,h3⟩ | ⟨hx,h,h1,h2⟩ | ⟨hx,h,h1,h2,h3,h4⟩ | ⟨hx,h,h1,h2⟩ | ⟨hx,h,h1,h2,h3,h4⟩
     all_goals
      have HB:=Lib.hid hx;clear hx
      go_wp2
      go_meet
      exact ⟨by (try rw [HB.out]);first | done | rfl | (congr 1;simp;omega),rfl⟩
    case rest=>
     obtain ⟨rfl,rfl⟩:=hcut
     cases hB2:bad2 log x
     case true=>
      have HD2:=Lib.hid (show chk log [] l=1 by rw [← HE.out,HD.out,hB1,hB2];rfl)
      clear HD HE
      go_wp2
      go_ret
      exact ⟨by rw [Hf.out,HD2.out];rfl,hb.alloc hb.size _⟩
     case false=>
     go_upto_region 10 with fail
     go_cut [73] (fun s17 wx=>s17=.bool (bad3 x)∧wx=wr.alloc (.cells #[.int .u8 x.C,.int .i64 x.By,.int .i64 x.No,.int .i64 x.K,.int .i64 x.In,.int .i64 x.Out,.int .i64 x.Gone] 125))
     case first=>
      rcases bad3_cases x with ⟨hx,h⟩ | ⟨hx,h,h1⟩ | ⟨hx,h,h1,h2⟩ | ⟨hx,h,h1,h2⟩
      all_goals
       have HB:=Lib.hid hx;clear hx
       go_wp2
       go_meet
       exact ⟨by (try rw [HB.out]);first | done | rfl | (congr 1;simp;omega),rfl⟩
     case rest=>
      obtain ⟨rfl,rfl⟩:=hcut
      cases hB3:bad3 x
      case true=>
       have HD2:=Lib.hid (show chk log [] l=3 by rw [← HE.out,HD.out,hB1,hB2,hB3];rfl)
       clear HD HE
       go_wp2
       go_ret
       exact ⟨by rw [Hf.out,HD2.out];rfl,hb.alloc hb.size _⟩
      case false=>
       have hcap:k≤cap:=Nat.le_trans hk hs.1
       have hcap' : (k:Int)≤cap:=by omega
       go_wp2
       obtain ⟨wz,hwz⟩:∃ wz,wz=wr.alloc (.cells #[.int .u8 x.C,.int .i64 x.By,.int .i64 x.No,.int .i64 x.K,.int .i64 x.In,.int .i64 x.Out,.int .i64 x.Gone] 125):=⟨_,rfl⟩
       have hbz:Below w.heap.size w wz:=by rw [hwz];exact hb.alloc hb.size _
       have hcz:ChAt wz wr.heap.size 0 x:=by rw [hwz];simp [ChAt]
       rw [← hwz]
       clear hwz q0 q1 q2 q3 q4 q5 q6
       obtain ⟨r0,r1,r2,r3,r4,r5,r6⟩:=hcz
       go_still_tail 4,(by kernel_rfl)
       go_wp2_with fail
       refine (Find_n (some ⟨b,off,none⟩) cap (l.take k) x k (by simp;omega) _ (SlCh.of_block (w':=wz.drew) ((hs.below hbz).take k) fun _ _ _=>rfl)).mono ?_
       rintro e w3 ⟨rfl,hb3⟩
       have hbx:Below w.heap.size w w3:=hbz.drew.trans (hb3.mono hbz.size)
       by_cases hf:0≤find (l.take k) x
       ·have HD2:=Lib.hid (show chk log [] l=6 by rw [← HE.out,HD.out,hB1,hB2,hB3,if_pos hf];rfl)
        clear HD HE
        go_wp2
        go_ret
        exact ⟨by rw [Hf.out,HD2.out];rfl,hbx⟩
       ·have HD2:=Lib.hid (show chk log (l.take (k+1)) (l.drop (k+1))=chk log [] l by rw [← HE.out,HD.out,hB1,hB2,hB3,if_neg hf];rfl)
        clear HD HE
        go_wp2
        go_roundw
        case rel=>exact ⟨k+1,by omega,by go_num,hbx,HD2⟩
        case measure=>simp [intOf];omega
  ·obtain rfl:k=l.length:=by omega
   have HD2:=Lib.hid (show chk log [] l=0 by rw [← HE.out];simp [chk])
   clear HE
   go_wp2
   go_ret
   exact ⟨by rw [Hf.out,HD2.out];rfl,hb⟩
end Go.Proofs.YtneoeokfffnonaaGreatDoor
namespace Go.Proofs.YtneoeokfffnonaaGreatDoor
open Go.RowKit
theorem info_zero {P:Program} {e:TypeId} {z:Value} (h:(P.info? e).map (·.zero)=some (some z)):∃ i,P.info? e=some i∧i.zero=some z:=by
 cases hi:P.info? e with
 | none=>rw [hi] at h;cases h
 | some i=>rw [hi] at h;exact ⟨i,rfl,by simpa using h⟩
theorem zero_one:∀ v∈(Value.agg #[.int .u8 0,.int .i64 0,.int .i64 0,.int .i64 0,.int .i64 0,.int .i64 0,.int .i64 0]).cells,v.oneCell'=true:=by
 intro v hv;simp [Value.cells] at hv;rcases hv with rfl | rfl <;> rfl
theorem zero_Char:∃ i,Tryz.prog.info? 125=some i∧i.zero=some (.agg #[.int .u8 0,.int .i64 0,.int .i64 0,.int .i64 0,.int .i64 0,.int .i64 0,.int .i64 0]):=info_zero (by kernel_rfl)
theorem Done_c (c:Ch) (least:Int) (w:World) :
 Calls Tryz.prog 163 #[.agg #[.int .u8 c.C,.int .i64 c.By,.int .i64 c.No,.int .i64 c.K,.int .i64 c.In,.int .i64 c.Out,.int .i64 c.Gone],.int .i64 least] w fun e w'=>e=.returned (.bool (doneB least c))∧Below w.heap.size w w':=by
 go_enter Tryz.func163,Tryz.ntmps163
 by_cases h1:0 < c.Out <;> by_cases h2:c.Out≤least
 all_goals
  have Hf:=Lib.hid (show doneB least c=(decide (0 < c.Out)&&decide (c.Out≤least)) from rfl)
  go_wp2
  go_ret
  exact ⟨by rw [Hf.out];simp [h1,h2],(Below.refl _ _).alloc (Nat.le_refl _) _⟩
theorem Of1_c (c:Ch) (least:Int) (b:Nat) (w:World) (hc:w.cell? ⟨b,0,none⟩=some (.int .i64 least)) :
 Calls Tryz.prog 162 #[.agg #[.int .u8 c.C,.int .i64 c.By,.int .i64 c.No,.int .i64 c.K,.int .i64 c.In,.int .i64 c.Out,.int .i64 c.Gone],.pointer (some ⟨b,0,none⟩)] w fun e w'=>e=.returned (.bool (doneB least c))∧Below w.heap.size w w':=by
 have hlt:=World.block_lt_of_cell? w _ hc
 have hc1:=(((Below.refl w.heap.size w).alloc (Nat.le_refl _) (.cells #[.int .u8 c.C,.int .i64 c.By,.int .i64 c.No,.int .i64 c.K,.int .i64 c.In,.int .i64 c.Out,.int .i64 c.Gone] 125)).cell (p:=⟨b,0,none⟩) hlt).trans hc
 go_enter Tryz.func162,Tryz.ntmps162
 go_wp2_with fail
 refine (Done_c c least _).mono ?_
 rintro e w2 ⟨rfl,hb2⟩
 clear hc1 hc
 go_wp2
 go_ret
 exact ⟨rfl,((Below.refl _ _).alloc (Nat.le_refl _) _).trans (hb2.mono (by simp))⟩
theorem Clone_c (a:Option Addr) (cap:Nat) (l:List Ch) (w:World) (hs:SlCh w a cap l) (hsz:l.length * 56≤140737488355328) (hnil:a=none→cap=0) :
 Calls Tryz.prog 158 #[.slice a l.length cap] w fun e w'=>∃ a' cap',e=.returned (.slice a' l.length cap')∧
  OwnRow w' w.heap.size 125 7 a' l.length cap' (flat l)∧Below w.heap.size w w':=by
 have hm:l.length≤maxLen:=Nat.le_trans hs.1 hs.2.1
 unfold maxLen at hm
 cases a with
 | none=>
  have hc0:=hnil rfl
  have hl0:l.length=0:=by have:=hs.1;omega
  obtain rfl:l=[]:=List.eq_nil_of_length_eq_zero hl0
  subst hc0
  have heq:=fun (w:World)=>Lib.run_eql_slice_nil (P:=Tryz.prog) w 91 125 none 0 0 0 0 Tryz.underlying91
  go_enter Tryz.func158,Tryz.ntmps158
  go_wp2
  go_ret
  exact ⟨none,0,rfl,OwnRow.nil _ _ _ _ _,Below.refl _ _⟩
 | some ad=>
  clear hnil
  have hs1:=hs.below ((Below.refl w.heap.size w).alloc (Nat.le_refl _) (.cells #[] 125))
  have hcells:=hs1.cells ad rfl
  have HC:=Lib.hid hcells;clear hcells
  have heq:=fun (w:World)=>Lib.run_eql_slice_nil (P:=Tryz.prog) w 91 125 (some ad) l.length cap 0 0 Tryz.underlying91
  have hown:OwnRow (w.alloc (.cells #[] 125)) w.heap.size 125 7 (some ⟨w.heap.size,0,none⟩) 0 0 []:=OwnRow.nil _ _ _ _ _
  have HO:=Lib.hid hown;clear hown
  go_enter Tryz.func158,Tryz.ntmps158
  go_wp2_with (at_builtin;refine wpList_append_row _ rfl (.tmp 5) (.tmp 6) 91 rfl w.heap.size 125 7 56 Tryz.underlying91 ti_Char (some ⟨w.heap.size,0,none⟩) 0 0 [] rfl HO.out (some ad) l.length cap (flat l) rfl (flat_length l) (.inr ⟨ad,rfl,HC.out⟩) (flat_one l) (by omega) (by simp) ?_)
  intro a3 cap3 w3 hown3 hg3 _
  have hbx:Below w.heap.size w w3:=((Below.refl w.heap.size w).alloc (Nat.le_refl _) (.cells #[] 125)).trans (below_grownBy hg3 (by simp) (by simp [ownB]))
  clear HC heq
  go_wp2
  go_ret
  exact ⟨a3,cap3,rfl,hown3,hbx⟩
def PredGrow (P:Program) (g:FuncId) (fst caps:Array Value) (p:Ch→Bool) (w0:World) (r:Option Nat):Prop:=
 ∀ (c:Ch) (W:World),w0.grownBy W r→Calls P g (fst.push (.agg #[.int .u8 c.C,.int .i64 c.By,.int .i64 c.No,.int .i64 c.K,.int .i64 c.In,.int .i64 c.Out,.int .i64 c.Gone])++caps) W fun e W'=>e=.returned (.bool (p c))∧Below W.heap.size W W'
theorem idx_spec (p:Ch→Bool) (l:List Ch):∀ i:Int,(idxFrom p l i=-1∧l.filter (fun c=>!p c)=l)∨∃ k,∃ h:k < l.length,idxFrom p l i=i+k∧p l[k]=true∧(l.take k).filter (fun c=>!p c)=l.take k:=by
 induction l with
 | nil=>intro i;left;exact ⟨rfl,rfl⟩
 | cons c l ih=>
  intro i
  unfold idxFrom
  cases hp:p c
  ·rcases ih (i+1) with ⟨h1,h2⟩ | ⟨k,hk,h1,h2,h3⟩
   ·left;simp [h1,hp,h2]
   ·right
    refine ⟨k+1,by simp;omega,by simp [h1];omega,by simpa using h2,?_⟩
    rw [List.take_succ_cons,List.filter_cons_of_pos (by simp [hp]),h3]
  ·right;exact ⟨0,by simp,by simp,by simpa using hp,by simp⟩
theorem mem_idx (p:Ch→Bool) (l:List Ch) (k:Nat) (h:k < l.length) (hp:p l[k]=true) (ht:(l.take k).filter (fun c=>!p c)=l.take k):(l.take (k+1)).filter (fun c=>!p c)=l.take k:=by
 rw [List.take_succ_eq_append_getElem h,List.filter_append,ht];simp [hp]
set_option maxHeartbeats 1000000 in
theorem DeleteFunc_c (a:Option Addr) (cap:Nat) (l:List Ch) (g0:FuncId) (fst caps:Array Value) (p:Ch→Bool) (w:World) (base:Nat) (h:OwnRow w base 125 7 a l.length cap (flat l)) (hp:PredGrow Tryz.prog g0 fst caps p w (ownB a cap))
 (heg:∀ (args:Array Value) (W:World),Sem.run Tryz.prog (callFunc g0 args) W=.ok (.enter g0 args) W) :
 Calls Tryz.prog 161 #[.slice a l.length cap,.func (.func g0) fst caps] w fun e w'=>e=.returned (.slice a (l.filter fun c=>!p c).length cap)∧
  OwnRow w' base 125 7 a (l.filter fun c=>!p c).length cap (flat (l.filter fun c=>!p c))∧w.grownBy w' (ownB a cap):=by
 have hm:l.length≤maxLen:=Nat.le_trans h.le h.max
 unfold maxLen at hm
 have hpb:PredCall Tryz.prog g0 fst caps p w:=fun c W hb=>hp c W (grownBy_below hb _)
 go_enter Tryz.func161,Tryz.ntmps161
 rcases idx_spec p l 0 with ⟨h1,h2⟩ | ⟨k,hk,h1,h2,h3⟩
 ·have H2:=Lib.hid h2;clear h2
  go_wp2_with fail
  refine (IndexFunc_c a cap l _ _ _ p _ h.slCh hpb heg).mono ?_
  rintro e w1 ⟨rfl,hb1⟩
  rw [h1]
  clear h1
  go_wp2
  go_ret
  exact ⟨by rw [H2.out];rfl,by rw [H2.out];exact h.below hb1,grownBy_below hb1 _⟩
 ·have HF:=Lib.hid (mem_idx p l k hk h2 h3)
  obtain ⟨g,off,rfl,hbg,hgw,_⟩:=h.cell (by rw [flat_length];omega)
  have hcap0:¬ cap=0:=by have:=h.le;omega
  have hob:ownB (some ⟨g,off,none⟩) cap=some g:=by simp [ownB,hcap0]
  rw [hob] at hp ⊢
  have h1' : idxFrom p l 0=(k:Int):=by rw [h1,Int.zero_add]
  clear h1 h2 h3 hob
  have hkm:k≤9223372036854775806:=by omega
  have hne:((k:Int)==-1)=false:=by simp
  go_wp2_with fail
  refine (IndexFunc_c _ cap l _ _ _ p _ h.slCh hpb heg).mono ?_
  rintro e w1 ⟨rfl,hb1⟩
  rw [h1']
  clear h1' hpb
  go_wp2
  go_loopw [5,6] (fun s5 s6 wr=>∃ (i j:Nat) (L:List Ch),i < j∧j≤l.length∧s5=.int .i64 i∧s6=.int .i64 j∧Hid (L.length=l.length)∧Hid (L.take i=(l.take j).filter fun c=>!p c)∧Hid (L.drop j=l.drop j)∧
   Hid (OwnRow wr base 125 7 (some ⟨g,off,none⟩) l.length cap (flat L))∧w.grownBy wr (some g)) (fun _ s6 _=>l.length - (intOf s6).toNat)
  case atStart=>exact ⟨k,k+1,l,by omega,by omega,rfl,by go_num,Lib.hid rfl,Lib.hid HF.out.symm,Lib.hid rfl,Lib.hid (h.below hb1),grownBy_below hb1 _⟩
  case round=>
   obtain ⟨i,j,L,hij,hjl,rfl,rfl,HL,HT,HD,HO,hgr⟩:=hrel
   have hmj:j≤9223372036854775807:=by omega
   by_cases hlt:j < l.length
   ·have hjL:j < L.length:=by rw [HL.out];exact hlt
    have hxl:L[j]=l[j]:=by
     have:=congrArg (·[0]?) HD.out
     simpa [List.getElem?_drop,List.getElem?_eq_getElem hjL,List.getElem?_eq_getElem hlt] using this
    have HS:=HL.out ▸ HO.out
    obtain ⟨b,off',he,hc⟩:=(OwnRow.slCh (l:=L) (by rw [HL.out];exact HO.out)).nth hjL
    cases he
    obtain ⟨q0,q1,q2,q3,q4,q5,q6⟩:=hc
    have HF1:=Lib.hid (show (l.take (j+1)).filter (fun c=>!p c)=(l.take j).filter (fun c=>!p c)++(if p L[j] then [] else [L[j]]) by
     rw [List.take_succ_eq_append_getElem hlt,List.filter_append,hxl];congr 1;cases hpp:p l[j] <;> simp [hpp])
    have HD1:=Lib.hid (show L.drop (j+1)=l.drop (j+1) by
     have:=congrArg (List.drop 1) HD.out;simpa [List.drop_drop,Nat.add_comm] using this)
    clear hxl HS HD
    have hjl' : (j:Int) < l.length:=by omega
    generalize hx:L[j]=x at *
    have HX:=Lib.hid hx;clear hx
    go_wp2_with fail
    refine (hp x _ (grownBy_trans hgr (World.grownBy_alloc wr _ _))).mono ?_
    rintro e w2 ⟨rfl,hb2⟩
    clear q0 q1 q2 q3 q4 q5 q6
    obtain ⟨hc2,hf2⟩:=bcell hb2
    have hg2:w.grownBy w2 (some g):=grownBy_trans (grownBy_trans hgr (World.grownBy_alloc wr _ _)) (grownBy_below hb2 _)
    have HO2:=Lib.hid ((HO.out.alloc _).below hb2)
    cases hpx:p x
    ·have HF2:=Lib.hid (show (l.take (j+1)).filter (fun c=>!p c)=(l.take j).filter (fun c=>!p c)++[x] by rw [HF1.out,hpx];rfl)
     clear HF1
     have hil' : (i:Int) < l.length:=by omega
     go_wp2_with (refine wpList_store_own rfl 125 (.tmp 33) (.tmp 32) rfl HO2.out rfl (i * 7) x.cells rfl rfl (by kernel_rfl) (by rw [flat_length,HL.out];simp;omega) x.cells_one (by rw [flat_length,HL.out];omega) ?_)
     intro w3 ho3 hg3
     have hiL:i < L.length:=by rw [HL.out];omega
     have HO3:=Lib.hid (show OwnRow w3 base 125 7 (some ⟨g,off,none⟩) l.length cap (flat (L.set i x)) by rw [flat_set L i x hiL,List.append_assoc];exact ho3)
     have HT3:=Lib.hid (show (L.set i x).take (i+1)=(l.take (j+1)).filter fun c=>!p c by
      rw [HF2.out,← HT.out,List.take_succ_eq_append_getElem (by simpa using hiL),List.getElem_set_self,List.take_set_of_le (Nat.le_refl _)])
     have HD3:=Lib.hid (show (L.set i x).drop (j+1)=l.drop (j+1) by rw [List.drop_set_of_lt (by omega)];exact HD1.out)
     have HL3:=Lib.hid (show (L.set i x).length=l.length by rw [List.length_set];exact HL.out)
     clear ho3 HO2 HF2 HT HD1 hc2 hf2
     go_wp2
     exact ⟨⟨i+1,j+1,L.set i x,by omega,by omega,by go_num,by go_num,HL3,HT3,HD3,HO3,grownBy_trans hg2 hg3⟩,by simp [intOf];omega⟩
    ·have HF2:=Lib.hid (show L.take i=(l.take (j+1)).filter (fun c=>!p c) by rw [HF1.out,hpx,HT.out];simp)
     clear HF1 hc2 hf2
     go_wp2
     exact ⟨⟨i,j+1,L,by omega,by omega,rfl,by go_num,HL,HF2,HD1,HO2,hg2⟩,by simp [intOf];omega⟩
   ·obtain rfl:j=l.length:=by omega
    have HTf:=Lib.hid (show L.take i=l.filter fun c=>!p c by rw [HT.out];simp)
    have hlen:(l.filter fun c=>!p c).length=i:=by rw [← HTf.out,List.length_take,HL.out];omega
    have HLen:=Lib.hid hlen;clear hlen
    have hic:i≤cap:=by have:=h.le;omega
    have hic' : (i:Int)≤cap:=by omega
    have hil' : (i:Int)≤l.length:=by omega
    have hilt:i < l.length:=by omega
    have hne2:¬ cap=i:=by have:=h.le;omega
    clear HT HD hp
    obtain ⟨ic,hinfo,hzero⟩:=zero_Char
    have HI:=Lib.hid hinfo;clear hinfo
    have HZ:=Lib.hid hzero;clear hzero
    go_wp2_with (refine wpList_clear_own (size:=7) (n:=l.length) (cap:=cap) (base:=base) rfl (.tmp 38) 91 rfl Tryz.underlying91 ic _ HI.out HZ.out rfl zero_one (by omega) HO.out rfl i (l.length - i) (cap - i) rfl (by omega) (by omega) ?_)
    intro w3 ys ho3 hg3
    go_wp2
    go_ret
    have hiL:i≤L.length:=by rw [HL.out];omega
    have e:((flat L).take (i * 7)++ys).take (i * 7)=flat (l.filter fun c=>!p c):=by
     rw [List.take_append_of_le_length (by rw [List.length_take,flat_length];omega),List.take_take,Nat.min_self,flat_take,HTf.out]
    refine ⟨by rw [HLen.out];rfl,?_,grownBy_trans hgr hg3⟩
    rw [HLen.out,← e]
    exact ho3.take i (by omega)
theorem Of_c (a:Option Addr) (cap:Nat) (l:List Ch) (least:Int) (w:World) (hs:SlCh w a cap l) (hsz:l.length * 56≤140737488355328) (hnil:a=none→cap=0) :
 Calls Tryz.prog 133 #[.slice a l.length cap,.int .i64 least] w fun e w'=>∃ a' cap',e=.returned (.slice a' (clearOf least l).length cap')∧
  OwnRow w' w.heap.size 125 7 a' (clearOf least l).length cap' (flat (clearOf least l))∧Below w.heap.size w w':=by
 have hm:l.length≤maxLen:=Nat.le_trans hs.1 hs.2.1
 unfold maxLen at hm
 have hb0:=(Below.refl w.heap.size w).alloc (Nat.le_refl _) (.cells #[.int .i64 least] 3)
 have hs0:=hs.below hb0
 have hc0:(w.alloc (.cells #[.int .i64 least] 3)).cell? ⟨w.heap.size,0,none⟩=some (.int .i64 least):=by simp
 have HC0:=Lib.hid hc0;clear hc0
 have HN:=Lib.hid hnil;clear hnil
 go_enter Tryz.func133,Tryz.ntmps133
 go_upto_region 1 with fail
 generalize hw0:w.alloc (.cells #[.int .i64 least] 3)=w0 at *
 have hz0:w0.heap.size=w.heap.size+1:=by rw [← hw0];simp
 have HZ0:=Lib.hid hz0;clear hz0 hw0
 go_wp2_with fail
 refine (Clone_c a cap l _ hs0 hsz HN.out).mono ?_
 rintro e w1 ⟨a1,cap1,rfl,ho1,hb1⟩
 have hx1:Below w.heap.size w w1:=hb0.trans (hb1.mono hb0.size)
 have hp:PredGrow Tryz.prog 162 #[] #[.pointer (some ⟨w.heap.size,0,none⟩)] (doneB least) w1 (ownB a1 cap1):=by
  intro c W hW
  refine Of1_c c least w.heap.size W ?_
  have hlt:=World.block_lt_of_cell? w0 _ HC0.out
  have h1:=(hb1.cell (p:=⟨w.heap.size,0,none⟩) hlt).trans HC0.out
  have hne:some w.heap.size≠ownB a1 cap1:=fun he=>by have:=ho1.base_le _ he.symm;rw [HZ0.out] at this;omega
  exact (World.cell?_of_block (w:=w1) (hW.block w.heap.size (World.block_lt_of_cell? w1 _ h1) hne)).trans h1
 have HO1:=Lib.hid ho1
 go_wp2_with fail
 refine (DeleteFunc_c a1 cap1 l _ _ _ (doneB least) _ w0.heap.size ho1 hp (enters_of Tryz.func162 (by kernel_rfl) rfl)).mono ?_
 rintro e w2 ⟨rfl,ho2,hg2⟩
 clear hp hs0
 have hsz0:w.heap.size≤w0.heap.size:=by rw [HZ0.out];omega
 have hx2:Below w.heap.size w w2:=hx1.trans (below_grownBy hg2 hx1.size fun k hk=>Nat.le_trans hsz0 (HO1.out.base_le k hk).1)
 go_wp2
 go_ret
 exact ⟨a1,cap1,rfl,ho2.mono hsz0,hx2⟩
end Go.Proofs.YtneoeokfffnonaaGreatDoor
