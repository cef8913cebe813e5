/- Merged: RefW RefW2 ViewOf RefDeedW RefFoldW RefDoW RefDoW2 RefAllW RefClW. -/
import Derived.Test.YtneoeokfffnonaaGreatDoorDoW
set_option linter.unusedVariables false
set_option linter.unusedSimpArgs false
namespace Go.Proofs.YtneoeokfffnonaaGreatDoor
open Go.RowKit
theorem IsWriter_c (x:Int) (w:World) :
 Calls Tryz.prog 62 #[.int .i64 x] w fun e w'=>e=.returned (.bool (isWriter x))∧w'=w:=by
 go_enter Tryz.func62,Tryz.ntmps62
 by_cases h1:0≤x <;> by_cases h2:x < 4
 all_goals (go_wp2;go_ret;exact ⟨by simp [isWriter,h1,h2],rfl⟩)
theorem Took_pos (g x:Int) (w:World) (h0:0≤g) (h1:g < 9223372036854775808) :
 Calls Tryz.prog 149 #[.int .i64 g,.int .i64 x] w fun e w'=>e=.returned (.bool (took g x))∧w'=w:=by
 go_enter Tryz.func149,Tryz.ntmps149
 cases hw:isWriter x
 ·have Hf:=Lib.hid (took_no g x hw)
  go_wp2_with (go_at_call 62;refine (IsWriter_c _ _).mono ?_;rintro e w' ⟨rfl,rfl⟩)
  go_ret
  exact ⟨by rw [Hf.out];rfl,rfl⟩
 ·have Hf:=Lib.hid (took_halves g x hw)
  have hx:0≤x∧x < 4:=by simpa [isWriter] using hw
  obtain ⟨hx0,hx1⟩:=hx
  go_wp2_with (go_at_call 62;refine (IsWriter_c _ _).mono ?_;rintro e w' ⟨rfl,rfl⟩)
  go_loop [0,5] (fun G i=>∃ (k:Nat) (g' : Int),k≤x.toNat∧i=.int .i64 k∧G=.int .i64 g'∧0≤g'∧g' < 9223372036854775808∧Hid (halves (x.toNat - k) g'=halves x.toNat g)) (fun _ i=>x.toNat - (intOf i).toNat)
  case atStart=>exact ⟨0,g,Nat.zero_le _,rfl,rfl,h0,h1,Lib.hid rfl⟩
  case round=>
   obtain ⟨k,g',hk,rfl,rfl,hg0,hg1,HE⟩:=hrel
   by_cases hlt:k < x.toNat
   ·have hlt' : (k:Int) < x:=by omega
    have HE2:=Lib.hid (show halves (x.toNat - (k+1)) (g' / 2)=halves x.toNat g by
     rw [← HE.out,show x.toNat - k=(x.toNat - (k+1))+1 by omega];rfl)
    clear HE
    go_wp2
    exact ⟨⟨k+1,g' / 2,by omega,by go_num,rfl,by omega,by omega,HE2⟩,by simp [intOf];omega⟩
   ·have hge:¬ (k:Int) < x:=by omega
    have HE2:=Lib.hid (show halves x.toNat g=g' by rw [← HE.out,show x.toNat - k=0 by omega];rfl)
    clear HE
    go_wp2
    go_ret
    exact ⟨by rw [Hf.out,HE2.out];rfl,rfl⟩
theorem Took_c (g x:Int) (w:World) (h:i64ok g) :
 Calls Tryz.prog 149 #[.int .i64 g,.int .i64 x] w fun e w'=>e=.returned (.bool (took g x))∧w'=w:=by
 obtain ⟨h0,h1⟩:=h
 rcases Int.lt_or_le g 0 with hg | hg
 case inr=>exact Took_pos g x w hg h1
 cases hw:isWriter x
 ·have Hf:=Lib.hid (took_no g x hw)
  go_enter Tryz.func149,Tryz.ntmps149
  go_wp2_with (go_at_call 62;refine (IsWriter_c _ _).mono ?_;rintro e w' ⟨rfl,rfl⟩)
  go_ret
  exact ⟨by rw [Hf.out];rfl,rfl⟩
 ·have Hf:=Lib.hid (show took g x = !took (-g - 1) x by rw [took_compl g x hw];simp)
  by_cases hmin:g=-9223372036854775808
  ·subst hmin
   have e1:wrap64 (wrap64 9223372036854775808 - 1)=9223372036854775807:=by
    rw [show wrap64 9223372036854775808=-9223372036854775808 by unfold wrap64;omega];unfold wrap64;omega
   go_enter Tryz.func149,Tryz.ntmps149
   go_wp2_with (go_at_call 62;refine (IsWriter_c _ _).mono ?_;rintro e w' ⟨rfl,rfl⟩)
   refine (Took_pos _ _ _ (by omega) (by omega)).mono ?_
   rintro e w' ⟨rfl,rfl⟩
   go_wp2
   go_ret
   exact ⟨by rw [Hf.out];rfl,rfl⟩
  ·go_enter Tryz.func149,Tryz.ntmps149
   go_wp2_with (go_at_call 62;refine (IsWriter_c _ _).mono ?_;rintro e w' ⟨rfl,rfl⟩)
   refine (Took_pos _ _ _ (by omega) (by omega)).mono ?_
   rintro e w' ⟨rfl,rfl⟩
   go_wp2
   go_ret
   exact ⟨by rw [Hf.out];rfl,rfl⟩
theorem KnowsIn_c (c:Ch) (seen by_:Int) (w:World) :
 Calls Tryz.prog 109 #[.agg #[.int .u8 c.C,.int .i64 c.By,.int .i64 c.No,.int .i64 c.K,.int .i64 c.In,.int .i64 c.Out,.int .i64 c.Gone],.int .i64 seen,.int .i64 by_] w fun e w'=>e=.returned (.bool (c.knowsIn seen by_))∧Below w.heap.size w w':=by
 go_enter Tryz.func109,Tryz.ntmps109
 by_cases h1:c.In≤seen <;> by_cases h2:c.By=by_
 all_goals (go_wp2;go_ret;exact ⟨by simp [Ch.knowsIn,h1,h2],(Below.refl _ _).alloc (Nat.le_refl _) _⟩)
theorem KnowsOut_c (c:Ch) (seen by_:Int) (w:World) (h:i64ok c.Gone) :
 Calls Tryz.prog 110 #[.agg #[.int .u8 c.C,.int .i64 c.By,.int .i64 c.No,.int .i64 c.K,.int .i64 c.In,.int .i64 c.Out,.int .i64 c.Gone],.int .i64 seen,.int .i64 by_] w fun e w'=>e=.returned (.bool (c.knowsOut seen by_))∧Below w.heap.size w w':=by
 have Hf:=Lib.hid (knowsOut_took c seen by_)
 have Hend:=Lib.hid (fun o=>((Below.refl w.heap.size w).alloc (Nat.le_refl _) o))
 have H:=Lib.hid h;clear h
 go_enter Tryz.func110,Tryz.ntmps110
 cases h1:took c.Gone by_
 ·by_cases h2:0 < c.Out <;> by_cases h3:c.Out≤seen
  all_goals
   go_wp2_with (go_at_call 149;refine (Took_c _ _ _ H.out).mono ?_;rintro e w' ⟨rfl,rfl⟩)
   go_ret
   exact ⟨by rw [Hf.out,h1];simp [h2,h3],Hend.out _⟩
 ·go_wp2_with (go_at_call 149;refine (Took_c _ _ _ H.out).mono ?_;rintro e w' ⟨rfl,rfl⟩)
  go_ret
  exact ⟨by rw [Hf.out,h1];rfl,Hend.out _⟩
theorem RSees_c (c:Ch) (seen by_:Int) (w:World) (h:i64ok c.Gone) :
 Calls Tryz.prog 67 #[.agg #[.int .u8 c.C,.int .i64 c.By,.int .i64 c.No,.int .i64 c.K,.int .i64 c.In,.int .i64 c.Out,.int .i64 c.Gone],.int .i64 seen,.int .i64 by_] w fun e w'=>e=.returned (.bool (c.sees seen by_))∧Below w.heap.size w w':=by
 have H:=Lib.hid h;clear h
 go_enter Tryz.func67,Tryz.ntmps67
 have Hf:=Lib.hid (show c.sees seen by_=(c.knowsIn seen by_&&!c.knowsOut seen by_) from rfl)
 cases h1:c.knowsIn seen by_
 ·go_wp2_with (go_at_call 109;refine (KnowsIn_c c _ _ _).mono ?_;rintro e w1 ⟨rfl,hb1⟩)
  go_ret
  exact ⟨by rw [Hf.out,h1];rfl,((Below.refl _ _).alloc (Nat.le_refl _) _).trans (hb1.mono (by simp))⟩
 ·go_wp2_with fail
  refine (KnowsIn_c c _ _ _).mono ?_
  rintro e w1 ⟨rfl,hb1⟩
  obtain ⟨hc1,hf1⟩:=bcell hb1
  go_wp2_with fail
  refine (KnowsOut_c c _ _ _ H.out).mono ?_
  rintro e w2 ⟨rfl,hb2⟩
  go_wp2
  go_ret
  exact ⟨by rw [Hf.out,h1];rfl,(((Below.refl _ _).alloc (Nat.le_refl _) _).trans (hb1.mono (by simp))).trans (hb2.mono (by have:=hb1.size;simp at this;omega))⟩
theorem BehindOf_c (a:Option Addr) (cap:Nat) (l:List Ch) (seen by_ n:Int) (w:World) (hs:SlCh w a cap l) (hg:∀ c∈l,i64ok c.Gone) :
 Calls Tryz.prog 147 #[.slice a l.length cap,.int .i64 seen,.int .i64 by_,.int .i64 n] w fun e w'=>e=.returned (.int .i64 (behind seen by_ l n))∧Below w.heap.size w w':=by
 have hm:l.length≤maxLen:=Nat.le_trans hs.1 hs.2.1
 unfold maxLen at hm
 have HG:=Lib.hid hg;clear hg
 by_cases hz:n=0
 ·subst hz
  go_enter Tryz.func147,Tryz.ntmps147
  go_wp2
  go_ret
  exact ⟨rfl,Below.refl _ _⟩
 have hz:(n==0)=false:=by simpa using hz
 have Hf:=Lib.hid (show behind seen by_ l n=behindFrom seen by_ l n 0 by unfold behind;rw [if_neg (by simpa using hz)])
 go_enter Tryz.func147,Tryz.ntmps147
 go_wp2
 go_loopw [9,10] (fun m i wr=>∃ (k M:Nat),k≤l.length∧M≤k∧i=.int .i64 k∧m=.int .i64 M∧Hid (behindFrom seen by_ (l.drop k) (n - M) k=behindFrom seen by_ l n 0)∧Below w.heap.size w wr) (fun _ i _=>l.length - (intOf i).toNat)
 case atStart=>exact ⟨0,0,Nat.zero_le _,Nat.le_refl _,rfl,rfl,Lib.hid (by simp),Below.refl _ _⟩
 case round=>
  obtain ⟨k,M,hk,hM,rfl,rfl,HE,hb⟩:=hrel
  by_cases hlt:k < l.length
  ·obtain ⟨b,off,rfl,hc⟩:=hs.nth hlt
   obtain ⟨q0,q1,q2,q3,q4,q5,q6⟩:=hc.below hb hc.lt
   have hlt' : (k:Int) < l.length:=by omega
   have HD:=Lib.hid (show behindFrom seen by_ (l.drop k) (n - M) k=if l[k].sees seen by_ then (if n - M=1 then (k:Int)+1 else behindFrom seen by_ (l.drop (k+1)) (n - M - 1) (k+1)) else behindFrom seen by_ (l.drop (k+1)) (n - M) (k+1) by
    rw [List.drop_eq_getElem_cons hlt];rfl)
   go_wp2_with fail
   refine (RSees_c l[k] _ _ _ (HG.out _ (List.getElem_mem hlt))).mono ?_
   rintro e w2 ⟨rfl,hb2⟩
   clear q0 q1 q2 q3 q4 q5 q6
   have hbx:Below w.heap.size w w2:=hb.trans (hb2.mono hb.size)
   cases hsee:l[k].sees seen by_
   ·have HD2:=Lib.hid (show behindFrom seen by_ (l.drop (k+1)) (n - M) ((k+1:Nat):Int)=behindFrom seen by_ l n 0 by rw [← HE.out,HD.out,hsee];simp)
    clear HD HE
    go_wp2
    exact ⟨⟨k+1,M,by omega,by omega,by go_num,rfl,HD2,hbx⟩,by simp [intOf];omega⟩
   ·by_cases h1:n - M=1
    ·have HD2:=Lib.hid (show behindFrom seen by_ l n 0=(k:Int)+1 by rw [← HE.out,HD.out,hsee,if_pos rfl,if_pos h1])
     clear HD HE
     obtain rfl:n=(M:Int)+1:=by omega
     go_wp2
     go_ret
     exact ⟨by rw [Hf.out,HD2.out];rfl,hbx⟩
    ·have HD2:=Lib.hid (show behindFrom seen by_ (l.drop (k+1)) (n - (M+1:Nat)) ((k+1:Nat):Int)=behindFrom seen by_ l n 0 by rw [← HE.out,HD.out,hsee,if_pos rfl,if_neg h1];simp [Int.sub_sub])
     clear HD HE
     have h2:((M:Int)+1==n)=false:=by simp;omega
     go_wp2
     exact ⟨⟨k+1,M+1,by omega,by omega,by go_num,by go_num,HD2,hbx⟩,by simp [intOf];omega⟩
  ·obtain rfl:k=l.length:=by omega
   have HD2:=Lib.hid (show behindFrom seen by_ l n 0=-1 by rw [← HE.out];simp [behindFrom])
   clear HE
   go_wp2
   go_ret
   exact ⟨by rw [Hf.out,HD2.out];rfl,hb⟩
end Go.Proofs.YtneoeokfffnonaaGreatDoor
namespace Go.Proofs.YtneoeokfffnonaaGreatDoor
open Go.RowKit
end Go.Proofs.YtneoeokfffnonaaGreatDoor
namespace Go.Proofs.YtneoeokfffnonaaGreatDoor
open Go.RowKit
theorem viewN_snoc (seen by_:Int) (l:List Ch) (k:Nat) (h:k < l.length):viewN seen by_ (l.take (k+1))=viewN seen by_ (l.take k)++(if l[k].sees seen by_ then [l[k].C] else []):=by
 unfold viewN;rw [vis_snoc seen by_ l k h,List.map_append];congr 1;split <;> rfl
theorem conv_new (w:World) (c:Int):Sem.run Tryz.prog (convert 40 9 (.slice (some ⟨w.heap.size,0,none⟩) 1 1)) (w.alloc (.cells #[.int .u8 c] 5))=.ok (.string (strOfNums [c])) (w.alloc (.cells #[.int .u8 c] 5)):=
 run_convert_bytes_arg _ 40 5 Tryz.underlying40 Tryz.underlying5 w.heap.size 0 1 1 [c] rfl (fun i hi=>by
  have:i=0:=by omega
  subst this;simp) 9 Tryz.underlying9
theorem ViewOf_c (a:Option Addr) (cap:Nat) (l:List Ch) (seen by_:Int) (w:World) (hs:SlCh w a cap l) (hg:∀ c∈l,i64ok c.Gone) :
 Calls Tryz.prog 63 #[.slice a l.length cap,.int .i64 seen,.int .i64 by_] w fun e w'=>e=.returned (.string (strOfNums (viewN seen by_ l)))∧Below w.heap.size w w':=by
 have hm:l.length≤maxLen:=Nat.le_trans hs.1 hs.2.1
 unfold maxLen at hm
 have HG:=Lib.hid hg;clear hg
 go_enter Tryz.func63,Tryz.ntmps63
 go_wp2
 go_loopw [7,8] (fun s i wr=>∃ k:Nat,k≤l.length∧i=.int .i64 k∧s=.string (strOfNums (viewN seen by_ (l.take k)))∧Below w.heap.size w wr) (fun _ i _=>l.length - (intOf i).toNat)
 case atStart=>exact ⟨0,Nat.zero_le _,rfl,rfl,Below.refl _ _⟩
 case round=>
  obtain ⟨k,hk,rfl,rfl,hb⟩:=hrel
  by_cases hlt:k < l.length
  ·obtain ⟨b,off,rfl,hc⟩:=hs.nth hlt
   obtain ⟨q0,q1,q2,q3,q4,q5,q6⟩:=hc.below hb hc.lt
   have hlt' : (k:Int) < l.length:=by omega
   have Hs:=Lib.hid (viewN_snoc seen by_ l k hlt)
   have hvl:(viewN seen by_ (l.take k)).length≤k:=by
    unfold viewN;rw [List.length_map];exact Nat.le_trans (vis_le ..) (by simp;omega)
   go_wp2_with fail
   refine (RSees_c l[k] _ _ _ (HG.out _ (List.getElem_mem hlt))).mono ?_
   rintro e w2 ⟨rfl,hb2⟩
   have hbx:Below w.heap.size w w2:=hb.trans (hb2.mono hb.size)
   clear q1 q2 q3 q4 q5 q6
   cases hsee:l[k].sees seen by_
   ·have Hs2:=Lib.hid (show viewN seen by_ (l.take (k+1))=viewN seen by_ (l.take k) by rw [Hs.out,hsee];simp)
    clear Hs q0
    go_wp2
    exact ⟨⟨k+1,by omega,by go_num,by rw [Hs2.out],hbx⟩,by simp [intOf];omega⟩
   ·have Hs2:=Lib.hid (show viewN seen by_ (l.take (k+1))=viewN seen by_ (l.take k)++[l[k].C] by rw [Hs.out,hsee];simp)
    clear Hs
    have q0':=(hc.below hbx hc.lt).1
    clear q0
    have hcv:=conv_new w2 l[k].C
    have hsz1:(strOfNums (viewN seen by_ (l.take k))).size+(strOfNums [l[k].C]).size≤9223372036854775807:=by rw [strOfNums_size,strOfNums_size];simp;omega
    go_wp2
    exact ⟨⟨k+1,by omega,by go_num,by rw [Hs2.out,strOfNums_append],hbx.alloc hbx.size _⟩,by simp [intOf];omega⟩
  ·obtain rfl:k=l.length:=by omega
   have Hs2:=Lib.hid (show l.take l.length=l by simp)
   go_wp2
   go_ret
   exact ⟨by rw [Hs2.out];rfl,hb⟩
end Go.Proofs.YtneoeokfffnonaaGreatDoor
namespace Go.Proofs.YtneoeokfffnonaaGreatDoor
open Go.RowKit
def BadRel (text:ByteArray) (s3 s4:Value):Prop:=∃ (k:Nat) (B:Bool),k≤text.size∧s4=.int .i64 k∧s3=.bool B∧Hid (B=true→textOk text=false)∧Hid (B=false→0 < text.size∧text.size≤20)∧Hid (((bytesOf text).take k).all (fun x=>!badByte x)=true∨B=true)
set_option maxRecDepth 100000 in
set_option maxHeartbeats 2000000 in
theorem DeedFault_c (d:Dd) (w:World) (hs:d.Text.size≤maxLen) :
 Calls Tryz.prog 108 #[.agg #[.int .i64 d.Kind,.int .i64 d.By,.int .i64 d.No,.int .i64 d.Seen,.int .i64 d.At,.int .i64 d.Many,.string d.Text]] w fun e w'=>e=.returned (.int .i64 (deedFault d))∧Below w.heap.size w w':=by
 have HB:=Lib.hid ((Below.refl w.heap.size w).alloc (Nat.le_refl _) (.cells #[.int .i64 d.Kind,.int .i64 d.By,.int .i64 d.No,.int .i64 d.Seen,.int .i64 d.At,.int .i64 d.Many,.string d.Text] 122))
 have HT:=Lib.hid hs
 by_cases hk:d.Kind=1∨d.Kind=2
 case neg=>
  have Hf:=Lib.hid (show deedFault d=2 by unfold deedFault;rw [if_neg (by omega),if_neg (by omega)])
  have h1:(d.Kind !=1)=true:=by rw [bne_iff_ne];omega
  have h2:(d.Kind !=2)=true:=by rw [bne_iff_ne];omega
  clear hk hs
  go_enter Tryz.func108,Tryz.ntmps108
  go_wp2
  go_ret
  exact ⟨by rw [Hf.out];rfl,HB.out⟩
 case pos=>
 have HS:=Lib.hid (deedFault_split d hk)
 have HC:=Lib.hid (rest_cases d hk)
 have HR:=Lib.hid (range_cases d)
 obtain ⟨R,hR⟩:∃ R,R=deedRange d:=⟨_,rfl⟩
 rw [← hR] at HS HR;clear hR
 obtain ⟨kind,by_,no,seen,at_,many,text⟩:=d
 simp only at *
 have HMX:=Lib.hid hs;clear hs
 rcases hk with rfl | rfl
 ·go_enter Tryz.func108,Tryz.ntmps108
  go_upto_region 3 with fail
  go_cut [46] (fun s46 wx=>s46=.bool R∧wx=w.alloc (.cells #[.int .i64 1,.int .i64 by_,.int .i64 no,.int .i64 seen,.int .i64 at_,.int .i64 many,.string text] 122))
  case first=>
   rcases HR.out with ⟨hx,h⟩ | ⟨hx,h,h1⟩ | ⟨hx,h,h1,h2⟩ | ⟨hx,h,h1,h2,h3⟩ | ⟨hx,h,h1,h2,h3,h4⟩ | ⟨hx,h,h1,h2,h3,h4,h5⟩ | ⟨hx,h,h1,h2,h3,h4,h5,h6⟩ | ⟨hx,h,h1,h2,h3,h4,h5,h6⟩
   all_goals
    have HX:=Lib.hid hx;clear hx
    go_wp2_with (go_at_call 62;refine (IsWriter_c _ _).mono ?_;rintro e w' ⟨rfl,rfl⟩)
    go_meet
    exact ⟨by (try rw [HX.out]);first | done | rfl | (congr 1;simp;omega),rfl⟩
  case rest=>
  obtain ⟨rfl,rfl⟩:=hcut
  cases R
  case true=>
   have Hf:=Lib.hid (show deedFault _=1 from HS.out)
   clear HS HC HR
   go_wp2
   go_ret
   exact ⟨by rw [Hf.out];rfl,HB.out⟩
  case false=>
  have htm:text.size≤9223372036854775807:=by have:=HMX.out;unfold maxLen at this;omega
  by_cases hm:many=0
  case neg=>
   have hmB:(many !=0)=true:=by simpa using hm
   have Hf:=Lib.hid (show deedFault _=3 from (show _=_ from HS.out).trans (by rcases HC.out with ⟨hr,_,h,_⟩ | ⟨hr,_,h,_⟩ | ⟨hr,_⟩ | ⟨hr,_⟩ | ⟨_,h,_⟩ | ⟨_,h,_⟩ | ⟨_,h,_⟩ <;> first | exact hr | exact absurd h hm | exact absurd h (by decide)))
   clear HS HC HR hm
   go_wp2
   go_ret
   exact ⟨by rw [Hf.out];rfl,HB.out⟩
  subst hm
  have HTX:=Lib.hid (show ∀ b,textOk text=b→deedFault _=(if b then 0 else 4) from fun b hb=>(show _=_ from HS.out).trans (by
   rcases HC.out with ⟨hr,_,_,h⟩ | ⟨hr,_,_,h⟩ | ⟨_,_,h⟩ | ⟨_,h,_⟩ | ⟨_,h,_⟩ | ⟨_,h,_⟩ | ⟨_,h,_⟩
   ·rw [hr,← hb,h];rfl
   ·rw [hr,← hb,h];rfl
   ·cases h
   ·exact absurd h (by decide)
   ·exact absurd h (by decide)
   ·exact absurd h (by decide)
   ·exact absurd h (by decide)))
  clear HS HC HR
  have hall:∀ B0:Bool,B0=(decide ((text.size:Int) < 1)||decide (20 < (text.size:Int)))→(B0=true→textOk text=false)∧(B0=false→0 < text.size∧text.size≤20):=by
   intro B0 hB
   subst hB
   constructor
   ·intro h;unfold textOk;simp at h;rcases h with h | h <;> simp <;> omega
   ·intro h;simp at h;omega
  go_upto_region 8 with fail
  go_cut [3] (fun s3 wx=>(∃ B0:Bool,s3=.bool B0∧(B0=true→textOk text=false)∧(B0=false→0 < text.size∧text.size≤20))∧wx=w.alloc (.cells #[.int .i64 1,.int .i64 by_,.int .i64 no,.int .i64 seen,.int .i64 at_,.int .i64 0,.string text] 122))
  case first=>
   by_cases hs1:text.size < 1
   ·have hh:=(hall true (by simp;omega)).1
    go_wp2
    go_meet
    exact ⟨⟨true,rfl,fun _=>hh trivial,fun h=>by cases h⟩,rfl⟩
   ·have hd1:decide ((text.size:Int) < 1)=false:=by simp;omega
    by_cases hs2:20 < text.size
    ·have hd2:decide (20 < (text.size:Int))=true:=by simp;omega
     have hh:=(hall true (by rw [hd1,hd2];rfl)).1
     go_wp2
     go_meet
     exact ⟨⟨true,rfl,fun _=>hh trivial,fun h=>by cases h⟩,rfl⟩
    ·have hd2:decide (20 < (text.size:Int))=false:=by simp;omega
     have hh:=(hall false (by rw [hd1,hd2];rfl)).2
     go_wp2
     go_meet
     exact ⟨⟨false,rfl,fun h=>(by cases h),fun _=>hh trivial⟩,rfl⟩
  case rest=>
   obtain ⟨⟨B0,rfl,hbA,hbB⟩,rfl⟩:=hcut
   have HBA:=Lib.hid hbA;have HBB:=Lib.hid hbB
   clear hall hbA hbB
   go_wp2
   clear htm
   go_loop [3,4] (fun s3 s4=>BadRel text s3 s4) (fun s3 s4=>text.size - (intOf s4).toNat)
   case atStart=>exact ⟨0,B0,Nat.zero_le _,rfl,rfl,HBA,HBB,Lib.hid (.inl rfl)⟩
   case round=>
    obtain ⟨k,B,hk,rfl,rfl,HA,HBb,HE⟩:=hrel
    cases B
    case true=>
     have Hf:=Lib.hid (HTX.out false (HA.out rfl))
     clear HE HA
     go_wp2
     all_goals
      go_ret
      exact ⟨by rw [Hf.out];rfl,HB.out⟩
    case false=>
     have hq20:text.size≤20:=(HBb.out rfl).2
     have HE1:=Lib.hid (show ((bytesOf text).take k).all (fun x=>!badByte x)=true from HE.out.resolve_right (by simp))
     by_cases hlt:k < text.size
     ·have HS:=Lib.hid (all_snoc text k hlt)
      have HN:=Lib.hid (all_no text k hlt)
      have hltB:decide ((k:Int) < text.size)=true:=by simp;omega
      by_cases h1:(text[k].toNat:Int) < 32
      ·have HN2:=Lib.hid (HN.out (by simp [badByte,h1]))
       clear HS HN HE HE1 HA
       go_wp2
       exact ⟨by unfold BadRel;exact ⟨k+1,true,by omega,by go_num,rfl,Lib.hid (fun _=>HN2.out),Lib.hid (fun h=>by cases h),Lib.hid (.inr rfl)⟩,by simp [intOf];omega⟩
      ·by_cases h2:126 < (text[k].toNat:Int)
       ·have HN2:=Lib.hid (HN.out (by simp [badByte,h2]))
        have h1B:decide ((text[k].toNat:Int) < 32)=false:=by simpa using h1
        have h2B:decide (126 < (text[k].toNat:Int))=true:=by simpa using h2
        clear HS HN HE HE1 HA
        go_wp2
        exact ⟨by unfold BadRel;exact ⟨k+1,true,by omega,by go_num,by first | rfl | simp [h2],Lib.hid (fun _=>HN2.out),Lib.hid (fun h=>by cases h),Lib.hid (.inr rfl)⟩,by simp [intOf];omega⟩
       ·have HS2:=Lib.hid (show ((bytesOf text).take (k+1)).all (fun x=>!badByte x)=true by rw [HS.out,HE1.out];simp [badByte,h1,h2])
        have h2B:decide (126 < (text[k].toNat:Int))=false:=by simpa using h2
        have h1B:decide ((text[k].toNat:Int) < 32)=false:=by simpa using h1
        clear HS HN HE HE1
        go_wp2
        exact ⟨by unfold BadRel;exact ⟨k+1,false,by omega,by go_num,by first | rfl | simp [h2],HA,HBb,Lib.hid (.inl HS2.out)⟩,by simp [intOf];omega⟩
     ·have hltB:decide ((k:Int) < text.size)=false:=by simp;omega
      have hok:textOk text=true:=by
       obtain ⟨q1,q2⟩:=HBb.out rfl
       have:=HE1.out
       rw [List.take_of_length_le (by rw [bytesOf_length];omega)] at this
       unfold textOk;rw [this];simp;omega
      have Hf:=Lib.hid (HTX.out true hok)
      clear hok HE HE1 HA
      go_wp2
      go_ret
      exact ⟨by rw [Hf.out];rfl,HB.out⟩
 ·go_enter Tryz.func108,Tryz.ntmps108
  go_upto_region 3 with fail
  go_cut [46] (fun s46 wx=>s46=.bool R∧wx=w.alloc (.cells #[.int .i64 2,.int .i64 by_,.int .i64 no,.int .i64 seen,.int .i64 at_,.int .i64 many,.string text] 122))
  case first=>
   rcases HR.out with ⟨hx,h⟩ | ⟨hx,h,h1⟩ | ⟨hx,h,h1,h2⟩ | ⟨hx,h,h1,h2,h3⟩ | ⟨hx,h,h1,h2,h3,h4⟩ | ⟨hx,h,h1,h2,h3,h4,h5⟩ | ⟨hx,h,h1,h2,h3,h4,h5,h6⟩ | ⟨hx,h,h1,h2,h3,h4,h5,h6⟩
   all_goals
    have HX:=Lib.hid hx;clear hx
    go_wp2_with (go_at_call 62;refine (IsWriter_c _ _).mono ?_;rintro e w' ⟨rfl,rfl⟩)
    go_meet
    exact ⟨by (try rw [HX.out]);first | done | rfl | (congr 1;simp;omega),rfl⟩
  case rest=>
  obtain ⟨rfl,rfl⟩:=hcut
  cases R
  case true=>
   have Hf:=Lib.hid (show deedFault _=1 from HS.out)
   clear HS HC HR
   go_wp2
   go_ret
   exact ⟨by rw [Hf.out];rfl,HB.out⟩
  case false=>
  rcases HC.out with ⟨hr,k1,k2,k3⟩ | ⟨hr,k1,k2,k3⟩ | ⟨hr,k1,k2⟩ | ⟨hr,k1,k2⟩ | ⟨hr,k1,k2,k3⟩ | ⟨hr,k1,k2,k3,k4⟩ | ⟨hr,k1,k2,k3,k4⟩
  all_goals first | exact absurd k1 (by decide) | skip
  all_goals
   have Hf:=Lib.hid (show deedFault _=_ from (show _=_ from HS.out).trans hr)
   clear HS HC HR hr k1
   try (have z1:text.toList=[]:=toList_nil (by assumption))
   try (have z2:¬ text.toList=[]:=toList_ne (by assumption))
   try (have z3:(!text.toList.isEmpty)=true:=toList_ne' (by assumption))
   go_wp2
   go_ret
   exact ⟨by rw [Hf.out];rfl,HB.out⟩
end Go.Proofs.YtneoeokfffnonaaGreatDoor
namespace Go.Proofs.YtneoeokfffnonaaGreatDoor
open Go.RowKit
set_option maxHeartbeats 1000000 in
theorem MayDo_c (a:Option Addr) (cap:Nat) (l:List Ch) (d:Dd) (w:World) (hs:SlCh w a cap l) (hsz:l.length≤140737488355328) (ht:d.Text.size≤maxLen) (hG:∀ c∈l,i64ok c.Gone) :
 Calls Tryz.prog 146 #[.slice a l.length cap,.agg #[.int .i64 d.Kind,.int .i64 d.By,.int .i64 d.No,.int .i64 d.Seen,.int .i64 d.At,.int .i64 d.Many,.string d.Text]] w fun e w'=>e=.returned (.int .i64 (mayDo l d))∧Below w.heap.size w w':=by
 have hb0:=(Below.refl w.heap.size w).alloc (Nat.le_refl _) (.cells #[.int .i64 d.Kind,.int .i64 d.By,.int .i64 d.No,.int .i64 d.Seen,.int .i64 d.At,.int .i64 d.Many,.string d.Text] 122)
 have hd0:=DdAt.new w d
 have hs0:=hs.below hb0
 have hv:=vis_le d.Seen d.By l
 have HTI:=Lib.hid ht
 have HG:=Lib.hid hG
 clear hs ht hG
 go_enter Tryz.func146,Tryz.ntmps146
 go_upto_region 1 with fail
 generalize hw0:w.alloc (.cells #[.int .i64 d.Kind,.int .i64 d.By,.int .i64 d.No,.int .i64 d.Seen,.int .i64 d.At,.int .i64 d.Many,.string d.Text] 122)=w0 at *
 clear hw0
 obtain ⟨dlt,d0,d1,d2,d3,d4,d5,d6⟩:=hd0
 have hd0:DdAt w0 w.heap.size d:=⟨dlt,d0,d1,d2,d3,d4,d5,d6⟩
 go_wp2_with fail
 refine (DeedFault_c d _ HTI.out).mono ?_
 rintro e w1 ⟨rfl,hb1⟩
 have hd1:=hd0.later hb1
 have hx1:=hb0.trans (hb1.mono hb0.size)
 have hs1:=hs0.below hb1
 clear hb1 hd0 d0 d1 d2 d3 d4 d5 d6 dlt hs0 hb0 HTI
 by_cases hf:deedFault d=0
 case neg=>
  have Hf:=Lib.hid (show mayDo l d=deedFault d by unfold mayDo;rw [if_neg hf])
  have hne:(deedFault d !=0)=true:=by simpa using hf
  clear hf
  go_wp2
  go_ret
  exact ⟨by rw [Hf.out];rfl,hx1⟩
 have Hf:=Lib.hid (show mayDo l d=if ((vis d.Seen d.By l).length:Int) < d.At+d.Many then 1 else if 200 < l.length+d.Text.size then 9 else 0 by unfold mayDo;rw [if_pos hf])
 rw [hf]
 have hz:=deedFault_zero hf
 obtain ⟨_,_,_,_,hse,hat,hat2,hq⟩:=hz
 have htx:d.Text.size≤20:=by
  rcases hq with ⟨_,_,h⟩ | ⟨_,_,_,h⟩
  ·unfold textOk at h;simp only [Bool.and_eq_true,decide_eq_true_eq] at h;exact h.1.2
  ·omega
 have hmany:0≤d.Many∧d.Many≤200:=by
  rcases hq with ⟨_,h,_⟩ | ⟨_,h1,h2,_⟩ <;> omega
 obtain ⟨hm1,hm2⟩:=hmany
 obtain ⟨N,hN⟩:∃ N,N=(vis d.Seen d.By l).length:=⟨_,rfl⟩
 rw [← hN] at hv Hf
 obtain ⟨S,hSz,hC⟩:∃ S:ByteArray,S.size=N∧∀ w,SlCh w a cap l→Calls Tryz.prog 63 #[.slice a l.length cap,.int .i64 d.Seen,.int .i64 d.By] w fun e w'=>e=.returned (.string S)∧Below w.heap.size w w':=
  ⟨strOfNums (viewN d.Seen d.By l),by rw [strOfNums_size,viewN_length,hN],fun w hs=>ViewOf_c a cap l _ _ w hs HG.out⟩
 have HC:=Lib.hid hC
 clear hf hN hC hq
 obtain ⟨dl,d0,d1,d2,d3,d4,d5,d6⟩:=hd1
 have hd1:DdAt w1 w.heap.size d:=⟨dl,d0,d1,d2,d3,d4,d5,d6⟩
 go_wp2_with fail
 refine (HC.out _ hs1).mono ?_
 rintro e w2 ⟨rfl,hb2⟩
 have HX:=Lib.hid (hx1.trans (hb2.mono hx1.size))
 have hd2:=hd1.later hb2
 clear hb2 hd1 dl d0 d1 d2 d3 d4 d5 d6 hs1 hx1 HC HG
 obtain ⟨B,hB1,hB2⟩:∃ B:Bool,decide ((200:Int) < (l.length:Int)+(d.Text.size:Int))=B∧(if 200 < l.length+d.Text.size then (9:Int) else 0)=if B then 9 else 0:=by
  by_cases h:200 < l.length+d.Text.size
  ·exact ⟨true,by simp;omega,by rw [if_pos h];rfl⟩
  ·exact ⟨false,by simp;omega,by rw [if_neg h];rfl⟩
 have HB2:=Lib.hid hB2;clear hB2
 have hsum:IntKind.i64.wrap (d.At+d.Many)=d.At+d.Many:=by rw [IntKind.wrap_i64];omega
 obtain ⟨dl,d0,d1,d2,d3,d4,d5,d6⟩:=hd2
 by_cases h1:(N:Int) < d.At
 ·have Hf2:=Lib.hid (show mayDo l d=1 by rw [Hf.out,if_pos (by omega)])
  clear Hf hB1 HB2
  go_wp2
  go_ret
  exact ⟨by rw [Hf2.out];rfl,HX.out⟩
 ·have h1B:decide ((N:Int) < d.At)=false:=by simpa using h1
  by_cases h2:(N:Int) < d.At+d.Many
  ·have Hf2:=Lib.hid (show mayDo l d=1 by rw [Hf.out,if_pos h2])
   have h2B:decide ((N:Int) < d.At+d.Many)=true:=by simpa using h2
   clear Hf hB1 HB2
   go_wp2
   go_ret
   exact ⟨by rw [Hf2.out];rfl,HX.out⟩
  ·have Hf2:=Lib.hid (show mayDo l d=if B then 9 else 0 by rw [Hf.out,if_neg h2,HB2.out])
   have h2B:decide ((N:Int) < d.At+d.Many)=false:=by simpa using h2
   clear Hf HB2
   cases B
   all_goals
    go_wp2
    go_ret
    exact ⟨by rw [Hf2.out];rfl,HX.out⟩
theorem RDo_no (a:Option Addr) (cap:Nat) (l:List Ch) (d:Dd) (number:Int) (w:World) (hs:SlCh w a cap l) (hsz:l.length≤140737488355328) (ht:d.Text.size≤maxLen) (hG:∀ c∈l,i64ok c.Gone) (h:mayDo l d≠0∨number < 1) :
 Calls Tryz.prog 107 #[.slice a l.length cap,.agg #[.int .i64 d.Kind,.int .i64 d.By,.int .i64 d.No,.int .i64 d.Seen,.int .i64 d.At,.int .i64 d.Many,.string d.Text],.int .i64 number] w fun e w'=>e=.returned (.tuple #[.slice none 0 0,.int .i64 (doF l d number).2])∧Below w.heap.size w w':=by
 have hb0:=(Below.refl w.heap.size w).alloc (Nat.le_refl _) (.cells #[.int .i64 d.Kind,.int .i64 d.By,.int .i64 d.No,.int .i64 d.Seen,.int .i64 d.At,.int .i64 d.Many,.string d.Text] 122)
 have hd0:=DdAt.new w d
 have hs0:=hs.below hb0
 have HTI:=Lib.hid ht
 have HG:=Lib.hid hG
 clear hs ht hG
 by_cases hmay:mayDo l d=0
 ·have hn:number < 1:=by rcases h with h | h;exact absurd hmay h;exact h
  have Hf:=Lib.hid (show (doF l d number).2=1 by unfold doF;rw [if_pos hmay,if_pos hn])
  have HM:=Lib.hid hmay
  clear hmay h
  go_enter Tryz.func107,Tryz.ntmps107
  go_upto_region 1 with fail
  generalize hw0:w.alloc (.cells #[.int .i64 d.Kind,.int .i64 d.By,.int .i64 d.No,.int .i64 d.Seen,.int .i64 d.At,.int .i64 d.Many,.string d.Text] 122)=w0 at *
  clear hw0
  obtain ⟨dlt,d0,d1,d2,d3,d4,d5,d6⟩:=hd0
  go_wp2_with fail
  refine (MayDo_c a cap l d _ hs0 hsz HTI.out HG.out).mono ?_
  rintro e w1 ⟨rfl,hb1⟩
  rw [HM.out]
  have hx1:=hb0.trans (hb1.mono hb0.size)
  go_wp2
  go_ret2
  exact ⟨by rw [Hf.out];rfl,hx1⟩
 ·have Hf:=Lib.hid (show (doF l d number).2=mayDo l d by unfold doF;rw [if_neg hmay])
  have hne:(mayDo l d !=0)=true:=by simpa using hmay
  clear hmay h
  go_enter Tryz.func107,Tryz.ntmps107
  go_upto_region 1 with fail
  generalize hw0:w.alloc (.cells #[.int .i64 d.Kind,.int .i64 d.By,.int .i64 d.No,.int .i64 d.Seen,.int .i64 d.At,.int .i64 d.Many,.string d.Text] 122)=w0 at *
  clear hw0
  obtain ⟨dlt,d0,d1,d2,d3,d4,d5,d6⟩:=hd0
  go_wp2_with fail
  refine (MayDo_c a cap l d _ hs0 hsz HTI.out HG.out).mono ?_
  rintro e w1 ⟨rfl,hb1⟩
  have hx1:=hb0.trans (hb1.mono hb0.size)
  go_wp2
  go_ret2
  exact ⟨by rw [Hf.out];rfl,hx1⟩
end Go.Proofs.YtneoeokfffnonaaGreatDoor
namespace Go.Proofs.YtneoeokfffnonaaGreatDoor
open Go.RowKit
set_option maxRecDepth 100000 in
set_option maxHeartbeats 2000000 in
theorem RDo_put (a:Option Addr) (cap:Nat) (l:List Ch) (d:Dd) (number:Int) (w:World) (hs:SlCh w a cap l) (hnil:a=none→cap=0) (hG:∀ c∈l,i64ok c.Gone) (hmay:mayDo l d=0) (hn:1≤number) (hk:d.Kind=1) :
 Calls Tryz.prog 107 #[.slice a l.length cap,.agg #[.int .i64 d.Kind,.int .i64 d.By,.int .i64 d.No,.int .i64 d.Seen,.int .i64 d.At,.int .i64 d.Many,.string d.Text],.int .i64 number] w fun e w'=>∃ a' cap',e=.returned (.tuple #[.slice a' (doF l d number).1.length cap',.int .i64 (doF l d number).2])∧
  OwnRow w' w.heap.size 125 7 a' (doF l d number).1.length cap' (flat (doF l d number).1)∧Below w.heap.size w w':=by
 obtain ⟨hf,hcnt,hlen⟩:=mayDo_zero hmay
 obtain ⟨_,_,_,_,hse,hat,hat2,hq⟩:=deedFault_zero hf
 have hm0:d.Many=0:=by rcases hq with ⟨_,h,_⟩ | ⟨h,_⟩ <;> omega
 have hput:=putAt_le l d
 have hres:doF l d number=(l.take (putAt l d)++newOf d number++l.drop (putAt l d),0):=by
  rcases doF_cases l d number with ⟨h1,e⟩ | ⟨_,hn,e⟩ | ⟨h1,hn,hk,e⟩ | ⟨h1,hn,hk2,e⟩
  ·exact absurd hmay h1
  ·omega
  ·exact e
  ·omega
 have hrl:(l.take (putAt l d)++newOf d number++l.drop (putAt l d)).length=l.length+(newOf d number).length:=by
  simp only [List.length_append,List.length_take,List.length_drop];omega
 have hnl:=newOf_length d number
 obtain ⟨b,hbe,hbl⟩:=behind_nonneg d.Seen d.By l d.At hat (by omega)
 have HPB:=Lib.hid (show putAt l d=skip d.By l b by unfold putAt;rw [hbe];rfl)
 have HBH:=Lib.hid (fun (W:World) (h:SlCh W a cap l)=>show Calls Tryz.prog 147 #[.slice a l.length cap,.int .i64 d.Seen,.int .i64 d.By,.int .i64 d.At] W fun e w'=>e=.returned (.int .i64 (b:Int))∧Below W.heap.size W w' by
  rw [← hbe];exact BehindOf_c a cap l _ _ _ W h hG)
 have hb0:=(Below.refl w.heap.size w).alloc (Nat.le_refl _) (.cells #[.int .i64 d.Kind,.int .i64 d.By,.int .i64 d.No,.int .i64 d.Seen,.int .i64 d.At,.int .i64 d.Many,.string d.Text] 122)
 have hd0:=DdAt.new w d
 have hs0:=hs.below hb0
 have hkB:(d.Kind==1)=true:=by rw [hk];rfl
 have HR:=Lib.hid hres;have HRL:=Lib.hid hrl;have HM:=Lib.hid hmay;have HG:=Lib.hid hG;have HNL:=Lib.hid hnil
 have HW:=Lib.hid (fun (W:World)=>show Calls Tryz.prog 148 #[.agg #[.int .i64 d.Kind,.int .i64 d.By,.int .i64 d.No,.int .i64 d.Seen,.int .i64 d.At,.int .i64 d.Many,.string d.Text],.int .i64 number] W fun e w'=>∃ a' cap',e=.returned (.slice a' (newOf d number).length cap')∧
  OwnRow w' W.heap.size 125 7 a' (newOf d number).length cap' (flat (newOf d number))∧Below W.heap.size W w' from BytesOf_c d number W (by omega))
 have hNS:(newOf d number).length≤200:=by omega
 have HTI:=Lib.hid (show d.Text.size≤maxLen by unfold maxLen;omega)
 clear hs hres hrl hmay hcnt hf hnil hse hat hat2 hq hm0 hnl hk hG hbe
 generalize newOf d number=NW at *
 generalize hat' : putAt l d=at' at *
 clear hat'
 go_enter Tryz.func107,Tryz.ntmps107
 go_upto_region 1 with fail
 generalize hw0:w.alloc (.cells #[.int .i64 d.Kind,.int .i64 d.By,.int .i64 d.No,.int .i64 d.Seen,.int .i64 d.At,.int .i64 d.Many,.string d.Text] 122)=w0 at *
 clear hw0
 obtain ⟨dlt,d0,d1,d2,d3,d4,d5,d6⟩:=hd0
 have hd0:DdAt w0 w.heap.size d:=⟨dlt,d0,d1,d2,d3,d4,d5,d6⟩
 go_wp2_with fail
 refine (MayDo_c a cap l d _ hs0 (by omega) HTI.out HG.out).mono ?_
 rintro e w1 ⟨rfl,hb1⟩
 rw [HM.out]
 have hd1:=hd0.later hb1
 have hx1:=hb0.trans (hb1.mono hb0.size)
 have hs1:=hs0.below hb1
 have hlt1:w.heap.size < w1.heap.size:=Nat.lt_of_lt_of_le dlt hb1.size
 clear hb1 hd0 d0 d1 d2 d3 d4 d5 d6 dlt hs0 hb0 HM HG HTI
 obtain ⟨dl,d0,d1,d2,d3,d4,d5,d6⟩:=hd1
 have hd1:DdAt w1 w.heap.size d:=⟨dl,d0,d1,d2,d3,d4,d5,d6⟩
 go_wp2_with fail
 refine (HBH.out _ hs1).mono ?_
 rintro e w2 ⟨rfl,hb2⟩
 have HD2:=Lib.hid (hd1.later hb2)
 have hs2:=hs1.below hb2
 have hx2:=hx1.trans (hb2.mono hx1.size)
 have hlt2:w.heap.size < w2.heap.size:=Nat.lt_of_lt_of_le hlt1 hb2.size
 clear hb2 hd1 d0 d1 d2 d3 d4 d5 d6 dl hs1 hx1 HBH hlt1
 have hlc:=hs2.1
 go_wp2
 go_loopw [10] (fun s10 wr=>∃ k:Nat,k≤l.length∧s10=.int .i64 k∧Hid (skip d.By l k=skip d.By l b)∧Below w2.heap.size w2 wr) (fun s10 _=>l.length - (intOf s10).toNat)
 case atStart=>exact ⟨b,hbl,rfl,Lib.hid rfl,Below.refl _ _⟩
 case round=>
  obtain ⟨k,hk,rfl,HS,hb⟩:=hrel
  obtain ⟨dl,d0,d1,d2,d3,d4,d5,d6⟩:=HD2.out.later hb
  have HX:=Lib.hid (hx2.trans (hb.mono hx2.size))
  have HSr:=Lib.hid (hs2.below hb)
  have HDr:=Lib.hid (HD2.out.later hb)
  clear d0 d2 d3 d4 d5 d6
  have hk0:(0:Int)≤(k:Int):=by omega
  have HLast:=Lib.hid (fun (h:∀ h1:k < l.length,openOther d.By l[k]=false)=>show k=at' from by
   rw [HPB.out,← HS.out]
   rcases Nat.lt_or_ge k l.length with h1 | h1
   ·rw [skip_step _ _ _ h1,if_neg]
    rw [h h1];simp
   ·rw [skip_end _ _ _ h1])
  go_upto_region 9 with fail
  go_cut [56] (fun s56 wx=>(∃ B:Bool,s56=.bool B∧(B=true→k < l.length∧skip d.By l (k+1)=skip d.By l b)∧(B=false→k=at'))∧Below wr.heap.size wr wx)
  case first=>
   have HBr:=Lib.hid (fun n=>bl_drewN (Below.refl wr.heap.size wr) n)
   by_cases hlt:k < l.length
   ·obtain ⟨bb,off,rfl,hc⟩:=HSr.out.nth hlt
    obtain ⟨q0,q1,q2,q3,q4,q5,q6⟩:=hc
    clear q0 q2 q3 q5 q6
    have HK:=Lib.hid (skip_step d.By l k hlt)
    have HLT:=Lib.hid hlt
    have hlt' : (k:Int) < l.length:=by omega
    have hltB:decide ((k:Int) < (l.length:Int))=true:=by simp;omega
    have HL2:=Lib.hid (fun (h:openOther d.By l[k]=false)=>HLast.out (fun _=>h))
    have HS2:=Lib.hid (fun (h:openOther d.By l[k]=true)=>show skip d.By l (k+1)=skip d.By l b from (HK.out.trans (if_pos h)).symm.trans HS.out)
    clear HK HLast
    generalize l[k]=x at *
    cases h1:(x.In==1073741824)
    ·have HE:=Lib.hid (HL2.out (by unfold openOther;rw [h1];rfl))
     clear HL2 HS2
     go_quiet (fail)
     go_wp2
     go_meet
     exact ⟨⟨false,rfl,fun h=>(by cases h),fun _=>HE.out⟩,HBr.out _⟩
    ·have HE:=Lib.hid (fun (h:(x.By !=d.By)=false)=>HL2.out (by unfold openOther;rw [h1,h];rfl))
     have HE2:=Lib.hid (fun (h:(x.By !=d.By)=true)=>HS2.out (by unfold openOther;rw [h1,h];rfl))
     clear HL2 HS2
     go_quiet (fail)
     go_wp2
     go_meet
     exact ⟨⟨x.By !=d.By,rfl,fun h=>⟨HLT.out,HE2.out h⟩,fun h=>HE.out h⟩,HBr.out _⟩
   ·have hltB:decide ((k:Int) < (l.length:Int))=false:=by simp;omega
    have hltN:decide (k < l.length)=false:=by simp;omega
    have HE:=Lib.hid (HLast.out (fun h=>absurd h hlt))
    clear HLast hlt
    go_quiet (fail)
    go_wp2
    go_meet
    exact ⟨⟨false,rfl,fun h=>(by cases h),fun _=>HE.out⟩,HBr.out _⟩
  case rest=>
   obtain ⟨⟨B,rfl,hBt,hBf⟩,hbx⟩:=hcut
   have hbr:=hb.trans (hbx.mono hb.size)
   cases B
   case true=>
    obtain ⟨h1,h2⟩:=hBt rfl
    clear hBt hBf d1
    go_wp2
    exact ⟨⟨k+1,by omega,by go_num,Lib.hid h2,hbr⟩,by simp [intOf];omega⟩
   case false=>
    obtain rfl:=hBf rfl
    clear hBt hBf d1 HLast hb
    have HSx:=Lib.hid (hs2.below hbr)
    have HDx:=Lib.hid (HD2.out.later hbr)
    go_upto_region 11 with fail
    have hkl:=hk
    have hbW:=hx2.trans (hbr.mono hx2.size)
    have hsz:=hbW.size
    obtain ⟨dl,d0,d1,d2,d3,d4,d5,d6⟩:=HDx.out
    have hcap:=HSx.out.1
    have hkc:(k:Int)≤(cap:Int):=by omega
    have HNB:=Lib.hid hNS
    cases a with
    | none=>
     have HCK:=Lib.hid (show cap=k from by have:cap=0:=HNL.out rfl;omega)
     have HXC:=Lib.hid (show k=0∨∃ ad',(none:Option Addr)=some ad'∧∀ j u,(flat (l.take k))[j]? = some u→wc.drew.cell? (ad'.add j)=some u from by
      rcases HSx.out.take_cells k with h | h | ⟨x,hx,hc⟩
      ·exact .inl h
      ·exact .inl (by omega)
      ·exact .inr ⟨x,hx,hc⟩)
     have hfl:(flat (l.take k)).length=k * 7:=by rw [flat_length,List.length_take];congr 1;omega
     have HFL:=Lib.hid hfl
     clear hfl hNS
     have HSV:=Lib.hid (show ∀ W,Below wc.heap.size wc W→DdAt W w.heap.size d from fun W hW=>HDx.out.later hW)
     have HWC:=Lib.hid (Below.refl wc.heap.size wc)
     go_region_held3 (fun w'=>(w'.cell? ⟨w.heap.size,0,none⟩=some (.int .i64 d.Kind)∧w'.cell? ⟨w.heap.size,1,none⟩=some (.int .i64 d.By)∧w'.cell? ⟨w.heap.size,2,none⟩=some (.int .i64 d.No)∧w'.cell? ⟨w.heap.size,3,none⟩=some (.int .i64 d.Seen)∧w'.cell? ⟨w.heap.size,4,none⟩=some (.int .i64 d.At)∧w'.cell? ⟨w.heap.size,5,none⟩=some (.int .i64 d.Many)∧w'.cell? ⟨w.heap.size,6,none⟩=some (.string d.Text)))
      (first
        | go_keep
        | exact ⟨d0,d1,d2,d3,d4,d5,d6⟩
        | (refine ⟨(HSV.out _ ?_).c0,(HSV.out _ ?_).c1,(HSV.out _ ?_).c2,(HSV.out _ ?_).c3,(HSV.out _ ?_).c4,(HSV.out _ ?_).c5,(HSV.out _ ?_).c6⟩ <;> assumption))
      ((first
        | (refine step_append_row wc.drew rfl _ _ 91 rfl wc.heap.size 125 7 56 Tryz.underlying91 ti_Char none 0 0 [] rfl (OwnRow.nil _ _ _ _ _) none k cap (flat (l.take k)) rfl HFL.out HXC.out (flat_one _) (by omega) (Nat.le_refl _) ?_
           intro a3 cap3 w3 hown3 hg3
           have hl3:Below wc.heap.size wc w3:=(bl_drewN (Below.refl wc.heap.size wc) 1).trans (below_grownBy hg3 (Nat.le_refl _) (fun k hk=>by simp [ownB] at hk))
           have hown3:OwnRow w3 wc.heap.size 125 7 a3 k cap3 (flat (l.take k)):=by simpa using hown3)
        | (go_at_call 148;refine (HW.out _).mono ?_;rintro e w4 ⟨a4,cap4,rfl,ho4,hb4⟩
           have hl4:Below wc.heap.size wc w4:=hl3.trans (hb4.mono hl3.size)
           have ho3:=hown3.below hb4)
        | (refine step_append_row w4 rfl _ _ 91 rfl wc.heap.size 125 7 56 Tryz.underlying91 ti_Char a3 k cap3 (flat (l.take k)) rfl ho3 a4 NW.length cap4 (flat NW) rfl (flat_length _) (by
            rcases ho4.slCh.take_cells NW.length with h | h | ⟨x,hx,hc⟩
            ·exact .inl h
            ·exact .inl h
            ·exact .inr ⟨x,hx,by rw [List.take_length] at hc;exact hc⟩) (flat_one _) (by have:=HNB.out;omega) hl4.size ?_
           intro a5 cap5 w5 ho5 hg5
           have hl5:Below wc.heap.size wc w5:=hl4.trans (below_grownBy hg5 hl4.size (fun k hk=>(ho3.base_le k hk).1)))))
     have HO5:=Lib.hid ho5
     have HL5:=Lib.hid hl5
     clear ho5 hl5 hg5
     have hck:=HCK.out
     clear HCK
     subst hck
     have hlk:l.length - cap=0:=by omega
     go_wp2_with (at_builtin;refine wpList_append_row w5 rfl (.tmp 68) (.tmp 71) 91 rfl wc.heap.size 125 7 56 Tryz.underlying91 ti_Char a5 (cap+NW.length) cap5 _ rfl HO5.out none 0 0 [] rfl rfl (.inl rfl) (fun u hu=>by cases hu) (by have:=HNB.out;omega) HL5.out.size ?_)
     intro a6 cap6 w6 ho6 hg6
     intros
     have hl6:=HL5.out.trans (below_grownBy hg6 HL5.out.size (fun j hj=>(HO5.out.base_le j hj).1))
     have HX6:=Lib.hid (hbW.trans (hl6.mono hbW.size))
     have HO6:=Lib.hid ho6
     clear ho6 hg6 hl6
     go_wp2
     go_ret2
     refine ⟨a6,cap6,?_,?_,HX6.out⟩
     ·rw [HR.out]
      simp only
      rw [HRL.out,show l.length+NW.length=cap+NW.length by omega]
      rfl
     ·rw [HR.out]
      simp only
      rw [HRL.out,show l.length+NW.length=cap+NW.length by omega,flat_append,flat_append]
      have:=HO6.out.mono (base':=w.heap.size) hsz
      rw [List.drop_of_length_le (by omega)]
      simpa [flat] using this
    | some ad=>
     have HXC:=Lib.hid (show k=0∨∃ ad',(some ad:Option Addr)=some ad'∧∀ j u,(flat (l.take k))[j]? = some u→wc.drew.cell? (ad'.add j)=some u from by
      rcases HSx.out.take_cells k with h | h | ⟨x,hx,hc⟩
      ·exact .inl h
      ·exact .inl (by omega)
      ·exact .inr ⟨x,hx,hc⟩)
     have hfl:(flat (l.take k)).length=k * 7:=by rw [flat_length,List.length_take];congr 1;omega
     have HFL:=Lib.hid hfl
     clear hfl hNS
     have HSV:=Lib.hid (show ∀ W,Below wc.heap.size wc W→DdAt W w.heap.size d from fun W hW=>HDx.out.later hW)
     have HWC:=Lib.hid (Below.refl wc.heap.size wc)
     go_region_held3 (fun w'=>(w'.cell? ⟨w.heap.size,0,none⟩=some (.int .i64 d.Kind)∧w'.cell? ⟨w.heap.size,1,none⟩=some (.int .i64 d.By)∧w'.cell? ⟨w.heap.size,2,none⟩=some (.int .i64 d.No)∧w'.cell? ⟨w.heap.size,3,none⟩=some (.int .i64 d.Seen)∧w'.cell? ⟨w.heap.size,4,none⟩=some (.int .i64 d.At)∧w'.cell? ⟨w.heap.size,5,none⟩=some (.int .i64 d.Many)∧w'.cell? ⟨w.heap.size,6,none⟩=some (.string d.Text)))
      (first
        | go_keep
        | exact ⟨d0,d1,d2,d3,d4,d5,d6⟩
        | (refine ⟨(HSV.out _ ?_).c0,(HSV.out _ ?_).c1,(HSV.out _ ?_).c2,(HSV.out _ ?_).c3,(HSV.out _ ?_).c4,(HSV.out _ ?_).c5,(HSV.out _ ?_).c6⟩ <;> assumption))
      ((first
        | (refine step_append_row wc.drew rfl _ _ 91 rfl wc.heap.size 125 7 56 Tryz.underlying91 ti_Char none 0 0 [] rfl (OwnRow.nil _ _ _ _ _) (some ad) k cap (flat (l.take k)) rfl HFL.out HXC.out (flat_one _) (by omega) (Nat.le_refl _) ?_
           intro a3 cap3 w3 hown3 hg3
           have hl3:Below wc.heap.size wc w3:=(bl_drewN (Below.refl wc.heap.size wc) 1).trans (below_grownBy hg3 (Nat.le_refl _) (fun k hk=>by simp [ownB] at hk))
           have hown3:OwnRow w3 wc.heap.size 125 7 a3 k cap3 (flat (l.take k)):=by simpa using hown3)
        | (go_at_call 148;refine (HW.out _).mono ?_;rintro e w4 ⟨a4,cap4,rfl,ho4,hb4⟩
           have hl4:Below wc.heap.size wc w4:=hl3.trans (hb4.mono hl3.size)
           have ho3:=hown3.below hb4)
        | (refine step_append_row w4 rfl _ _ 91 rfl wc.heap.size 125 7 56 Tryz.underlying91 ti_Char a3 k cap3 (flat (l.take k)) rfl ho3 a4 NW.length cap4 (flat NW) rfl (flat_length _) (by
            rcases ho4.slCh.take_cells NW.length with h | h | ⟨x,hx,hc⟩
            ·exact .inl h
            ·exact .inl h
            ·exact .inr ⟨x,hx,by rw [List.take_length] at hc;exact hc⟩) (flat_one _) (by have:=HNB.out;omega) hl4.size ?_
           intro a5 cap5 w5 ho5 hg5
           have hl5:Below wc.heap.size wc w5:=hl4.trans (below_grownBy hg5 hl4.size (fun k hk=>(ho3.base_le k hk).1)))))
     have HO5:=Lib.hid ho5
     have HL5:=Lib.hid hl5
     clear ho5 hl5 hg5
     have HDN:=Lib.hid (show ∀ (xa:Option Addr),(k < l.length→xa=some (ad.add (k * 7)))→l.length - k=0∨∃ ad',xa=some ad'∧∀ j u,(flat (l.drop k))[j]? = some u→w5.cell? (ad'.add j)=some u from fun xa hxa=>by
      rcases Nat.lt_or_ge k l.length with h | h
      ·right
       obtain ⟨bb,off,e,_⟩:=HSx.out.nth h
       cases e
       exact ⟨_,hxa h,by rw [Addr.add_lit];exact SlCh.drop_cells (HSx.out.below HL5.out) k⟩
      ·exact .inl (by omega))
     by_cases hck:cap=k
     ·subst hck
      have hlk:l.length - cap=0:=by omega
      go_wp2_with (at_builtin;refine wpList_append_row w5 rfl (.tmp 68) (.tmp 71) 91 rfl wc.heap.size 125 7 56 Tryz.underlying91 ti_Char a5 (cap+NW.length) cap5 _ rfl HO5.out (some ad) 0 0 [] rfl rfl (.inl rfl) (fun u hu=>by cases hu) (by have:=HNB.out;omega) HL5.out.size ?_)
      intro a6 cap6 w6 ho6 hg6
      intros
      have hl6:=HL5.out.trans (below_grownBy hg6 HL5.out.size (fun j hj=>(HO5.out.base_le j hj).1))
      have HX6:=Lib.hid (hbW.trans (hl6.mono hbW.size))
      have HO6:=Lib.hid ho6
      clear ho6 hg6 hl6
      go_wp2
      go_ret2
      refine ⟨a6,cap6,?_,?_,HX6.out⟩
      ·rw [HR.out]
       simp only
       rw [HRL.out,show l.length+NW.length=cap+NW.length by omega]
       rfl
      ·rw [HR.out]
       simp only
       rw [HRL.out,show l.length+NW.length=cap+NW.length by omega,flat_append,flat_append]
       have:=HO6.out.mono (base':=w.heap.size) hsz
       rw [List.drop_of_length_le (by omega)]
       simpa [flat] using this
     ·rcases Nat.eq_zero_or_pos l.length with hl0 | hl0
      ·obtain rfl:k=0:=by omega
       have hck2:(cap=0)=False:=by simpa using hck
       have HO5':=Lib.hid (show OwnRow w5 wc.heap.size 125 7 a5 NW.length cap5 (flat NW) from by simpa [flat] using HO5.out)
       go_wp2_with (at_builtin;(refine wpList_append_row w5 rfl (.tmp 68) (.tmp 71) 91 rfl wc.heap.size 125 7 56 Tryz.underlying91 ti_Char a5 (0+NW.length) cap5 _ rfl HO5.out _ _ _ [] rfl (by simp <;> omega) (.inl (by omega)) (fun u hu=>by cases hu) (by have:=HNB.out;omega) HL5.out.size ?_))
       intro a6 cap6 w6 ho6 hg6
       intros
       have hl6:=HL5.out.trans (below_grownBy hg6 HL5.out.size (fun j hj=>(HO5.out.base_le j hj).1))
       have HX6:=Lib.hid (hbW.trans (hl6.mono hbW.size))
       have HO6:=Lib.hid ho6
       clear ho6 hg6 hl6
       go_wp2
       go_ret2
       refine ⟨a6,cap6,?_,?_,HX6.out⟩
       ·rw [HR.out]
        simp only
        rw [HRL.out,show l.length+NW.length=NW.length+0 by omega]
        rfl
       ·rw [HR.out]
        simp only
        rw [HRL.out,show l.length+NW.length=NW.length+0 by omega,flat_append,flat_append]
        have:=HO6.out.mono (base':=w.heap.size) hsz
        rw [List.drop_of_length_le (by omega)]
        simpa [flat] using this
      ·obtain ⟨bb,off,rfl⟩:∃ bb off,ad=⟨bb,off,none⟩:=by
        obtain ⟨bb,off,e,_⟩:=HSx.out.nth hl0;cases e;exact ⟨_,_,rfl⟩
       have hck2:(cap=k)=False:=by simpa using hck
       go_wp2_with (at_builtin;refine wpList_append_row w5 rfl (.tmp 68) (.tmp 71) 91 rfl wc.heap.size 125 7 56 Tryz.underlying91 ti_Char a5 (k+NW.length) cap5 _ rfl HO5.out (some ⟨bb,off+k * 7,none⟩) (l.length - k) (cap - k) (flat (l.drop k)) rfl (by rw [flat_length,List.length_drop]) (HDN.out _ (fun h=>by rw [Addr.add_lit])) (flat_one _) (by have:=HNB.out;omega) HL5.out.size ?_)
       intro a6 cap6 w6 ho6 hg6
       intros
       have hl6:=HL5.out.trans (below_grownBy hg6 HL5.out.size (fun j hj=>(HO5.out.base_le j hj).1))
       have HX6:=Lib.hid (hbW.trans (hl6.mono hbW.size))
       have HO6:=Lib.hid ho6
       clear ho6 hg6 hl6
       go_wp2
       go_ret2
       refine ⟨a6,cap6,?_,?_,HX6.out⟩
       ·rw [HR.out]
        simp only
        rw [HRL.out,show l.length+NW.length=k+NW.length+(l.length - k) by omega]
        rfl
       ·rw [HR.out]
        simp only
        rw [HRL.out,show l.length+NW.length=k+NW.length+(l.length - k) by omega,flat_append,flat_append]
        have:=HO6.out.mono (base':=w.heap.size) hsz
        simpa using this
end Go.Proofs.YtneoeokfffnonaaGreatDoor
namespace Go.Proofs.YtneoeokfffnonaaGreatDoor
open Go.RowKit
theorem gone_addW (g b:Int) (hb:isWriter b=true) (h:took g b=false) (hg:i64ok g):IntKind.i64.wrap (g+bitOf b)=g+bitOf b:=by
 rw [IntKind.wrap_i64]
 unfold i64ok at hg
 rcases isWriter_cases hb with rfl | rfl | rfl | rfl
 ·rw [took_0] at h;simp [bitOf] at *;omega
 ·rw [took_1] at h;simp [bitOf] at *;omega
 ·rw [took_2] at h;simp [bitOf] at *;omega
 ·rw [took_3] at h;simp [bitOf] at *;omega
theorem ChAt.box (w:World) (x:Ch):ChAt (w.alloc (.cells #[.int .u8 x.C,.int .i64 x.By,.int .i64 x.No,.int .i64 x.K,.int .i64 x.In,.int .i64 x.Out,.int .i64 x.Gone] 125)) w.heap.size 0 x:=by
 refine ⟨?_,?_,?_,?_,?_,?_,?_⟩ <;> simp
theorem ChAt.setOut {w:World} {b:Nat} {x:Ch} (h:ChAt w b 0 x) (v:Int):ChAt (w.setCell ⟨b,5,none⟩ (.int .i64 v)) b 0 { x with Out:=v }:=by
 obtain ⟨h0,h1,h2,h3,h4,h5,h6⟩:=h
 refine ⟨?_,?_,?_,?_,?_,?_,?_⟩
 ·exact (World.cell?_setCell_other _ _ _ _ (by simp)).trans h0
 ·exact (World.cell?_setCell_other _ _ _ _ (by simp)).trans h1
 ·exact (World.cell?_setCell_other _ _ _ _ (by simp)).trans h2
 ·exact (World.cell?_setCell_other _ _ _ _ (by simp)).trans h3
 ·exact (World.cell?_setCell_other _ _ _ _ (by simp)).trans h4
 ·exact World.cell?_setCell_same _ _ _ h5
 ·exact (World.cell?_setCell_other _ _ _ _ (by simp)).trans h6
theorem ChAt.setGone {w:World} {b:Nat} {x:Ch} (h:ChAt w b 0 x) (v:Int):ChAt (w.setCell ⟨b,6,none⟩ (.int .i64 v)) b 0 { x with Gone:=v }:=by
 obtain ⟨h0,h1,h2,h3,h4,h5,h6⟩:=h
 refine ⟨?_,?_,?_,?_,?_,?_,?_⟩
 ·exact (World.cell?_setCell_other _ _ _ _ (by simp)).trans h0
 ·exact (World.cell?_setCell_other _ _ _ _ (by simp)).trans h1
 ·exact (World.cell?_setCell_other _ _ _ _ (by simp)).trans h2
 ·exact (World.cell?_setCell_other _ _ _ _ (by simp)).trans h3
 ·exact (World.cell?_setCell_other _ _ _ _ (by simp)).trans h4
 ·exact (World.cell?_setCell_other _ _ _ _ (by simp)).trans h5
 ·exact World.cell?_setCell_same _ _ _ h6
theorem tk_snoc (l:List Ch) (d:Dd) (number:Int) (i:Nat) (h:i < l.length) :
 (takeGo d.Seen d.By d.At (d.At+d.Many) number l 0).take (i+1)=(takeGo d.Seen d.By d.At (d.At+d.Many) number l 0).take i++
   [if l[i].sees d.Seen d.By=true∧d.At≤(cntTo l d i:Int)∧(cntTo l d i:Int) < d.At+d.Many then mark d.By number l[i] else l[i]]:=by
 rw [List.take_add_one,takeGo_get,List.getElem?_eq_getElem h]
 simp only [cntTo,Int.zero_add,Option.map_some,Option.toList_some]
 by_cases hh:l[i].sees d.Seen d.By=true∧d.At≤((vis d.Seen d.By (List.take i l)).length:Int)∧((vis d.Seen d.By (List.take i l)).length:Int) < d.At+d.Many
 ·rw [if_pos hh];exact congrArg (fun z=>_++[z]) (if_pos hh).symm
 ·rw [if_neg hh];exact congrArg (fun z=>_++[z]) (if_neg hh).symm
theorem tk_len (l:List Ch) (d:Dd) (number:Int) (i:Nat) (h:i≤l.length):((takeGo d.Seen d.By d.At (d.At+d.Many) number l 0).take i).length=i:=by
 rw [List.length_take,takeGo_length];omega
theorem bit_pow (b:Int) (hb:isWriter b=true):∃ n:Nat,b=n∧n≤3∧bitOf b=(2 ^ n:Nat):=by
 rcases isWriter_cases hb with rfl | rfl | rfl | rfl
 ·exact ⟨0,rfl,by omega,rfl⟩
 ·exact ⟨1,rfl,by omega,rfl⟩
 ·exact ⟨2,rfl,by omega,rfl⟩
 ·exact ⟨3,rfl,by omega,rfl⟩
set_option maxRecDepth 100000 in
set_option maxHeartbeats 1000000 in
theorem RDo_take (a:Option Addr) (cap:Nat) (l:List Ch) (d:Dd) (number:Int) (w:World) (hs:SlCh w a cap l) (hG:∀ c∈l,i64ok c.Gone) (hmay:mayDo l d=0) (hn:1≤number) (hk:d.Kind=2) :
 Calls Tryz.prog 107 #[.slice a l.length cap,.agg #[.int .i64 d.Kind,.int .i64 d.By,.int .i64 d.No,.int .i64 d.Seen,.int .i64 d.At,.int .i64 d.Many,.string d.Text],.int .i64 number] w fun e w'=>∃ a' cap',e=.returned (.tuple #[.slice a' (doF l d number).1.length cap',.int .i64 (doF l d number).2])∧
  OwnRow w' w.heap.size 125 7 a' (doF l d number).1.length cap' (flat (doF l d number).1)∧Below w.heap.size w w':=by
 obtain ⟨hf,hcnt,hlen⟩:=mayDo_zero hmay
 obtain ⟨hw,_,_,_,hse,hat,hat2,hq⟩:=deedFault_zero hf
 have hm0:1≤d.Many∧d.Many≤200:=by rcases hq with ⟨h,_⟩ | ⟨_,h1,h2,_⟩ <;> omega
 obtain ⟨hm1,hm2⟩:=hm0
 have hres:doF l d number=(takeGo d.Seen d.By d.At (d.At+d.Many) number l 0,0):=by
  rcases doF_cases l d number with ⟨h1,e⟩ | ⟨_,hn,e⟩ | ⟨h1,hn,hk,e⟩ | ⟨h1,hn,hk2,e⟩
  ·exact absurd hmay h1
  ·omega
  ·omega
  ·exact e
 have hkB:(d.Kind==1)=false:=by rw [hk];rfl
 have hll:l.length≤200:=by omega
 have HRL:=Lib.hid (takeGo_length d.Seen d.By d.At (d.At+d.Many) number l 0)
 have HST:=Lib.hid (fun i h=>tk_snoc l d number i h)
 have HTL:=Lib.hid (fun i h=>tk_len l d number i h)
 have hb0:=(Below.refl w.heap.size w).alloc (Nat.le_refl _) (.cells #[.int .i64 d.Kind,.int .i64 d.By,.int .i64 d.No,.int .i64 d.Seen,.int .i64 d.At,.int .i64 d.Many,.string d.Text] 122)
 have hd0:=DdAt.new w d
 have hs0:=hs.below hb0
 have HR:=Lib.hid hres;have HM:=Lib.hid hmay;have HG:=Lib.hid hG
 have HW:=Lib.hid hw
 obtain ⟨nb,hnb1,hnb2,hnb3⟩:=bit_pow d.By hw
 have HNB:=Lib.hid hnb1;have HNB3:=Lib.hid hnb3
 have HTX:=Lib.hid (show d.Text.size≤maxLen from by unfold maxLen;omega)
 clear hs hres hmay hcnt hf hse hq hG hw hlen hk hnb1 hnb3
 go_enter Tryz.func107,Tryz.ntmps107
 go_upto_region 1 with fail
 generalize hw0:w.alloc (.cells #[.int .i64 d.Kind,.int .i64 d.By,.int .i64 d.No,.int .i64 d.Seen,.int .i64 d.At,.int .i64 d.Many,.string d.Text] 122)=w0 at *
 clear hw0
 obtain ⟨dlt,d0,d1,d2,d3,d4,d5,d6⟩:=hd0
 have hd0:DdAt w0 w.heap.size d:=⟨dlt,d0,d1,d2,d3,d4,d5,d6⟩
 go_wp2_with fail
 refine (MayDo_c a cap l d _ hs0 (by omega) HTX.out HG.out).mono ?_
 rintro e w1 ⟨rfl,hb1⟩
 rw [HM.out]
 have hd1:=hd0.later hb1
 have hx1:=hb0.trans (hb1.mono hb0.size)
 have hs1:=hs0.below hb1
 clear hb1 hd0 d0 d1 d2 d3 d4 d5 d6 dlt hs0 hb0 HM
 obtain ⟨dl,d0,d1,d2,d3,d4,d5,d6⟩:=hd1
 have hd1:DdAt w1 w.heap.size d:=⟨dl,d0,d1,d2,d3,d4,d5,d6⟩
 go_wp2
 clear d0 d1 d2 d3 d4 d5 d6
 go_loopw [9,11,12] (fun s9 s11 s12 wr=>∃ (i:Nat) (a' : Option Addr) (cap' : Nat),i≤l.length∧s12=.int .i64 i∧s11=.int .i64 (cntTo l d i:Nat)∧s9=.slice a' i cap'∧
  OwnRow wr w1.heap.size 125 7 a' i cap' (flat ((takeGo d.Seen d.By d.At (d.At+d.Many) number l 0).take i))∧Below w1.heap.size w1 wr) (fun _ _ s12 _=>l.length - (intOf s12).toNat)
 case atStart=>exact ⟨0,none,0,Nat.zero_le _,rfl,rfl,rfl,OwnRow.nil _ _ _ _ _,Below.refl _ _⟩
 case round=>
  obtain ⟨i,a',cap',hi,rfl,rfl,rfl,hown,hb⟩:=hrel
  by_cases hlt:i < l.length
  ·obtain ⟨bb,off,rfl,hc⟩:=hs1.nth hlt
   obtain ⟨q0,q1,q2,q3,q4,q5,q6⟩:=hc.below hb hc.lt
   have HS:=Lib.hid (HST.out i hlt)
   have HC:=Lib.hid (cntTo_snoc l d i hlt)
   have hcl:=cntTo_le l d i
   have hgl:=HG.out l[i] (List.getElem_mem hlt)
   have HGL:=Lib.hid hgl
   have hlt' : (i:Int) < l.length:=by omega
   have hi0:(0:Int)≤(i:Int):=by omega
   have HO:=Lib.hid hown;clear hown hc hgl
   generalize hx:l[i]=x at *
   generalize cntTo l d i=N at *
   clear hx
   have HDr:=Lib.hid (hd1.later hb)
   have hbA:=(Below.refl wr.heap.size wr).alloc (Nat.le_refl _) (.cells #[.int .u8 x.C,.int .i64 x.By,.int .i64 x.No,.int .i64 x.K,.int .i64 x.In,.int .i64 x.Out,.int .i64 x.Gone] 125)
   have HCA:=Lib.hid (ChAt.box wr x)
   have HFA:=Lib.hid (show ∀ j,j < 7→(wr.alloc (.cells #[.int .u8 x.C,.int .i64 x.By,.int .i64 x.No,.int .i64 x.K,.int .i64 x.In,.int .i64 x.Out,.int .i64 x.Gone] 125)).frozen? ⟨wr.heap.size,j,none⟩=false from fun j _=>by simp)
   have hzA:(wr.alloc (.cells #[.int .u8 x.C,.int .i64 x.By,.int .i64 x.No,.int .i64 x.K,.int .i64 x.In,.int .i64 x.Out,.int .i64 x.Gone] 125)).heap.size=wr.heap.size+1:=by simp
   obtain ⟨y,hy⟩:∃ y,y=if x.sees d.Seen d.By=true∧d.At≤(N:Int)∧(N:Int) < d.At+d.Many then mark d.By number x else x:=⟨_,rfl⟩
   rw [← hy] at HS
   have HY:=Lib.hid hy;clear hy
   go_upto_region 18 with fail
   generalize wr.alloc _=wA at *
   have hDA:=HDr.out.later hbA
   obtain ⟨dl,d0,d1,d2,d3,d4,d5,d6⟩:=hDA
   have HDA:=Lib.hid (DdAt.mk dl d0 d1 d2 d3 d4 d5 d6)
   clear q0 q1 q2 q3 q4 q5 q6
   obtain ⟨q0,q1,q2,q3,q4,q5,q6⟩:=HCA.out
   go_wp2_with fail
   refine (RSees_c x d.Seen d.By _ HGL.out).mono ?_
   rintro e w2 ⟨rfl,hb2⟩
   have hb12:Below wr.heap.size wr w2:=hbA.trans (hb2.mono (by omega))
   have HC2:=Lib.hid (HCA.out.below hb2 (by omega))
   have HF2:=Lib.hid (fun j (hj:j < 7)=>(hb2.frozen (p:=⟨wr.heap.size,j,none⟩) (by show wr.heap.size < wA.heap.size;omega)).trans (HFA.out j hj))
   have HD2:=Lib.hid (HDA.out.later hb2)
   have hlt2:wr.heap.size < w2.heap.size:=by have:=hb2.size;omega
   clear hb2 HCA HFA HDA hbA hzA dl d0 d1 d2 d3 d4 d5 d6 q0 q1 q2 q3 q4 q5 q6 HDr
   generalize hBx:wr.heap.size=Bx at *
   obtain ⟨sb,hsb⟩:∃ sb,sb=x.sees d.Seen d.By:=⟨_,rfl⟩
   rw [← hsb]
   have HSB:=Lib.hid hsb;clear hsb
   go_upto_if 88 with (fail)
   go_cut [11] (fun s11 wx=>s11=.int .i64 (cntTo l d (i+1):Nat)∧ChAt wx Bx 0 y∧Below Bx w2 wx)
   case first=>
    obtain ⟨q0,q1,q2,q3,q4,q5,q6⟩:=HC2.out
    obtain ⟨dl,d0,d1,d2,d3,d4,d5,d6⟩:=HD2.out
    have f5:=HF2.out 5 (by omega)
    have f6:=HF2.out 6 (by omega)
    have hNl:N≤200:=by omega
    have hsum:IntKind.i64.wrap (d.At+d.Many)=d.At+d.Many:=by rw [IntKind.wrap_i64];omega
    cases sb
    ·have HN2:=Lib.hid (show cntTo l d (i+1)=N by rw [HC.out,← HSB.out];rfl)
     have HY2:=Lib.hid (show y=x by rw [HY.out,← HSB.out];simp)
     go_wp2
     go_meet
     exact ⟨by rw [HN2.out],by rw [HY2.out];exact HC2.out,Below.refl _ _⟩
    ·have HN2:=Lib.hid (show cntTo l d (i+1)=N+1 by rw [HC.out,← HSB.out];rfl)
     have HT:=Lib.hid (sees_took (show x.sees d.Seen d.By=true from HSB.out.symm))
     have hincN:IntKind.i64.wrap ((N:Int)+1)=(N:Int)+1:=by rw [IntKind.wrap_i64];omega
     by_cases h1:d.At≤(N:Int)
     ·by_cases h2:(N:Int) < d.At+d.Many
      ·have HY2:=Lib.hid (show y=mark d.By number x by rw [HY.out,← HSB.out];simp [h1,h2])
       have HAD:=Lib.hid (show IntKind.i64.wrap (x.Gone+((2 ^ nb:Nat):Int))=x.Gone+bitOf d.By by rw [← HNB3.out];exact gone_addW _ _ HW.out HT.out HGL.out)
       rw [HNB.out] at d1
       go_wp2
       go_loopw [14,15] (fun s14 s15 wl=>∃ j:Nat,j≤nb∧s15=(.int .i64 j)∧s14=(.int .i64 ((2 ^ j:Nat):Int))∧wl=w2) (fun _ s15 _=>nb - (intOf s15).toNat)
       case atStart=>exact ⟨0,Nat.zero_le _,rfl,rfl,rfl⟩
       case round=>
        obtain ⟨j,hj,rfl,rfl,hwl⟩:=hrel
        rw [hwl]
        clear hwl
        by_cases hjl:j < nb
        ·have hjB:decide ((j:Int) < (nb:Int))=true:=decide_eq_true (by omega)
         have hp:IntKind.i64.wrap (((2 ^ j:Nat):Int) * 2)=((2 ^ (j+1):Nat):Int):=by
          rcases (show j=0∨j=1∨j=2 by omega) with rfl | rfl | rfl <;> rfl
         have hji:IntKind.i64.wrap ((j:Int)+1)=((j+1:Nat):Int):=by rw [IntKind.wrap_i64];omega
         have HPW:=Lib.hid hp;have HJI:=Lib.hid hji
         generalize ((2 ^ j:Nat):Int)=tj at *
         obtain ⟨tj1,htj1⟩:∃ tj1,tj1=((2 ^ (j+1):Nat):Int):=⟨_,rfl⟩
         rw [← htj1] at hp HPW
         have HT1:=Lib.hid htj1;clear htj1
         go_wp2
         exact ⟨⟨j+1,by omega,by go_num,by rw [HT1.out],trivial⟩,by simp [intOf];omega⟩
        ·obtain rfl:j=nb:=by omega
         have hjB:decide ((j:Int) < (j:Int))=false:=by simp
         have hAD:=HAD.out
         generalize ((2 ^ j:Nat):Int)=tj at *
         have HC3:=Lib.hid (HC2.out.setGone (x.Gone+bitOf d.By))
         have HF3:=Lib.hid (show (w2.setCell ⟨Bx,6,none⟩ (.int .i64 (x.Gone+bitOf d.By))).frozen? ⟨Bx,5,none⟩=false from by rw [World.frozen?_setCell];exact f5)
         have HB3:=Lib.hid ((Below.refl Bx w2).setCell (p:=⟨Bx,6,none⟩) (Nat.le_refl _) (.int .i64 (x.Gone+bitOf d.By)))
         go_upto_region 26 with fail
         generalize w2.setCell _ _=w3 at *
         obtain ⟨q0,q1,q2,q3,q4,q5,q6⟩:=HC3.out
         have hMK:mark d.By number x=⟨x.C,x.By,x.No,x.K,x.In,if number≠1073741824∧(x.Out=0∨number < x.Out) then number else x.Out,x.Gone+bitOf d.By⟩:=rfl
         have HMK:=Lib.hid hMK;clear hMK
         have HC4:=Lib.hid (HC3.out.setOut number)
         have HB4:=Lib.hid (HB3.out.setCell (p:=⟨Bx,5,none⟩) (Nat.le_refl _) (.int .i64 number))
         have f5':=HF3.out
         clear q0 q1 q2 q3 q4 f5 f6 HAD hAD d0 d1 d2 d3 d4 d5 d6
         cases h3:(number !=1073741824)
         ·have HY3:=Lib.hid (show y={ x with Gone:=x.Gone+bitOf d.By } by
           rw [HY2.out,HMK.out,if_neg];intro h;simp only [bne_eq_false_iff_eq] at h3;exact h.1 h3)
          go_wp2
          go_meet
          exact ⟨by rw [HN2.out];go_num,by rw [HY3.out];exact HC3.out,HB3.out⟩
         ·cases h4:(x.Out==0)
          ·by_cases h5:number < x.Out
           ·have HY3:=Lib.hid (show y={ x with Gone:=x.Gone+bitOf d.By,Out:=number } by
             rw [HY2.out,HMK.out,if_pos];exact ⟨by simpa using h3,.inr h5⟩)
            go_wp2
            go_meet
            exact ⟨by rw [HN2.out];go_num,by rw [HY3.out];exact HC4.out,HB4.out⟩
           ·have HY3:=Lib.hid (show y={ x with Gone:=x.Gone+bitOf d.By } by
             rw [HY2.out,HMK.out,if_neg];intro h;rcases h.2 with h | h
             ·simp [h] at h4
             ·exact h5 h)
            have h5' : decide (number < x.Out)=false:=by simpa using h5
            go_wp2
            go_meet
            exact ⟨by rw [HN2.out];go_num,by rw [HY3.out];exact HC3.out,HB3.out⟩
          ·have HY3:=Lib.hid (show y={ x with Gone:=x.Gone+bitOf d.By,Out:=number } by
            rw [HY2.out,HMK.out,if_pos];exact ⟨by simpa using h3,.inl (by simpa using h4)⟩)
           go_wp2
           go_meet
           exact ⟨by rw [HN2.out];go_num,by rw [HY3.out];exact HC4.out,HB4.out⟩
      ·have HY2:=Lib.hid (show y=x by rw [HY.out];simp [h2])
       have h2' : decide ((N:Int) < d.At+d.Many)=false:=by simpa using h2
       go_wp2
       go_meet
       exact ⟨by rw [HN2.out];go_num,by rw [HY2.out];exact HC2.out,Below.refl _ _⟩
     ·have HY2:=Lib.hid (show y=x by rw [HY.out];simp [h1])
      have h1' : decide (d.At≤(N:Int))=false:=by simpa using h1
      go_wp2
      go_meet
      exact ⟨by rw [HN2.out];go_num,by rw [HY2.out];exact HC2.out,Below.refl _ _⟩
   case rest=>
    obtain ⟨rfl,hCy,hbx⟩:=hcut
    obtain ⟨q0,q1,q2,q3,q4,q5,q6⟩:=hCy
    have hb0x:Below Bx wr wc:=hb12.trans hbx
    have hbs:Below w1.heap.size w1 wc:=hb.trans (hb0x.mono (by rw [← hBx];exact hb.size))
    have HOx:=Lib.hid (HO.out.below (by rw [hBx];exact hb0x))
    have HL:=Lib.hid (HTL.out (i+1) (by omega))
    clear HO
    go_wp2_with (at_builtin;refine wpList_append_new rfl (.tmp 132) (.tmp 134) 91 rfl w1.heap.size 125 7 56 Tryz.underlying91 ti_Char a' i cap' _ rfl HOx.out 1 1 y.cells rfl rfl (Ch.cells_one y) (by omega) hbs.size ?_)
    intro a3 cap3 w3 hown3 hb3 hz3 hg3
    have HO3:=Lib.hid (show OwnRow w3 w1.heap.size 125 7 a3 (i+1) cap3 (flat ((takeGo d.Seen d.By d.At (d.At+d.Many) number l 0).take (i+1))) by rw [HS.out,flat_append];simpa [flat] using hown3)
    clear hown3 HOx hg3 q0 q1 q2 q3 q4 q5 q6
    go_wp2
    exact ⟨⟨i+1,a3,cap3,by omega,by go_num,rfl,rfl,HO3.out,hbs.trans hb3⟩,by simp [intOf];omega⟩
  ·obtain rfl:i=l.length:=by omega
   have HE:=Lib.hid (hx1.trans (hb.mono hx1.size))
   have HF:=Lib.hid (hown.mono hx1.size)
   have HTT:=Lib.hid (show (takeGo d.Seen d.By d.At (d.At+d.Many) number l 0).take l.length=takeGo d.Seen d.By d.At (d.At+d.Many) number l 0 from List.take_of_length_le (by rw [HRL.out];exact Nat.le_refl _))
   clear hown
   go_wp2
   go_ret2
   refine ⟨a',cap',?_,?_,HE.out⟩
   ·rw [HR.out];show Ending.returned (.tuple #[.slice a' l.length cap',_])=_;rw [HRL.out];rfl
   ·rw [HR.out];show OwnRow wr w.heap.size 125 7 a' (takeGo d.Seen d.By d.At (d.At+d.Many) number l 0).length cap' _;rw [HRL.out,← HTT.out];exact HF.out
end Go.Proofs.YtneoeokfffnonaaGreatDoor
namespace Go.Proofs.YtneoeokfffnonaaGreatDoor
open Go.RowKit
theorem RDo_c (a:Option Addr) (cap:Nat) (l:List Ch) (d:Dd) (number:Int) (w:World) (hs:SlCh w a cap l) (hnil:a=none→cap=0) (hsz:l.length * 56≤140737488355328) (ht:d.Text.size≤maxLen) (hG:∀ c∈l,i64ok c.Gone) :
 Calls Tryz.prog 107 #[.slice a l.length cap,.agg #[.int .i64 d.Kind,.int .i64 d.By,.int .i64 d.No,.int .i64 d.Seen,.int .i64 d.At,.int .i64 d.Many,.string d.Text],.int .i64 number] w fun e w'=>∃ a' cap',e=.returned (.tuple #[.slice a' (doF l d number).1.length cap',.int .i64 (doF l d number).2])∧
  OwnRow w' w.heap.size 125 7 a' (doF l d number).1.length cap' (flat (doF l d number).1)∧Below w.heap.size w w':=by
 by_cases h:mayDo l d=0∧1≤number
 ·obtain ⟨h1,h2⟩:=h
  rcases (deedFault_zero (mayDo_zero h1).1).2.2.2.2.2.2.2 with ⟨hk,_⟩ | ⟨hk,_⟩
  ·exact RDo_put a cap l d number w hs hnil hG h1 h2 hk
  ·exact RDo_take a cap l d number w hs hG h1 h2 hk
 ·refine (RDo_no a cap l d number w hs (by omega) ht hG (by omega)).mono ?_
  rintro e w' ⟨rfl,hb⟩
  have e1:(doF l d number).1=[]:=by
   rcases doF_cases l d number with ⟨h1,e⟩ | ⟨_,hn,e⟩ | ⟨h1,hn,hk,e⟩ | ⟨h1,hn,hk2,e⟩
   ·rw [e]
   ·rw [e]
   ·omega
   ·omega
  refine ⟨none,0,by rw [e1];rfl,by rw [e1];exact OwnRow.nil _ _ _ _ _,hb⟩
theorem RF_c (c k:Int) (w:World):Calls Tryz.prog 17 #[.int .i64 c,.int .i64 k] w fun e w'=>e=.returned (.agg #[.int .i64 c,.int .i64 k])∧Below w.heap.size w w':=by
 go_enter Tryz.func17,Tryz.ntmps17
 go_wp2
 refine bodyPost_ret (v:=.agg #[.int .i64 c,.int .i64 k]) (by simp [results,Tryz.results17,go_sem]) rfl ⟨rfl,?_⟩
 exact (Below.refl w.heap.size w).alloc (Nat.le_refl _) _
set_option maxRecDepth 100000 in
set_option maxHeartbeats 1000000 in
theorem RAll_c (a:Option Addr) (cap:Nat) (ds:List Dd) (w:World) (hs:SlDd w a cap ds) (hok:∀ d∈ds,d.Text.size≤maxLen) (hlen:ds.length≤1000000) :
 Calls Tryz.prog 65 #[.slice a ds.length cap] w fun e w'=>∃ a' cap',e=.returned (.tuple #[.slice a' (allF ds).1.length cap',.agg #[.int .i64 (allF ds).2.1,.int .i64 (allF ds).2.2]])∧
  OwnRow w' w.heap.size 125 7 a' (allF ds).1.length cap' (flat (allF ds).1)∧Below w.heap.size w w':=by
 have hb0:=(Below.refl w.heap.size w).alloc (Nat.le_refl _) (.cells #[.int .i64 0,.int .i64 0] 31)
 have hs0:=hs.below hb0
 have hF:(w.alloc (.cells #[.int .i64 0,.int .i64 0] 31)).cell? ⟨w.heap.size,0,none⟩=some (.int .i64 0)∧(w.alloc (.cells #[.int .i64 0,.int .i64 0] 31)).cell? ⟨w.heap.size,1,none⟩=some (.int .i64 0)∧
  (w.alloc (.cells #[.int .i64 0,.int .i64 0] 31)).frozen? ⟨w.heap.size,0,none⟩=false∧(w.alloc (.cells #[.int .i64 0,.int .i64 0] 31)).frozen? ⟨w.heap.size,1,none⟩=false:=by
  refine ⟨by simp,by simp,by simp,by simp⟩
 have hlt0:w.heap.size < (w.alloc (.cells #[.int .i64 0,.int .i64 0] 31)).heap.size:=by simp
 have HOK:=Lib.hid hok;clear hok hs
 go_enter Tryz.func65,Tryz.ntmps65
 go_upto_region 1 with fail
 generalize hw0:w.alloc (.cells #[.int .i64 0,.int .i64 0] 31)=w0 at *
 clear hw0
 have HF:=Lib.hid hF;clear hF
 go_wp2
 go_loopw [4,5] (fun s4 s11 wr=>∃ (k:Nat) (a' : Option Addr) (cap' : Nat) (L:List Ch),k≤ds.length∧s11=.int .i64 k∧s4=.slice a' L.length cap'∧Hid (Mid ds k L)∧Hid (OwnRow wr w0.heap.size 125 7 a' L.length cap' (flat L))∧Below w0.heap.size w0 wr) (fun _ s11 _=>ds.length - (intOf s11).toNat)
 case atStart=>exact ⟨0,none,0,[],Nat.zero_le _,rfl,rfl,Lib.hid (Mid.zero ds),Lib.hid (OwnRow.nil _ _ _ _ _),Below.refl _ _⟩
 case round=>
  obtain ⟨k,a',cap',L,hk,rfl,rfl,HM,HO,hb⟩:=hrel
  have f0:=(hb.cell (p:=⟨w.heap.size,0,none⟩) hlt0).trans HF.out.1
  have f1:=(hb.cell (p:=⟨w.heap.size,1,none⟩) hlt0).trans HF.out.2.1
  have f2:=(hb.frozen (p:=⟨w.heap.size,0,none⟩) hlt0).trans HF.out.2.2.1
  have f3:=(hb.frozen (p:=⟨w.heap.size,1,none⟩) hlt0).trans HF.out.2.2.2
  by_cases hlt:k < ds.length
  ·obtain ⟨bb,off,rfl,hc⟩:=hs0.nth hlt
   obtain ⟨q0,q1,q2,q3,q4,q5,q6⟩:=hc.below hb hc.lt
   have hdk:=HOK.out ds[k] (List.getElem_mem hlt)
   have HS:=Lib.hid (HM.out.step hlt)
   have HFL:=Lib.hid (HM.out.fail hlt)
   have hLl:=HM.out.2.1
   have HG:=Lib.hid HM.out.2.2
   generalize hd:ds[k]=d at *
   clear hd
   have HDK:=Lib.hid hdk;clear hdk
   have hinc:IntKind.i64.wrap ((k:Int)+1)=(k:Int)+1:=by rw [IntKind.wrap_i64];omega
   have HO1:=HO;clear HO
   go_wp2_with fail
   refine (RDo_c a' cap' L d ((k:Int)+1) _ HO1.out.slCh HO1.out.nilcap (by omega) HDK.out HG.out).mono ?_
   rintro e w2 ⟨a2,cap2,rfl,ho2,hb2⟩
   have hb02:Below w0.heap.size w0 w2:=hb.trans (hb2.mono hb.size)
   have HO2:=Lib.hid (ho2.mono hb.size)
   clear q0 q1 q2 q3 q4 q5 q6 hb2 ho2 HO1 hb f0 f1 f2 f3
   have f0:=(hb02.cell (p:=⟨w.heap.size,0,none⟩) hlt0).trans HF.out.1
   have f1:=(hb02.cell (p:=⟨w.heap.size,1,none⟩) hlt0).trans HF.out.2.1
   have f2:=(hb02.frozen (p:=⟨w.heap.size,0,none⟩) hlt0).trans HF.out.2.2.1
   have f3:=(hb02.frozen (p:=⟨w.heap.size,1,none⟩) hlt0).trans HF.out.2.2.2
   generalize doF L d ((k:Int)+1)=R at *
   obtain ⟨L2,c2⟩:=R
   simp only at *
   by_cases h0:c2=0
   ·have HS2:=Lib.hid (HS.out h0)
    subst h0
    clear HS HFL f0 f1 f2 f3
    go_wp2
    exact ⟨⟨k+1,a2,cap2,L2,by omega,by go_num,rfl,HS2,HO2,hb02⟩,by simp [intOf];omega⟩
   ·have HF2:=Lib.hid (HFL.out h0)
    have hne:(c2 !=0)=true:=by simpa using h0
    clear HS HFL h0 f0 f1 f2 f3
    go_wp2_with fail
    refine (RF_c c2 (k:Int) _).mono ?_
    rintro e w3 ⟨rfl,hb3⟩
    have hb03:Below w0.heap.size w0 w3:=hb02.trans (hb3.mono hb02.size)
    have f0:=(hb03.cell (p:=⟨w.heap.size,0,none⟩) hlt0).trans HF.out.1
    have f1:=(hb03.cell (p:=⟨w.heap.size,1,none⟩) hlt0).trans HF.out.2.1
    have f2:=(hb03.frozen (p:=⟨w.heap.size,0,none⟩) hlt0).trans HF.out.2.2.1
    have f3:=(hb03.frozen (p:=⟨w.heap.size,1,none⟩) hlt0).trans HF.out.2.2.2
    have HE:=Lib.hid (fun v v2=>(((hb0.trans (hb03.mono hb0.size)).setCell (p:=⟨w.heap.size,0,none⟩) (by simp) v).setCell (p:=⟨w.heap.size,1,none⟩) (by simp) v2))
    clear hb3 hb02
    go_wp2
    refine bodyPost_ret (v:=.tuple #[.slice none 0 0,.agg #[.int .i64 c2,.int .i64 k]]) (by simp [results,Tryz.results65,go_sem,f0,f1]) rfl ?_
    exact ⟨none,0,by rw [HF2.out];rfl,by rw [HF2.out];exact OwnRow.nil _ _ _ _ _,HE.out _ _⟩
  ·obtain rfl:k=ds.length:=by omega
   have HFD:=Lib.hid HM.out.done
   have HE:=Lib.hid (fun v v2=>(((hb0.trans (hb.mono hb0.size)).setCell (p:=⟨w.heap.size,0,none⟩) (by simp) v).setCell (p:=⟨w.heap.size,1,none⟩) (by simp) v2))
   have hne:∀ g,ownB a' cap'=some g→g≠w.heap.size:=fun g hg=>by have:=(HO.out.base_le g hg).1;omega
   have HO2:=Lib.hid (fun v v2=>(HO.out.setCell ⟨w.heap.size,0,none⟩ v hne).setCell ⟨w.heap.size,1,none⟩ v2 hne)
   clear HM HO hne
   go_wp2
   refine bodyPost_ret (v:=.tuple #[.slice a' L.length cap',.agg #[.int .i64 0,.int .i64 0]]) (by simp [results,Tryz.results65,go_sem,f0,f1]) rfl ?_
   exact ⟨a',cap',by rw [HFD.out],by rw [HFD.out];exact (HO2.out _ _).mono hb0.size,HE.out _ _⟩
theorem RTextOf_c (a:Option Addr) (cap:Nat) (l:List Ch) (w:World) (hs:SlCh w a cap l) (hG:∀ c∈l,i64ok c.Gone) :
 Calls Tryz.prog 37 #[.slice a l.length cap] w fun e w'=>e=.returned (.string (strOfNums (textF l)))∧Below w.heap.size w w':=by
 go_enter Tryz.func37,Tryz.ntmps37
 go_wp2_with fail
 refine (ViewOf_c a cap l _ _ _ hs hG).mono ?_
 rintro e w1 ⟨rfl,hb1⟩
 go_wp2
 go_ret
 exact ⟨rfl,hb1⟩
end Go.Proofs.YtneoeokfffnonaaGreatDoor
namespace Go.Proofs.YtneoeokfffnonaaGreatDoor
open Go.RowKit
theorem Own_c (a:Option Addr) (cap:Nat) (l:List Ch) (w:World) (hs:SlCh w a cap l) (hsz:l.length * 56≤140737488355328) :
 Calls Tryz.prog 142 #[.slice a l.length cap] w fun e w'=>∃ a' cap',e=.returned (.slice a' l.length cap')∧
  OwnRow w' w.heap.size 125 7 a' l.length cap' (flat l)∧Below w.heap.size w w':=by
 have HXC:=Lib.hid (show l.length=0∨∃ ad',a=some ad'∧∀ j u,(flat l)[j]? = some u→w.cell? (ad'.add j)=some u from by
  rcases hs.take_cells l.length with h | h | ⟨x,hx,hc⟩
  ·exact .inl h
  ·exact .inl h
  ·exact .inr ⟨x,hx,by rw [List.take_length] at hc;exact hc⟩)
 have hlc:=hs.1
 have hmx:=hs.2.1
 unfold maxLen at hmx
 clear hs
 go_enter Tryz.func142,Tryz.ntmps142
 go_wp2_with (at_builtin;refine wpList_append_row _ rfl (.tmp 4) (.tmp 5) 91 rfl w.heap.size 125 7 56 Tryz.underlying91 ti_Char none 0 0 [] rfl (OwnRow.nil _ _ _ _ _) a l.length cap (flat l) rfl (flat_length l) HXC.out (flat_one l) (by omega) (Nat.le_refl _) ?_)
 intro a3 cap3 w3 hown3 hg3
 intros
 have hbx:Below w.heap.size w w3:=below_grownBy hg3 (Nat.le_refl _) (fun k hk=>by simp [ownB] at hk)
 have hown3:OwnRow w3 w.heap.size 125 7 a3 l.length cap3 (flat l):=by simpa using hown3
 clear HXC hg3
 go_wp2
 go_ret
 exact ⟨a3,cap3,by simp,hown3,hbx⟩
theorem keep_done (least:Int) (c:Ch):(!doneB least c)=(c.Out==0||(decide (least < c.Out)||decide (c.Out < 0))):=by
 unfold doneB
 by_cases h1:c.Out=0
 ·simp [h1]
 ·by_cases h2:c.Out < 0
  ·have:¬ 0 < c.Out:=by omega
   simp [h1,h2,this]
  ·have h3:0 < c.Out:=by omega
   by_cases h4:least < c.Out
   ·have:¬ c.Out≤least:=by omega
    simp [h4,this]
   ·have:c.Out≤least:=by omega
    simp [h1,h2,h3,h4,this]
set_option maxHeartbeats 400000 in
theorem ClearOf_c (a:Option Addr) (cap:Nat) (l:List Ch) (least:Int) (w:World) (hs:SlCh w a cap l) (hsz:l.length * 56≤140737488355328) :
 Calls Tryz.prog 145 #[.slice a l.length cap,.int .i64 least] w fun e w'=>∃ a' cap',e=.returned (.slice a' (clearOf least l).length cap')∧
  OwnRow w' w.heap.size 125 7 a' (clearOf least l).length cap' (flat (clearOf least l))∧Below w.heap.size w w':=by
 have hlc:=hs.1
 have hmx:=hs.2.1
 unfold maxLen at hmx
 go_enter Tryz.func145,Tryz.ntmps145
 go_wp2
 go_loopw [5,6] (fun s5 s6 wr=>∃ (i:Nat) (a' : Option Addr) (cap' : Nat),i≤l.length∧s6=.int .i64 i∧s5=.slice a' (clearOf least (l.take i)).length cap'∧
  OwnRow wr w.heap.size 125 7 a' (clearOf least (l.take i)).length cap' (flat (clearOf least (l.take i)))∧Below w.heap.size w wr) (fun _ s6 _=>l.length - (intOf s6).toNat)
 case atStart=>exact ⟨0,none,0,Nat.zero_le _,rfl,rfl,OwnRow.nil _ _ _ _ _,Below.refl _ _⟩
 case round=>
  obtain ⟨i,a',cap',hi,rfl,rfl,hown,hb⟩:=hrel
  by_cases hlt:i < l.length
  ·obtain ⟨bb,off,rfl,hc⟩:=hs.nth hlt
   obtain ⟨q0,q1,q2,q3,q4,q5,q6⟩:=hc.below hb hc.lt
   have HK:=Lib.hid (clearOf_snoc least l i hlt)
   have HD:=Lib.hid (keep_done least l[i])
   have hcl:=clearOf_le least (l.take i)
   rw [List.length_take] at hcl
   have hlt' : (i:Int) < l.length:=by omega
   have hi0:(0:Int)≤(i:Int):=by omega
   have HO:=Lib.hid hown;clear hown hc
   generalize hx:l[i]=x at *
   clear hx
   have HGo:=Lib.hid (show doneB least x=true→clearOf least (l.take (i+1))=clearOf least (l.take i) from fun h=>by rw [HK.out,h];simp)
   have HSt:=Lib.hid (show doneB least x=false→clearOf least (l.take (i+1))=clearOf least (l.take i)++[x] from fun h=>by rw [HK.out,h];simp)
   clear HK
   have e1:=HD.out
   cases h1:(x.Out==0)
   ·cases h2:decide (least < x.Out)
    ·cases h3:decide (x.Out < 0)
     ·have HD2:=Lib.hid (HGo.out (by rw [h1,h2,h3] at e1;simpa using e1))
      clear HD HGo HSt e1
      go_wp2
      exact ⟨⟨i+1,a',cap',by omega,by go_num,by rw [HD2.out],by rw [HD2.out];exact HO.out,hb⟩,by simp [intOf];omega⟩
     ·have HD2:=Lib.hid (HSt.out (by rw [h1,h2,h3] at e1;simpa using e1))
      clear HD HGo HSt e1
      go_wp2_with (at_builtin;refine wpList_append_new rfl (.tmp 36) (.tmp 41) 91 rfl w.heap.size 125 7 56 Tryz.underlying91 ti_Char a' _ cap' _ rfl HO.out 1 1 x.cells rfl rfl (Ch.cells_one x) (by omega) hb.size ?_)
      intro a3 cap3 w3 hown3 hb3 hz3 hg3
      have HO3:=Lib.hid (show OwnRow w3 w.heap.size 125 7 a3 (clearOf least (l.take (i+1))).length cap3 (flat (clearOf least (l.take (i+1)))) by rw [HD2.out,flat_append,List.length_append];exact hown3)
      clear hown3 HO hg3
      go_wp2
      exact ⟨⟨i+1,a3,cap3,by omega,by go_num,by rw [HD2.out];simp,HO3.out,hb.trans hb3⟩,by simp [intOf];omega⟩
    ·have HD2:=Lib.hid (HSt.out (by rw [h1,h2] at e1;simpa using e1))
     clear HD HGo HSt e1
     go_wp2_with (at_builtin;refine wpList_append_new rfl (.tmp 36) (.tmp 41) 91 rfl w.heap.size 125 7 56 Tryz.underlying91 ti_Char a' _ cap' _ rfl HO.out 1 1 x.cells rfl rfl (Ch.cells_one x) (by omega) hb.size ?_)
     intro a3 cap3 w3 hown3 hb3 hz3 hg3
     have HO3:=Lib.hid (show OwnRow w3 w.heap.size 125 7 a3 (clearOf least (l.take (i+1))).length cap3 (flat (clearOf least (l.take (i+1)))) by rw [HD2.out,flat_append,List.length_append];exact hown3)
     clear hown3 HO hg3
     go_wp2
     exact ⟨⟨i+1,a3,cap3,by omega,by go_num,by rw [HD2.out];simp,HO3.out,hb.trans hb3⟩,by simp [intOf];omega⟩
   ·have HD2:=Lib.hid (HSt.out (by rw [h1] at e1;simpa using e1))
    clear HD HGo HSt e1
    go_wp2_with (at_builtin;refine wpList_append_new rfl (.tmp 36) (.tmp 41) 91 rfl w.heap.size 125 7 56 Tryz.underlying91 ti_Char a' _ cap' _ rfl HO.out 1 1 x.cells rfl rfl (Ch.cells_one x) (by omega) hb.size ?_)
    intro a3 cap3 w3 hown3 hb3 hz3 hg3
    have HO3:=Lib.hid (show OwnRow w3 w.heap.size 125 7 a3 (clearOf least (l.take (i+1))).length cap3 (flat (clearOf least (l.take (i+1)))) by rw [HD2.out,flat_append,List.length_append];exact hown3)
    clear hown3 HO hg3
    go_wp2
    exact ⟨⟨i+1,a3,cap3,by omega,by go_num,by rw [HD2.out];simp,HO3.out,hb.trans hb3⟩,by simp [intOf];omega⟩
  ·obtain rfl:i=l.length:=by omega
   have HO:=Lib.hid hown;clear hown
   rw [List.take_length] at HO ⊢
   go_wp2
   go_ret
   exact ⟨a',cap',rfl,HO.out,hb⟩
end Go.Proofs.YtneoeokfffnonaaGreatDoor
