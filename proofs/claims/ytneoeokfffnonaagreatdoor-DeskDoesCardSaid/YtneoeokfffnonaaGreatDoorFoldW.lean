/- Merged: DeedW0 DeedW InsertW FoldW. -/
import Derived.Test.YtneoeokfffnonaaGreatDoorCharsW
import Derived.Lib.Overlaps
import Derived.Deep.RegionHeld3
set_option linter.unusedVariables false
set_option linter.unusedSimpArgs false
namespace Go.Proofs.YtneoeokfffnonaaGreatDoor
open Go.RowKit
theorem toList_nil {s:ByteArray} (h:s.size=0):s.toList=[]:=by
 rw [ByteArray.toList_eq];exact List.eq_nil_of_length_eq_zero (by simpa using h)
theorem toList_ne {s:ByteArray} (h:¬ s.size=0):¬ s.toList=[]:=by
 rw [ByteArray.toList_eq];intro e;apply h;simpa using congrArg List.length e
theorem toList_ne' {s:ByteArray} (h:¬ s.size=0):(!s.toList.isEmpty)=true:=by
 have:=toList_ne h
 simpa [List.isEmpty_iff] using this
theorem bytesOf_get (s:ByteArray) (k:Nat) (h:k < s.size):(bytesOf s)[k]? = some (s[k].toNat:Int):=by
 unfold bytesOf
 rw [List.getElem?_map]
 have e:s.data.toList[k]? = some s[k]:=by
  rw [List.getElem?_eq_getElem (by simpa using h)];rfl
 rw [e];rfl
theorem all_snoc (s:ByteArray) (k:Nat) (h:k < s.size):((bytesOf s).take (k+1)).all (fun x=>!badByte x)=(((bytesOf s).take k).all (fun x=>!badByte x)&&!badByte (s[k].toNat:Int)):=by
 have hl:k < (bytesOf s).length:=by rw [bytesOf_length];exact h
 have e:(bytesOf s)[k]=(s[k].toNat:Int):=by
  have:=bytesOf_get s k h;rw [List.getElem?_eq_getElem hl] at this;exact Option.some.inj this
 rw [List.take_succ_eq_append_getElem hl,List.all_append,e];simp
theorem all_no (s:ByteArray) (k:Nat) (h:k < s.size) (hb:badByte (s[k].toNat:Int)=true):textOk s=false:=by
 have:(bytesOf s).all (fun x=>!badByte x)=false:=by
  rw [List.all_eq_false]
  refine ⟨_,List.mem_of_getElem? (bytesOf_get s k h),by simp [hb]⟩
 unfold textOk;rw [this];simp
set_option maxHeartbeats 400000 in
theorem text_c (s:ByteArray) (w:World) (hs:s.size≤maxLen) :
 Calls Tryz.prog 164 #[.string s] w fun e w'=>e=.returned (.bool (textOk s))∧w'=w:=by
 unfold maxLen at hs
 go_enter Tryz.func164,Tryz.ntmps164
 go_wp2
 go_loop [3,6] (fun i j=>∃ k:Nat,k≤s.size∧j=.int .i64 k∧Hid (((bytesOf s).take k).all (fun x=>!badByte x)=true)) (fun _ j=>s.size - (intOf j).toNat)
 case atStart=>exact ⟨0,Nat.zero_le _,rfl,Lib.hid rfl⟩
 case round=>
  obtain ⟨k,hk,rfl,HE⟩:=hrel
  by_cases hlt:k < s.size
  ·have HS:=Lib.hid (all_snoc s k hlt)
   have HN:=Lib.hid (all_no s k hlt)
   by_cases h1:(s[k].toNat:Int) < 32
   ·have HN2:=Lib.hid (HN.out (by simp [badByte,h1]))
    go_wp2
    go_ret
    exact ⟨by rw [HN2.out];rfl,rfl⟩
   ·by_cases h2:126 < (s[k].toNat:Int)
    ·have HN2:=Lib.hid (HN.out (by simp [badByte,h2]))
     go_wp2
     go_ret
     exact ⟨by rw [HN2.out];rfl,rfl⟩
    ·have HS2:=Lib.hid (show ((bytesOf s).take (k+1)).all (fun x=>!badByte x)=true by rw [HS.out,HE.out];simp [badByte,h1,h2])
     clear HS HN HE
     go_wp2
     go_round
     case rel=>exact ⟨k+1,by omega,by go_num,HS2⟩
     case measure=>simp [intOf];omega
  ·obtain rfl:k=s.size:=by omega
   have HA:=Lib.hid (show (bytesOf s).all (fun x=>!badByte x)=true by have:=HE.out;rwa [List.take_of_length_le (by rw [bytesOf_length];omega)] at this)
   clear HE
   by_cases hz:s.size=0
   ·have Hf:=Lib.hid (show textOk s=false by unfold textOk;simp [hz])
    have hz2:s.toList=[]:=toList_nil hz
    clear hz HA
    go_wp2
    go_ret
    exact ⟨by rw [Hf.out];rfl,rfl⟩
   ·have Hf:=Lib.hid (show textOk s=decide ((s.size:Int)≤20) by
     have:0 < s.size:=by omega
     unfold textOk;rw [HA.out];simp [this];omega)
    have hz3:s.toList.isEmpty=false:=by rw [List.isEmpty_eq_false_iff];exact toList_ne hz
    have HZ3:=Lib.hid hz3;clear hz3
    have hz2:¬ s.toList=[]:=toList_ne hz
    clear HA
    go_wp2
    go_ret
    exact ⟨by rw [Hf.out];show Ending.returned (Value.bool (!s.toList.isEmpty&&_))=_;rw [HZ3.out];rfl,rfl⟩
theorem range_cases (d:Dd):(deedRange d=true∧isWriter d.By=false)∨(deedRange d=true∧isWriter d.By=true∧d.No < 1)∨(deedRange d=true∧isWriter d.By=true∧1≤d.No∧120 < d.No)∨
 (deedRange d=true∧isWriter d.By=true∧1≤d.No∧d.No≤120∧d.Seen < 0)∨(deedRange d=true∧isWriter d.By=true∧1≤d.No∧d.No≤120∧0≤d.Seen∧120 < d.Seen)∨
 (deedRange d=true∧isWriter d.By=true∧1≤d.No∧d.No≤120∧0≤d.Seen∧d.Seen≤120∧d.At < 0)∨(deedRange d=true∧isWriter d.By=true∧1≤d.No∧d.No≤120∧0≤d.Seen∧d.Seen≤120∧0≤d.At∧200 < d.At)∨
 (deedRange d=false∧isWriter d.By=true∧1≤d.No∧d.No≤120∧0≤d.Seen∧d.Seen≤120∧0≤d.At∧d.At≤200):=by
 unfold deedRange
 cases isWriter d.By <;> simp <;> omega
def deedRest (d:Dd):Int:=if d.Kind=1 then (if d.Many=0 then (if textOk d.Text then 0 else 4) else 3) else if d.Text.size=0 then (if d.Many < 1∨200 < d.Many then 1 else 0) else 3
theorem deedFault_split (d:Dd) (h:d.Kind=1∨d.Kind=2):deedFault d=if deedRange d then 1 else deedRest d:=by
 unfold deedFault deedRest
 rcases h with h | h
 ·rw [if_pos h,if_pos h]
 ·have:¬ d.Kind=1:=by omega
  rw [if_neg this,if_pos h,if_neg this]
theorem rest_cases (d:Dd) (h:d.Kind=1∨d.Kind=2):(deedRest d=0∧d.Kind=1∧d.Many=0∧textOk d.Text=true)∨(deedRest d=4∧d.Kind=1∧d.Many=0∧textOk d.Text=false)∨(deedRest d=3∧d.Kind=1∧(d.Many !=0)=true)∨
 (deedRest d=3∧d.Kind=2∧¬ d.Text.size=0)∨(deedRest d=1∧d.Kind=2∧d.Text.size=0∧d.Many < 1)∨(deedRest d=1∧d.Kind=2∧d.Text.size=0∧1≤d.Many∧200 < d.Many)∨(deedRest d=0∧d.Kind=2∧d.Text.size=0∧1≤d.Many∧d.Many≤200):=by
 unfold deedRest
 rcases h with h | h
 ·rw [if_pos h]
  by_cases hm:d.Many=0
  ·cases ht:textOk d.Text <;> simp [h,hm]
  ·simp [h,hm]
 ·have h1:¬ d.Kind=1:=by omega
  rw [if_neg h1]
  by_cases ht:d.Text.size=0
  ·rw [if_pos ht]
   by_cases h2:d.Many < 1∨200 < d.Many
   ·rw [if_pos h2];simp [h,ht];omega
   ·rw [if_neg h2];simp [h,ht];omega
  ·rw [if_neg ht];simp [h,ht]
end Go.Proofs.YtneoeokfffnonaaGreatDoor
namespace Go.Proofs.YtneoeokfffnonaaGreatDoor
open Go.RowKit
set_option maxRecDepth 100000 in
set_option maxHeartbeats 1000000 in
theorem DCheck_c (d:Dd) (w:World) (hs:d.Text.size≤maxLen) :
 Calls Tryz.prog 136 #[.agg #[.int .i64 d.Kind,.int .i64 d.By,.int .i64 d.No,.int .i64 d.Seen,.int .i64 d.At,.int .i64 d.Many,.string d.Text]] w fun e w'=>e=.returned (.int .i64 (deedFault d))∧Below w.heap.size w w':=by
 have HB:=Lib.hid ((Below.refl w.heap.size w).alloc (Nat.le_refl _) (.cells #[.int .i64 d.Kind,.int .i64 d.By,.int .i64 d.No,.int .i64 d.Seen,.int .i64 d.At,.int .i64 d.Many,.string d.Text] 122))
 have HT:=Lib.hid hs;clear hs
 by_cases hk:d.Kind=1∨d.Kind=2
 case neg=>
  have Hf:=Lib.hid (show deedFault d=2 by unfold deedFault;rw [if_neg (by omega),if_neg (by omega)])
  have h1:(d.Kind !=1)=true:=by rw [bne_iff_ne];omega
  have h2:(d.Kind !=2)=true:=by rw [bne_iff_ne];omega
  clear hk
  go_enter Tryz.func136,Tryz.ntmps136
  go_wp2
  go_ret
  exact ⟨by rw [Hf.out];rfl,HB.out⟩
 case pos=>
 have HS:=Lib.hid (deedFault_split d hk)
 have HC:=Lib.hid (rest_cases d hk)
 have HR:=Lib.hid (range_cases d)
 obtain ⟨R,hR⟩:∃ R,R=deedRange d:=⟨_,rfl⟩
 rw [← hR] at HS HR;clear hR
 obtain ⟨kind,by_,no,seen,at_,many,text⟩:=d
 simp only at *
 rcases hk with rfl | rfl
 ·go_enter Tryz.func136,Tryz.ntmps136
  go_upto_region 3 with fail
  go_cut [12] (fun s12 wx=>s12=.bool R∧wx=w.alloc (.cells #[.int .i64 1,.int .i64 by_,.int .i64 no,.int .i64 seen,.int .i64 at_,.int .i64 many,.string text] 122))
  case first=>
   rcases HR.out with ⟨hx,h⟩ | ⟨hx,h,h1⟩ | ⟨hx,h,h1,h2⟩ | ⟨hx,h,h1,h2,h3⟩ | ⟨hx,h,h1,h2,h3,h4⟩ | ⟨hx,h,h1,h2,h3,h4,h5⟩ | ⟨hx,h,h1,h2,h3,h4,h5,h6⟩ | ⟨hx,h,h1,h2,h3,h4,h5,h6⟩
   all_goals
    have HX:=Lib.hid hx;clear hx
    go_wp2_with (go_at_call 125;refine (Writer_c _ _).mono ?_;rintro e w' ⟨rfl,rfl⟩)
    go_meet
    exact ⟨by (try rw [HX.out]);first | done | rfl | (congr 1;simp;omega),rfl⟩
  case rest=>
   obtain ⟨rfl,rfl⟩:=hcut
   cases R
   case true=>
    have Hf:=Lib.hid (show deedFault _=1 from HS.out)
    clear HS HC HR
    go_wp2
    go_ret
    exact ⟨by rw [Hf.out];rfl,HB.out⟩
   case false=>
   rcases HC.out with ⟨hr,k1,k2,k3⟩ | ⟨hr,k1,k2,k3⟩ | ⟨hr,k1,k2⟩ | ⟨hr,k1,k2⟩ | ⟨hr,k1,k2,k3⟩ | ⟨hr,k1,k2,k3,k4⟩ | ⟨hr,k1,k2,k3,k4⟩
   all_goals first | exact absurd k1 (by decide) | skip
   all_goals
    have Hf:=Lib.hid (show deedFault _=_ from (show _=_ from HS.out).trans hr)
    clear HS HC HR hr k1
    try subst k2
    try (have z1:text.toList=[]:=toList_nil (by assumption))
    try (have z2:¬ text.toList=[]:=toList_ne (by assumption))
    try (have z3:(!text.toList.isEmpty)=true:=toList_ne' (by assumption))
    go_wp2_with (go_at_call 164;refine (text_c _ _ HT.out).mono ?_;rintro e w' ⟨rfl,rfl⟩)
    go_ret
    exact ⟨by rw [Hf.out];rfl,HB.out⟩
 ·go_enter Tryz.func136,Tryz.ntmps136
  go_upto_region 3 with fail
  go_cut [12] (fun s12 wx=>s12=.bool R∧wx=w.alloc (.cells #[.int .i64 2,.int .i64 by_,.int .i64 no,.int .i64 seen,.int .i64 at_,.int .i64 many,.string text] 122))
  case first=>
   rcases HR.out with ⟨hx,h⟩ | ⟨hx,h,h1⟩ | ⟨hx,h,h1,h2⟩ | ⟨hx,h,h1,h2,h3⟩ | ⟨hx,h,h1,h2,h3,h4⟩ | ⟨hx,h,h1,h2,h3,h4,h5⟩ | ⟨hx,h,h1,h2,h3,h4,h5,h6⟩ | ⟨hx,h,h1,h2,h3,h4,h5,h6⟩
   all_goals
    have HX:=Lib.hid hx;clear hx
    go_wp2_with (go_at_call 125;refine (Writer_c _ _).mono ?_;rintro e w' ⟨rfl,rfl⟩)
    go_meet
    exact ⟨by (try rw [HX.out]);first | done | rfl | (congr 1;simp;omega),rfl⟩
  case rest=>
   obtain ⟨rfl,rfl⟩:=hcut
   cases R
   case true=>
    have Hf:=Lib.hid (show deedFault _=1 from HS.out)
    clear HS HC HR
    go_wp2
    go_ret
    exact ⟨by rw [Hf.out];rfl,HB.out⟩
   case false=>
   rcases HC.out with ⟨hr,k1,k2,k3⟩ | ⟨hr,k1,k2,k3⟩ | ⟨hr,k1,k2⟩ | ⟨hr,k1,k2⟩ | ⟨hr,k1,k2,k3⟩ | ⟨hr,k1,k2,k3,k4⟩ | ⟨hr,k1,k2,k3,k4⟩
   all_goals first | exact absurd k1 (by decide) | skip
   all_goals
    have Hf:=Lib.hid (show deedFault _=_ from (show _=_ from HS.out).trans hr)
    clear HS HC HR hr k1
    try subst k2
    try (have z1:text.toList=[]:=toList_nil (by assumption))
    try (have z2:¬ text.toList=[]:=toList_ne (by assumption))
    try (have z3:(!text.toList.isEmpty)=true:=toList_ne' (by assumption))
    go_wp2_with (go_at_call 164;refine (text_c _ _ HT.out).mono ?_;rintro e w' ⟨rfl,rfl⟩)
    go_ret
    exact ⟨by rw [Hf.out];rfl,HB.out⟩
end Go.Proofs.YtneoeokfffnonaaGreatDoor
namespace Go.Proofs.YtneoeokfffnonaaGreatDoor
open Go.RowKit
theorem size_Char:(Tryz.prog.info? 125).map (·.size)=some 7:=by kernel_rfl
theorem OwnRow.shape {w:World} {base:Nat} {e:TypeId} {size:Nat} {g off n cap:Nat} {xs:List Value} (h:OwnRow w base e size (some ⟨g,off,none⟩) n cap xs) (hc:cap≠0) (hs:0 < size):∃ k,k≠0∧w.shape? g=some (e,k)∧∀ o,w.frozen? ⟨g,o,none⟩=false:=by
 rcases h.own with h0 | ⟨g',off',cur,he,hb,hg,hfit,_⟩
 ·exact absurd h0 hc
 ·cases he
  refine ⟨cur.size,?_,by simp [World.shape?,hg],fun o=>by simp [World.frozen?,hg]⟩
  have:0 < cap * size:=Nat.mul_pos (by omega) hs
  omega
theorem cells_of_own {w:World} {base:Nat} {e:TypeId} {size:Nat} {g off n cap:Nat} {xs:List Value} (h:OwnRow w base e size (some ⟨g,off,none⟩) n cap xs):∀ j v,xs[j]? = some v→w.cell? ⟨g,off+j,none⟩=some v:=by
 intro j v hj
 have hp:0 < xs.length:=by
  rcases Nat.lt_or_ge j xs.length with h | h
  ·omega
  ·rw [List.getElem?_eq_none h] at hj;cases hj
 obtain ⟨g',off',he,_,_,hc⟩:=h.cell hp
 cases he
 exact hc j v hj
theorem ins_shift (l vs:List Ch) (ys:List Value) (i:Nat) (hi:i≤l.length) (hy:ys.length=vs.length * 7) (X1:List Value)
 (h1:X1=(flat l++ys).take ((i+vs.length) * 7)++flat (l.drop i)++(flat l++ys).drop ((i+vs.length) * 7+(flat (l.drop i)).length)) :
 X1.take (i * 7)++flat vs++X1.drop (i * 7+(flat vs).length)=flat (l.take i++vs++l.drop i):=by
 have e0:(flat l++ys).drop ((i+vs.length) * 7+(flat (l.drop i)).length)=[]:=by
  apply List.drop_of_length_le
  rw [List.length_append,flat_length,flat_length,List.length_drop];omega
 rw [e0,List.append_nil] at h1
 have e1:((flat l++ys).take ((i+vs.length) * 7)).length=(i+vs.length) * 7:=by
  rw [List.length_take,List.length_append,flat_length,hy,Nat.add_mul,Nat.min_eq_left];omega
 have e2:X1.take (i * 7)=flat (l.take i):=by
  rw [h1,List.take_append_of_le_length (by rw [e1];omega),List.take_take,Nat.min_eq_left (by omega),List.take_append_of_le_length (by rw [flat_length];omega),flat_take]
 have e3:X1.drop (i * 7+(flat vs).length)=flat (l.drop i):=by
  rw [h1,flat_length]
  exact List.drop_left' (by rw [e1,Nat.add_mul])
 rw [e2,e3,flat_append,flat_append]
theorem ins_new (l vs:List Ch) (zs:List Value) (i:Nat) (hi:i≤l.length) (hz:zs.length=(l.length+vs.length - i) * 7) (X1:List Value)
 (h1:X1=(flat (l.take i)++zs).take (i * 7)++flat vs++(flat (l.take i)++zs).drop (i * 7+(flat vs).length)) :
 X1.take ((i+vs.length) * 7)++flat (l.drop i)++X1.drop ((i+vs.length) * 7+(flat (l.drop i)).length)=flat (l.take i++vs++l.drop i):=by
 have e0:(flat (l.take i)).length=i * 7:=by rw [flat_length,List.length_take,Nat.min_eq_left hi]
 have e1:(flat (l.take i)++zs).take (i * 7)=flat (l.take i):=List.take_left' e0
 rw [e1] at h1
 have e2:(flat (l.take i)++flat vs).length=(i+vs.length) * 7:=by rw [List.length_append,e0,flat_length,Nat.add_mul]
 have e3:X1.take ((i+vs.length) * 7)=flat (l.take i)++flat vs:=by rw [h1];exact List.take_left' e2
 have e4:X1.drop ((i+vs.length) * 7+(flat (l.drop i)).length)=[]:=by
  apply List.drop_of_length_le
  rw [h1]
  simp only [List.length_append,List.length_drop,e0,hz,flat_length]
  omega
 rw [e3,e4,List.append_nil,flat_append,flat_append]
set_option maxRecDepth 100000 in
set_option maxHeartbeats 2000000 in
theorem Insert_c (a va:Option Addr) (cap vcap:Nat) (l vs:List Ch) (i:Nat) (w:World) (base vbase:Nat) (h:OwnRow w base 125 7 a l.length cap (flat l)) (hv:OwnRow w vbase 125 7 va vs.length vcap (flat vs))
 (hi:i≤l.length) (hsz:(l.length+vs.length) * 56≤140737488355328) (hbase:base≤w.heap.size) (hne:∀ g,ownB a cap=some g→ownB va vcap≠some g) :
 Calls Tryz.prog 166 #[.slice a l.length cap,.int .i64 i,.slice va vs.length vcap] w fun e w'=>∃ a' cap',e=.returned (.slice a' (l.length+vs.length) cap')∧
  OwnRow w' base 125 7 a' (l.length+vs.length) cap' (flat (l.take i++vs++l.drop i))∧w.grownBy w' (ownB a cap):=by
 have hm:l.length≤maxLen:=Nat.le_trans h.le h.max
 have hvm:vs.length≤maxLen:=Nat.le_trans hv.le hv.max
 have hcm:=h.max
 have hlc:=h.le
 unfold maxLen at hm hvm hcm
 have hi' : (i:Int)≤l.length:=by omega
 by_cases hci:cap=i
 ·obtain rfl:i=l.length:=by omega
  subst hci
  by_cases hm0:vs.length=0
  ·obtain rfl:vs=[]:=List.eq_nil_of_length_eq_zero hm0
   have Hf:=Lib.hid (show l.take l.length++[]++l.drop l.length=l by simp)
   go_enter Tryz.func166,Tryz.ntmps166
   go_wp2
   go_ret
   exact ⟨a,l.length,rfl,by rw [Hf.out];exact h,grownBy_refl w _⟩
  ·have hvp:0 < vs.length:=by omega
   have hv0:((vs.length:Int)==0)=false:=by rw [beq_eq_false_iff_ne];omega
   obtain ⟨vg,voff,rfl,_,hvlt,_⟩:=hv.cell (by rw [flat_length];omega)
   have HVC:=Lib.hid (cells_of_own hv)
   clear hm0
   have Hf:=Lib.hid (show l.take l.length++vs++l.drop l.length=l++vs by simp)
   go_enter Tryz.func166,Tryz.ntmps166
   go_wp2_with (at_builtin;refine wpList_append_row _ rfl (.tmp 23) (.tmp 24) 91 rfl base 125 7 56 Tryz.underlying91 ti_Char a l.length l.length (flat l) rfl h (some ⟨vg,voff,none⟩) vs.length vcap (flat vs) rfl (flat_length vs) (.inr ⟨_,rfl,fun j u hu=>by rw [Addr.add_lit];exact HVC.out j u hu⟩) (flat_one vs) hsz hbase ?_)
   intro a3 cap3 w3 hown3 hg3
   go_wp2
   go_ret
   exact ⟨a3,cap3,rfl,by rw [Hf.out,flat_append];exact hown3,hg3⟩
 by_cases hm0:vs.length=0
 ·obtain rfl:vs=[]:=List.eq_nil_of_length_eq_zero hm0
  have Hf:=Lib.hid (show l.take i++[]++l.drop i=l by simp)
  go_enter Tryz.func166,Tryz.ntmps166
  go_wp2
  go_ret
  exact ⟨a,cap,rfl,by rw [Hf.out];simpa using h,grownBy_refl w _⟩
 have hvp:0 < vs.length:=by omega
 have hv0:((vs.length:Int)==0)=false:=by rw [beq_eq_false_iff_ne];omega
 obtain ⟨vg,voff,rfl,_,hvlt,_⟩:=hv.cell (by rw [flat_length];omega)
 have hvcap:vcap≠0:=by have:=hv.le;omega
 have HVC:=Lib.hid (cells_of_own hv)
 clear hm0
 by_cases hend:i=l.length
 ·subst hend
  have Hf:=Lib.hid (show l.take l.length++vs++l.drop l.length=l++vs by simp)
  go_enter Tryz.func166,Tryz.ntmps166
  go_wp2_with (at_builtin;refine wpList_append_row _ rfl (.tmp 23) (.tmp 24) 91 rfl base 125 7 56 Tryz.underlying91 ti_Char a l.length cap (flat l) rfl h (some ⟨vg,voff,none⟩) vs.length vcap (flat vs) rfl (flat_length vs) (.inr ⟨_,rfl,fun j u hu=>by rw [Addr.add_lit];exact HVC.out j u hu⟩) (flat_one vs) hsz hbase ?_)
  intro a3 cap3 w3 hown3 hg3
  go_wp2
  go_ret
  exact ⟨a3,cap3,rfl,by rw [Hf.out,flat_append];exact hown3,hg3⟩
 have hilt:i < l.length:=by omega
 have hi2:((i:Int)==(l.length:Int))=false:=by rw [beq_eq_false_iff_ne];omega
 obtain ⟨g,off,rfl,hbg,hglt,_⟩:=h.cell (by rw [flat_length];omega)
 have hcap0:¬ cap=0:=by omega
 have hob:ownB (some ⟨g,off,none⟩) cap=some g:=by simp [ownB,hcap0]
 have hgv:vg≠g:=by
  have:=hne g hob
  intro e;apply this;simp [ownB,hvcap,e]
 rw [hob]
 clear hend hne hob
 have HLC:=Lib.hid (cells_of_own h)
 obtain ⟨kA,_,hsa,hfa⟩:=hv.shape hvcap (by omega)
 obtain ⟨kB,hkB,hsb,hfb⟩:=h.shape hcap0 (by omega)
 have hov:∀ (lb cb o:Nat),(callFunc 184 #[.slice (some ⟨vg,voff,none⟩) vs.length vcap,.slice (some ⟨g,o,none⟩) lb cb]).run Tryz.prog w=.ok (.value (.bool false)) w:=fun lb cb o=>by
  rw [run_callFunc_extern Tryz.func184 (by kernel_rfl) (by kernel_rfl) (by kernel_rfl) (e:=Extern.SlicesOverlaps.overlaps #[91,91] #[4]) (by kernel_rfl),
   Lib.run_overlaps_apart w 91 4 125 Tryz.underlying91 7 (by intro w;kernel_rfl) ⟨vg,voff,none⟩ ⟨g,o,none⟩ vs.length vcap lb cb hgv 125 125 kA kB hsa hsb hkB (hfa _) (hfa _)]
  rfl
 clear hsa hsb hfa hfb hkB
 have HOV:=Lib.hid hov;clear hov
 have hw1:IntKind.i64.wrap ((i:Int)+(vs.length:Int))=(i:Int)+(vs.length:Int):=by rw [IntKind.wrap_i64];omega
 have hb1:(0:Int)≤(i:Int)+(vs.length:Int):=by omega
 have htn:((i:Int)+(vs.length:Int)).toNat=i+vs.length:=by omega
 have hb3:(i:Int)≤(l.length:Int)+(vs.length:Int):=by omega
 by_cases hroom:l.length+vs.length≤cap
 ·have hb2:¬ (cap=i+vs.length):=by omega
  obtain ⟨ys,hys,hW⟩:=h.widen vs.length hroom
  have HW:=Lib.hid hW;clear hW
  have hov:=HOV.out
  go_enter Tryz.func166,Tryz.ntmps166
  go_wp2_with (simp only [hov])
  clear hov HOV
  go_still_tail 8,(by kernel_rfl)
  change wpList _ _ _ _ _ w.drew
  have HW2:=Lib.hid HW.out.drew
  have hv2:=hv.drew
  have hgb0:w.grownBy w.drew (some g):=⟨rfl,rfl,rfl,Nat.le_refl _,fun _ _ _=>rfl⟩
  generalize w.drew=w2 at *
  clear HW HLC HVC h hv
  have hX:(flat l++ys).length=l.length * 7+vs.length * 7:=by rw [List.length_append,flat_length,hys]
  have HX:=Lib.hid hX;clear hX
  refine wpList_copy_own (cap:=cap) (n:=l.length+vs.length) (base:=base) rfl (.tmp 73) (.tmp 76) 91 91 rfl Tryz.underlying91 size_Char HW2.out rfl ((i+vs.length) * 7) (flat (l.drop i)) _ _ _ rfl rfl ⟨g,off+i * 7,none⟩ _ _ rfl ?_ ?_ ?_ (flat_one _) (by rw [HX.out];omega) ?_
  ·rw [flat_length,List.length_drop];simp only [Nat.min_def];split <;> omega
  ·intro j v hj
   rw [Addr.add_lit,Nat.add_assoc]
   refine cells_of_own HW2.out _ _ ?_
   have hlt:i * 7+j < (flat l).length:=by
    have h1:j < (flat (l.drop i)).length:=by
     rcases Nat.lt_or_ge j (flat (l.drop i)).length with h | h
     ·exact h
     ·rw [List.getElem?_eq_none h] at hj;cases hj
    rw [flat_length,List.length_drop] at h1;rw [flat_length];omega
   rw [List.getElem?_append_left hlt,← hj,← flat_drop,List.getElem?_drop]
  ·rw [HX.out,flat_length,List.length_drop];omega
  intro w3 ho3 hg3
  have hv3:=hv2.of_block (w':=w3) (fun k hk _ hlt=>hg3.block k hlt (by simp [ownB,hvcap] at hk;intro e;cases e;exact hgv hk))
  obtain ⟨X1,hX1⟩:∃ X1,X1=(flat l++ys).take ((i+vs.length) * 7)++flat (l.drop i)++(flat l++ys).drop ((i+vs.length) * 7+(flat (l.drop i)).length):=⟨_,rfl⟩
  rw [← hX1] at ho3
  have HF:=Lib.hid (ins_shift l vs ys i (by omega) hys X1 hX1)
  have HO3:=Lib.hid ho3;clear ho3 hX1 HW2 hv2
  have hXl:=HO3.out.len
  have HXL:=Lib.hid hXl;clear hXl
  go_wp2_with (refine wpList_copy_own (cap:=cap) (n:=l.length+vs.length) (base:=base) rfl (.tmp 80) (.tmp 81) 91 91 rfl Tryz.underlying91 size_Char HO3.out rfl (i * 7) (flat vs) _ _ _ rfl rfl ⟨vg,voff,none⟩ _ _ rfl (by rw [flat_length];simp only [Nat.min_def];split <;> omega) (fun j v hj=>by rw [Addr.add_lit];exact cells_of_own hv3 _ _ hj) (by rw [HXL.out,flat_length];omega) (flat_one _) (by rw [HXL.out];omega) ?_)
  intro w4 ho4 hg4
  have eF:=HF.out
  rw [List.append_assoc] at eF
  rw [eF] at ho4
  clear eF
  have HO4:=Lib.hid ho4;clear ho4
  go_wp2
  go_ret
  exact ⟨_,cap,rfl,HO4.out,grownBy_trans (grownBy_trans hgb0 hg3) hg4⟩
 ·clear HOV
  obtain ⟨k,hk⟩:∃ k,k=l.length+vs.length - i:=⟨_,rfl⟩
  have hkk:(l.length:Int)+(vs.length:Int) - (i:Int)=(k:Int):=by omega
  have hik:i+k=l.length+vs.length:=by omega
  have hk0:0 < k:=by omega
  have hro:(cap:Int) < (l.length:Int)+(vs.length:Int):=by omega
  have hT:=h.take i (by omega)
  rw [flat_take] at hT
  have HT:=Lib.hid hT;clear hT
  have HK:=Lib.hid hk;clear hk
  have hgi:g < w.heap.size:=hglt
  have HIK:=Lib.hid hik;clear hik
  go_enter Tryz.func166,Tryz.ntmps166
  go_wp2_with (at_builtin;refine wpList_append_zeros _ rfl (.tmp 34) (.tmp 39) 91 3 .i64 rfl base 125 7 56 Tryz.underlying91 Tryz.underlying3 ti_Char (by omega) (some ⟨g,off,none⟩) i cap (flat (l.take i)) rfl HT.out (by rw [flat_length,List.length_take];omega) k rfl hk0 (by have:=HIK.out;omega) (by rw [HIK.out];omega) ?_)
  intro G zs w1 ho1 hz1 hb1 hlt1
  rw [HIK.out] at ho1 ⊢
  have hGn:=ho1.le
  have hGm:=ho1.max
  unfold maxLen at hGm
  have hGi:¬ (G=i):=by omega
  have hGim:¬ (G=i+vs.length):=by omega
  have hGc:(l.length:Int)+(vs.length:Int)≤G:=by omega
  have hv1:=hv.below hb1
  have h1:=h.below hb1
  have HX:=Lib.hid (show (flat (l.take i)++zs).length=(l.length+vs.length) * 7 by rw [List.length_append,flat_length,List.length_take,hz1,HK.out];omega)
  have HZ:=Lib.hid (show zs.length=(l.length+vs.length - i) * 7 by rw [hz1,HK.out])
  have HO1:=Lib.hid ho1
  clear ho1 hz1 hkk hk0 HK HIK HT h hv
  have hgN:g≠w.heap.size:=by omega
  have hvN:vg≠w.heap.size:=by omega
  go_wp2_with (refine wpList_copy_own (cap:=G) (n:=l.length+vs.length) (base:=w.heap.size) rfl (.tmp 43) (.tmp 44) 91 91 rfl Tryz.underlying91 size_Char HO1.out rfl (i * 7) (flat vs) _ _ _ rfl (by rw [Nat.zero_add]) ⟨vg,voff,none⟩ _ _ rfl (by rw [flat_length];simp only [Nat.min_def];split <;> omega) (fun j v hj=>by rw [Addr.add_lit];exact cells_of_own hv1 _ _ hj) (by rw [HX.out,flat_length];omega) (flat_one _) (by rw [HX.out];omega) ?_)
  intro w2 ho2 hg2
  obtain ⟨X1,hX1⟩:∃ X1,X1=(flat (l.take i)++zs).take (i * 7)++flat vs++(flat (l.take i)++zs).drop (i * 7+(flat vs).length):=⟨_,rfl⟩
  rw [List.append_assoc] at hX1
  rw [← hX1] at ho2
  rw [← List.append_assoc] at hX1
  have HF:=Lib.hid (ins_new l vs zs i (by omega) HZ.out X1 hX1)
  have HO2:=Lib.hid ho2
  have HXL:=Lib.hid ho2.len
  have h2:=h1.of_block (w':=w2) (fun q hq _ hlt=>hg2.block q hlt (by simp [ownB,hcap0] at hq;intro e;cases e;exact hgN hq))
  have hb2:Below w.heap.size w w2:=hb1.trans (below_grownBy hg2 (by omega) (by simp))
  clear hX1 HO1 HX HZ h1 hv1 ho2 hb1 hg2 HVC HLC
  go_wp2_with fail
  go_still_tail 8,(by kernel_rfl)
  change wpList _ _ _ _ _ w2.drew
  have HO3:=Lib.hid HO2.out.drew
  have h3:=h2.drew
  have hb3:Below w.heap.size w w2.drew:=hb2.trans ⟨rfl,rfl,rfl,Nat.le_refl _,fun _ _=>rfl⟩
  generalize w2.drew=w3 at *
  clear HO2 h2 hb2
  refine wpList_copy_own (cap:=G) (n:=l.length+vs.length) (base:=w.heap.size) rfl (.tmp 50) (.tmp 53) 91 91 rfl Tryz.underlying91 size_Char HO3.out rfl ((i+vs.length) * 7) (flat (l.drop i)) _ _ _ rfl (by rw [Nat.zero_add]) ⟨g,off+i * 7,none⟩ _ _ rfl ?_ ?_ ?_ (flat_one _) (by rw [HXL.out];omega) ?_
  ·rw [flat_length,List.length_drop];simp only [Nat.min_def];split <;> omega
  ·intro j v hj
   rw [Addr.add_lit,Nat.add_assoc]
   refine cells_of_own h3 _ _ ?_
   rw [← hj,← flat_drop,List.getElem?_drop]
  ·rw [HXL.out,flat_length,List.length_drop];omega
  intro w4 ho4 hg4
  rw [HF.out] at ho4
  have HO4:=Lib.hid (ho4.mono hbase)
  have HE:=Lib.hid (grownBy_below (hb3.trans (below_grownBy hg4 (by have:=hb3.size;omega) (by simp))) (some g))
  clear ho4 hg4 HO3 h3 hb3
  go_wp2
  go_ret
  exact ⟨_,G,rfl,HO4.out,HE.out⟩
end Go.Proofs.YtneoeokfffnonaaGreatDoor
namespace Go.Proofs.YtneoeokfffnonaaGreatDoor
open Go.RowKit
structure DdAt (w:World) (b:Nat) (d:Dd):Prop where
 lt:b < w.heap.size
 c0:w.cell? ⟨b,0,none⟩=some (.int .i64 d.Kind)
 c1:w.cell? ⟨b,1,none⟩=some (.int .i64 d.By)
 c2:w.cell? ⟨b,2,none⟩=some (.int .i64 d.No)
 c3:w.cell? ⟨b,3,none⟩=some (.int .i64 d.Seen)
 c4:w.cell? ⟨b,4,none⟩=some (.int .i64 d.At)
 c5:w.cell? ⟨b,5,none⟩=some (.int .i64 d.Many)
 c6:w.cell? ⟨b,6,none⟩=some (.string d.Text)
theorem DdAt.new (w:World) (d:Dd):DdAt (w.alloc (.cells #[.int .i64 d.Kind,.int .i64 d.By,.int .i64 d.No,.int .i64 d.Seen,.int .i64 d.At,.int .i64 d.Many,.string d.Text] 122)) w.heap.size d:=by
 refine ⟨by simp,?_,?_,?_,?_,?_,?_,?_⟩ <;> simp
theorem DdAt.of_block {w w' : World} {b:Nat} {d:Dd} (h:DdAt w b d) (hs:w.heap.size≤w'.heap.size) (hb:w'.heap[b]? = w.heap[b]?):DdAt w' b d:=by
 have k:∀ o,w'.cell? ⟨b,o,none⟩=w.cell? ⟨b,o,none⟩:=fun o=>World.cell?_of_block (w:=w) hb
 exact ⟨Nat.lt_of_lt_of_le h.lt hs,(k _).trans h.c0,(k _).trans h.c1,(k _).trans h.c2,(k _).trans h.c3,(k _).trans h.c4,(k _).trans h.c5,(k _).trans h.c6⟩
theorem DdAt.later {w w' : World} {b:Nat} {d:Dd} (h:DdAt w b d) (hl:Below w.heap.size w w'):DdAt w' b d:=h.of_block hl.size (hl.block b h.lt)
theorem below_drew (w:World) (B:Nat):Below B w w.drew:=⟨rfl,rfl,rfl,Nat.le_refl _,fun _ _=>rfl⟩
theorem newOf_snoc (d:Dd) (n:Int) (k:Nat) (h:k < d.Text.size):(newOf d n).take (k+1)=(newOf d n).take k++[⟨(d.Text[k].toNat:Int),d.By,d.No,k,n,0,0⟩]:=by
 have hl:k < (newOf d n).length:=by rw [newOf_length];exact h
 have hb:k < (bytesOf d.Text).length:=by rw [bytesOf_length];exact h
 have e:(bytesOf d.Text)[k]=(d.Text[k].toNat:Int):=by
  have:=bytesOf_get d.Text k h;rw [List.getElem?_eq_getElem hb] at this;exact Option.some.inj this
 have g:(newOf d n)[k]=⟨(bytesOf d.Text)[k],d.By,d.No,k,n,0,0⟩:=by simp [newOf]
 rw [List.take_succ_eq_append_getElem hl,g,e]
set_option maxHeartbeats 1000000 in
theorem New_c (d:Dd) (n:Int) (w:World) (hs:d.Text.size * 56≤140737488355328) :
 Calls Tryz.prog 168 #[.agg #[.int .i64 d.Kind,.int .i64 d.By,.int .i64 d.No,.int .i64 d.Seen,.int .i64 d.At,.int .i64 d.Many,.string d.Text],.int .i64 n] w fun e w'=>∃ a' cap',e=.returned (.slice a' (newOf d n).length cap')∧
  OwnRow w' w.heap.size 125 7 a' (newOf d n).length cap' (flat (newOf d n))∧Below w.heap.size w w':=by
 have HL:=Lib.hid (newOf_length d n)
 have hb0:=(Below.refl w.heap.size w).alloc (Nat.le_refl _) (.cells #[.int .i64 d.Kind,.int .i64 d.By,.int .i64 d.No,.int .i64 d.Seen,.int .i64 d.At,.int .i64 d.Many,.string d.Text] 122)
 have hd0:=DdAt.new w d
 have hsz:d.Text.size≤9223372036854775807:=by omega
 go_enter Tryz.func168,Tryz.ntmps168
 go_upto_region 1 with fail
 generalize hw0:w.alloc (.cells #[.int .i64 d.Kind,.int .i64 d.By,.int .i64 d.No,.int .i64 d.Seen,.int .i64 d.At,.int .i64 d.Many,.string d.Text] 122)=w0 at *
 clear hw0
 obtain ⟨dlt,d0,d1,d2,d3,d4,d5,d6⟩:=hd0
 go_wp2
 go_loopw [5,6,10] (fun s5 s6 i wr=>∃ (k:Nat) (a' : Option Addr) (cap' : Nat),k≤d.Text.size∧i=.int .i64 k∧s5=.slice a' k cap'∧OwnRow wr w0.heap.size 125 7 a' k cap' (flat ((newOf d n).take k))∧Below w0.heap.size w0 wr) (fun _ _ i _=>d.Text.size - (intOf i).toNat)
 case atStart=>exact ⟨0,none,0,Nat.zero_le _,rfl,rfl,OwnRow.nil _ _ _ _ _,Below.refl _ _⟩
 case round=>
  obtain ⟨k,a',cap',hk,rfl,rfl,hown,hb1⟩:=hrel
  obtain ⟨hc1,hf1⟩:=bcell hb1
  by_cases hlt:k < d.Text.size
  ·have HS:=Lib.hid (newOf_snoc d n k hlt)
   have HO:=Lib.hid hown;clear hown
   have c1:=(hc1 _ 1 dlt).trans d1
   have c2:=(hc1 _ 2 dlt).trans d2
   have c6:=(hc1 _ 6 dlt).trans d6
   have hlt' : (k:Int) < d.Text.size:=by omega
   have hk0:(0:Int)≤(k:Int):=by omega
   clear hc1 hf1 d0 d1 d2 d3 d4 d5 d6
   go_upto_region 5 with fail
   go_region_held3 (fun w'=>w'.cell? ⟨w.heap.size,1,none⟩=some (.int .i64 d.By)∧w'.cell? ⟨w.heap.size,2,none⟩=some (.int .i64 d.No)∧w'.cell? ⟨w.heap.size,6,none⟩=some (.string d.Text))
    (first
      | go_keep
      | exact ⟨(hb3.cell (p:=⟨w.heap.size,1,none⟩) dlt).trans c1,(hb3.cell (p:=⟨w.heap.size,2,none⟩) dlt).trans c2,(hb3.cell (p:=⟨w.heap.size,6,none⟩) dlt).trans c6⟩)
    ((refine step_append_new (wb:=wr.drew) rfl _ _ 91 rfl w0.heap.size 125 7 56 Tryz.underlying91 ti_Char a' k cap' _ rfl HO.out.drew 1 1 _ rfl rfl (Ch.cells_one ⟨(d.Text[k].toNat:Int),d.By,d.No,k,n,0,0⟩) (by omega) hb1.size ?_
      intro a3 cap3 w3 hown3 hb3 hz3 hg3))
   have hfin:OwnRow w3 w0.heap.size 125 7 a3 (k+1) cap3 (flat ((newOf d n).take (k+1))):=by
    rw [HS.out,flat_append];exact hown3
   have HFin:=Lib.hid hfin
   have hbn:Below w0.heap.size w0 w3:=hb1.trans ((below_drew wr _).trans hb3)
   clear hfin hown3 HO HS c1 c2 c6
   go_wp2
   exact ⟨⟨k+1,a3,cap3,by omega,by go_num,rfl,HFin.out,hbn⟩,by simp [intOf];omega⟩
  ·obtain rfl:k=d.Text.size:=by omega
   have HT:=Lib.hid (show (newOf d n).take d.Text.size=newOf d n by rw [← HL.out];exact List.take_length)
   have HE:=Lib.hid (show Below w.heap.size w wr from hb0.trans (hb1.mono hb0.size))
   have HO:=Lib.hid (hown.mono hb0.size)
   have c6:=(hc1 _ 6 dlt).trans d6
   clear hc1 hf1 hown d0 d1 d2 d3 d4 d5 d6
   go_wp2
   go_ret
   refine ⟨a',cap',by rw [HL.out];rfl,?_,HE.out⟩
   rw [HL.out,← HT.out];exact HO.out
set_option maxHeartbeats 1000000 in
theorem BytesOf_c (d:Dd) (n:Int) (w:World) (hs:d.Text.size * 56≤140737488355328) :
 Calls Tryz.prog 148 #[.agg #[.int .i64 d.Kind,.int .i64 d.By,.int .i64 d.No,.int .i64 d.Seen,.int .i64 d.At,.int .i64 d.Many,.string d.Text],.int .i64 n] w fun e w'=>∃ a' cap',e=.returned (.slice a' (newOf d n).length cap')∧
  OwnRow w' w.heap.size 125 7 a' (newOf d n).length cap' (flat (newOf d n))∧Below w.heap.size w w':=by
 have HL:=Lib.hid (newOf_length d n)
 have hb0:=(Below.refl w.heap.size w).alloc (Nat.le_refl _) (.cells #[.int .i64 d.Kind,.int .i64 d.By,.int .i64 d.No,.int .i64 d.Seen,.int .i64 d.At,.int .i64 d.Many,.string d.Text] 122)
 have hd0:=DdAt.new w d
 have hsz:d.Text.size≤9223372036854775807:=by omega
 go_enter Tryz.func148,Tryz.ntmps148
 go_upto_region 1 with fail
 generalize hw0:w.alloc (.cells #[.int .i64 d.Kind,.int .i64 d.By,.int .i64 d.No,.int .i64 d.Seen,.int .i64 d.At,.int .i64 d.Many,.string d.Text] 122)=w0 at *
 clear hw0
 obtain ⟨dlt,d0,d1,d2,d3,d4,d5,d6⟩:=hd0
 go_wp2
 go_loopw [5,6] (fun s5 i wr=>∃ (k:Nat) (a' : Option Addr) (cap' : Nat),k≤d.Text.size∧i=.int .i64 k∧s5=.slice a' k cap'∧OwnRow wr w0.heap.size 125 7 a' k cap' (flat ((newOf d n).take k))∧Below w0.heap.size w0 wr) (fun _ i _=>d.Text.size - (intOf i).toNat)
 case atStart=>exact ⟨0,none,0,Nat.zero_le _,rfl,rfl,OwnRow.nil _ _ _ _ _,Below.refl _ _⟩
 case round=>
  obtain ⟨k,a',cap',hk,rfl,rfl,hown,hb1⟩:=hrel
  obtain ⟨hc1,hf1⟩:=bcell hb1
  by_cases hlt:k < d.Text.size
  ·have HS:=Lib.hid (newOf_snoc d n k hlt)
   have HO:=Lib.hid hown;clear hown
   have c1:=(hc1 _ 1 dlt).trans d1
   have c2:=(hc1 _ 2 dlt).trans d2
   have c6:=(hc1 _ 6 dlt).trans d6
   have hlt' : (k:Int) < d.Text.size:=by omega
   have hk0:(0:Int)≤(k:Int):=by omega
   clear hc1 hf1 d0 d1 d2 d3 d4 d5 d6
   go_upto_region 5 with fail
   go_region_held3 (fun w'=>w'.cell? ⟨w.heap.size,1,none⟩=some (.int .i64 d.By)∧w'.cell? ⟨w.heap.size,2,none⟩=some (.int .i64 d.No)∧w'.cell? ⟨w.heap.size,6,none⟩=some (.string d.Text))
    (first
      | go_keep
      | exact ⟨(hb3.cell (p:=⟨w.heap.size,1,none⟩) dlt).trans c1,(hb3.cell (p:=⟨w.heap.size,2,none⟩) dlt).trans c2,(hb3.cell (p:=⟨w.heap.size,6,none⟩) dlt).trans c6⟩)
    ((refine step_append_new (wb:=wr.drew) rfl _ _ 91 rfl w0.heap.size 125 7 56 Tryz.underlying91 ti_Char a' k cap' _ rfl HO.out.drew 1 1 _ rfl rfl (Ch.cells_one ⟨(d.Text[k].toNat:Int),d.By,d.No,k,n,0,0⟩) (by omega) hb1.size ?_
      intro a3 cap3 w3 hown3 hb3 hz3 hg3))
   have hfin:OwnRow w3 w0.heap.size 125 7 a3 (k+1) cap3 (flat ((newOf d n).take (k+1))):=by
    rw [HS.out,flat_append];exact hown3
   have HFin:=Lib.hid hfin
   have hbn:Below w0.heap.size w0 w3:=hb1.trans ((below_drew wr _).trans hb3)
   clear hfin hown3 HO HS c1 c2 c6
   go_wp2
   exact ⟨⟨k+1,a3,cap3,by omega,by go_num,rfl,HFin.out,hbn⟩,by simp [intOf];omega⟩
  ·obtain rfl:k=d.Text.size:=by omega
   have HT:=Lib.hid (show (newOf d n).take d.Text.size=newOf d n by rw [← HL.out];exact List.take_length)
   have HE:=Lib.hid (show Below w.heap.size w wr from hb0.trans (hb1.mono hb0.size))
   have HO:=Lib.hid (hown.mono hb0.size)
   have c6:=(hc1 _ 6 dlt).trans d6
   clear hc1 hf1 hown d0 d1 d2 d3 d4 d5 d6
   go_wp2
   go_ret
   refine ⟨a',cap',by rw [HL.out];rfl,?_,HE.out⟩
   rw [HL.out,← HT.out];exact HO.out
set_option maxHeartbeats 1000000 in
theorem May_c (a:Option Addr) (cap:Nat) (l:List Ch) (d:Dd) (w:World) (hs:SlCh w a cap l) (hsz:l.length≤140737488355328) (ht:d.Text.size≤maxLen) (_:i64ok d.Many) :
 Calls Tryz.prog 165 #[.slice a l.length cap,.agg #[.int .i64 d.Kind,.int .i64 d.By,.int .i64 d.No,.int .i64 d.Seen,.int .i64 d.At,.int .i64 d.Many,.string d.Text]] w fun e w'=>e=.returned (.int .i64 (mayDo l d))∧Below w.heap.size w w':=by
 have hb0:=(Below.refl w.heap.size w).alloc (Nat.le_refl _) (.cells #[.int .i64 d.Kind,.int .i64 d.By,.int .i64 d.No,.int .i64 d.Seen,.int .i64 d.At,.int .i64 d.Many,.string d.Text] 122)
 have hd0:=DdAt.new w d
 have hs0:=hs.below hb0
 have hv:=vis_le d.Seen d.By l
 have hti:d.Text.size≤maxLen:=ht
 clear ht
 clear hs
 go_enter Tryz.func165,Tryz.ntmps165
 go_upto_region 1 with fail
 generalize hw0:w.alloc (.cells #[.int .i64 d.Kind,.int .i64 d.By,.int .i64 d.No,.int .i64 d.Seen,.int .i64 d.At,.int .i64 d.Many,.string d.Text] 122)=w0 at *
 clear hw0
 obtain ⟨dlt,d0,d1,d2,d3,d4,d5,d6⟩:=hd0
 have hd0:DdAt w0 w.heap.size d:=⟨dlt,d0,d1,d2,d3,d4,d5,d6⟩
 go_wp2_with fail
 refine (DCheck_c d _ hti).mono ?_
 rintro e w1 ⟨rfl,hb1⟩
 have hd1:=hd0.later hb1
 have hx1:=hb0.trans (hb1.mono hb0.size)
 have hs1:=hs0.below hb1
 clear hb1 hd0 d0 d1 d2 d3 d4 d5 d6 dlt hs0 hb0 hti
 by_cases hf:deedFault d=0
 case neg=>
  have Hf:=Lib.hid (show mayDo l d=deedFault d by unfold mayDo;rw [if_neg hf])
  have hne:(deedFault d !=0)=true:=by simpa using hf
  clear hf
  go_wp2
  go_ret
  exact ⟨by rw [Hf.out];rfl,hx1⟩
 have Hf:=Lib.hid (show mayDo l d=if ((vis d.Seen d.By l).length:Int) < d.At+d.Many then 1 else if 200 < l.length+d.Text.size then 9 else 0 by unfold mayDo;rw [if_pos hf])
 rw [hf]
 have hz:=deedFault_zero hf
 obtain ⟨_,_,_,_,hse,hat,hat2,hq⟩:=hz
 have htx:d.Text.size≤20:=by
  rcases hq with ⟨_,_,h⟩ | ⟨_,_,_,h⟩
  ·unfold textOk at h;simp only [Bool.and_eq_true,decide_eq_true_eq] at h;exact h.1.2
  ·omega
 obtain ⟨N,hN⟩:∃ N,N=(vis d.Seen d.By l).length:=⟨_,rfl⟩
 rw [← hN] at hv Hf
 have hC:∀ w,SlCh w a cap l→Calls Tryz.prog 183 #[.slice a l.length cap,.int .i64 d.Seen,.int .i64 d.By] w fun e w'=>e=.returned (.int .i64 (N:Nat))∧Below w.heap.size w w':=fun w hs=>by
  rw [hN];exact Count_c a cap l _ _ w hs hsz
 have HC:=Lib.hid hC
 clear hf hN hC
 obtain ⟨dl,d0,d1,d2,d3,d4,d5,d6⟩:=hd1
 have hd1:DdAt w1 w.heap.size d:=⟨dl,d0,d1,d2,d3,d4,d5,d6⟩
 go_wp2_with fail
 refine (HC.out _ hs1).mono ?_
 rintro e w2 ⟨rfl,hb2⟩
 have HX:=Lib.hid (hx1.trans (hb2.mono hx1.size))
 have hd2:=hd1.later hb2
 clear hb2 hd1 dl d0 d1 d2 d3 d4 d5 d6 hs1 hx1 HC
 obtain ⟨B,hB1,hB2⟩:∃ B:Bool,decide ((200:Int) < (l.length:Int)+(d.Text.size:Int))=B∧(if 200 < l.length+d.Text.size then (9:Int) else 0)=if B then 9 else 0:=by
  by_cases h:200 < l.length+d.Text.size
  ·exact ⟨true,by simp;omega,by rw [if_pos h];rfl⟩
  ·exact ⟨false,by simp;omega,by rw [if_neg h];rfl⟩
 have HB2:=Lib.hid hB2;clear hB2
 rcases hq with ⟨hk,hm0,_⟩ | ⟨hk,hm1,hm2,ht0⟩
 ·by_cases h1:(N:Int) < d.At
  ·have Hf2:=Lib.hid (show mayDo l d=1 by rw [Hf.out,if_pos (by omega)])
   obtain ⟨kind,by_,no,seen,at_,many,text⟩:=d
   simp only at *
   subst hk;subst hm0
   obtain ⟨dl,d0,d1,d2,d3,d4,d5,d6⟩:=hd2
   clear Hf hB1 HB2
   go_wp2
   go_ret
   exact ⟨by rw [Hf2.out];rfl,HX.out⟩
  ·have Hf2:=Lib.hid (show mayDo l d=if B then 9 else 0 by rw [Hf.out,if_neg (by omega),HB2.out])
   obtain ⟨kind,by_,no,seen,at_,many,text⟩:=d
   simp only at *
   subst hk;subst hm0
   obtain ⟨dl,d0,d1,d2,d3,d4,d5,d6⟩:=hd2
   clear Hf HB2
   cases B
   all_goals
    go_wp2
    go_ret
    exact ⟨by rw [Hf2.out];rfl,HX.out⟩
 ·clear ht0
  by_cases h1:(N:Int) < d.At
  ·have Hf2:=Lib.hid (show mayDo l d=1 by rw [Hf.out,if_pos (by omega)])
   obtain ⟨kind,by_,no,seen,at_,many,text⟩:=d
   simp only at *
   subst hk
   obtain ⟨dl,d0,d1,d2,d3,d4,d5,d6⟩:=hd2
   clear Hf hB1 HB2
   go_wp2
   go_ret
   exact ⟨by rw [Hf2.out];rfl,HX.out⟩
  ·have hsub:IntKind.i64.wrap ((N:Int) - d.At)=(N:Int) - d.At:=by rw [IntKind.wrap_i64];omega
   by_cases h2:(N:Int) - d.At < d.Many
   ·have Hf2:=Lib.hid (show mayDo l d=1 by rw [Hf.out,if_pos (by omega)])
    obtain ⟨kind,by_,no,seen,at_,many,text⟩:=d
    simp only at *
    subst hk
    obtain ⟨dl,d0,d1,d2,d3,d4,d5,d6⟩:=hd2
    have hh:decide ((N:Int) - at_ < many)=true:=by simpa using h2
    clear Hf hB1 HB2
    go_wp2
    go_ret
    exact ⟨by rw [Hf2.out];rfl,HX.out⟩
   ·have Hf2:=Lib.hid (show mayDo l d=if B then 9 else 0 by rw [Hf.out,if_neg (by omega),HB2.out])
    obtain ⟨kind,by_,no,seen,at_,many,text⟩:=d
    simp only at *
    subst hk
    obtain ⟨dl,d0,d1,d2,d3,d4,d5,d6⟩:=hd2
    have hh:decide ((N:Int) - at_ < many)=false:=by simpa using h2
    clear Hf HB2
    cases B
    all_goals
     go_wp2
     go_ret
     exact ⟨by rw [Hf2.out];rfl,HX.out⟩
end Go.Proofs.YtneoeokfffnonaaGreatDoor
