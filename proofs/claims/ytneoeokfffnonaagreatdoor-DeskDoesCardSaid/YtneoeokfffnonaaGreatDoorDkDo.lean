/- Printed by gendkdo.py: the walk of desks' Do. -/
import Derived.Test.YtneoeokfffnonaaGreatDoorDkW
set_option linter.unusedVariables false
set_option linter.unusedSimpArgs false
namespace Go.Proofs.YtneoeokfffnonaaGreatDoor
open Go.RowKit
def DStep.ok' (x:DStep):Prop:=i64ok x.Many∧x.Text.size≤maxLen
section
variable {w:World} {base:Nat} {F:Nat→Prop} {g:Nat} {gw:Nat→Nat} {d:DkM}
def DoPost (w:World) (base:Nat) (F:Nat→Prop) (g:Nat) (gw:Nat→Nat) (d:DkM) (x:DStep) (e:Ending) (w' : World):Prop:=
 e=.returned (.int .i64 (d.step x).2)∧DPost w base F g gw d (d.step x).1 w'
theorem DPost.after {d' : DkM} {w0 w' : World} (hb:Below w.heap.size w w0) (h:DPost w0 base F g gw d d' w'):DPost w base F g gw d d' w':=by
 obtain ⟨F',gw',h1,h2,h3,h4⟩:=h
 refine ⟨F',gw',h1,(Moves.of_below (F:=F) hb).trans h2 (fun _ _ k=>k),fun k hk=>?_,h4⟩
 rcases h3 k hk with h | h
 ·exact .inl h
 ·exact .inr (Nat.le_trans hb.size h)
theorem WM.did_v (m:WM) (hw:isWriter m.me=true) (k a n:Int) (t:ByteArray):(m.v).did ⟨k,0,0,0,a,n,t⟩=(m.doF (m.deed k a n t)).v:=by
 have e:(m.v).deed ⟨k,0,0,0,a,n,t⟩=m.deed k a n t:=rfl
 have ec:(m.doF (m.deed k a n t)).chars=ap m.chars (m.deed k a n t) 1073741824:=by
  simp only [WM.chars,WM.ds,WM.doF,List.map_append,List.map_cons,List.map_nil,apOs,List.foldl_append,List.foldl_cons,List.foldl_nil];rfl
 unfold WrV.did
 rw [e]
 have et:tookOf m.chars (ap m.chars (m.deed k a n t) 1073741824) (m.deed k a n t)=takenOf m.chars (m.deed k a n t):=tookOf_ap m.chars (m.deed k a n t) 1073741824 hw
 show (⟨m.me,m.seen,m.next+1,ap m.chars (m.deed k a n t) 1073741824,m.opn++[⟨m.deed k a n t,tookOf m.chars (ap m.chars (m.deed k a n t) 1073741824) (m.deed k a n t)⟩],m.ns⟩:WrV)=⟨m.me,m.seen,m.next+1,(m.doF (m.deed k a n t)).chars,m.opn++[⟨m.deed k a n t,takenOf m.chars (m.deed k a n t)⟩],m.ns⟩
 rw [ec,et]
set_option maxRecDepth 100000 in
theorem DDo_kind (h:DkAt w base F g gw d) (ho:d.Ok) (x:DStep) (hk:x.Kind < 1∨7 < x.Kind) :
 Calls Tryz.prog 48 #[.pointer (some ⟨g,0,none⟩),.agg #[.int .i64 x.Kind,.int .i64 x.W,.int .i64 x.At,.int .i64 x.Many,.string x.Text]] w (DoPost w base F g gw d x):=by
 have HS:=Lib.hid (show d.step x=(d,2) from by
  unfold DkM.step
  rw [if_pos hk])
 have hb0:=(Below.refl w.heap.size w).alloc (Nat.le_refl _) (.cells #[.int .i64 x.Kind,.int .i64 x.W,.int .i64 x.At,.int .i64 x.Many,.string x.Text] 76)
 have HB0:=Lib.hid hb0
 have HD0:=Lib.hid (h.later hb0)
 have b0:(w.alloc (.cells #[.int .i64 x.Kind,.int .i64 x.W,.int .i64 x.At,.int .i64 x.Many,.string x.Text] 76)).cell? ⟨w.heap.size,0,none⟩=some (.int .i64 x.Kind):=by simp
 have b1:(w.alloc (.cells #[.int .i64 x.Kind,.int .i64 x.W,.int .i64 x.At,.int .i64 x.Many,.string x.Text] 76)).cell? ⟨w.heap.size,1,none⟩=some (.int .i64 x.W):=by simp
 have b2:(w.alloc (.cells #[.int .i64 x.Kind,.int .i64 x.W,.int .i64 x.At,.int .i64 x.Many,.string x.Text] 76)).cell? ⟨w.heap.size,2,none⟩=some (.int .i64 x.At):=by simp
 have b3:(w.alloc (.cells #[.int .i64 x.Kind,.int .i64 x.W,.int .i64 x.At,.int .i64 x.Many,.string x.Text] 76)).cell? ⟨w.heap.size,3,none⟩=some (.int .i64 x.Many):=by simp
 have b4:(w.alloc (.cells #[.int .i64 x.Kind,.int .i64 x.W,.int .i64 x.At,.int .i64 x.Many,.string x.Text] 76)).cell? ⟨w.heap.size,4,none⟩=some (.string x.Text):=by simp
 have HO:=Lib.hid ho
 have HK:=Lib.hid hk
 clear hb0 h ho hk
 go_enter Tryz.func48,Tryz.ntmps48
 go_upto_region 1 with fail
 generalize hw0:w.alloc _=w0
 have hw0' : w.alloc (.cells #[.int .i64 x.Kind,.int .i64 x.W,.int .i64 x.At,.int .i64 x.Many,.string x.Text] 76)=w0:=hw0
 rw [hw0'] at HB0 HD0 b0 b1 b2 b3 b4
 clear hw0 hw0'
 generalize w.heap.size=X at b0 b1 b2 b3 b4 ⊢
 have hk:=HK.out
 have h1:decide (x.Kind < 1)=true∨(decide (x.Kind < 1)=false∧decide (x.Kind > 7)=true):=by
  by_cases e:x.Kind < 1
  ·exact .inl (decide_eq_true e)
  ·exact .inr ⟨decide_eq_false e,decide_eq_true (by omega)⟩
 clear hk
 rcases h1 with h1 | ⟨h1,h2⟩
 all_goals
  go_wp2
  go_ret
  exact ⟨by rw [HS.out];rfl,by rw [HS.out];exact DPost.after HB0.out (DPost.same HD0.out (Moves.refl _ _))⟩
set_option maxRecDepth 100000 in
theorem DDo_join (h:DkAt w base F g gw d) (ho:d.Ok) (x:DStep) (hk:x.Kind=1) :
 Calls Tryz.prog 48 #[.pointer (some ⟨g,0,none⟩),.agg #[.int .i64 x.Kind,.int .i64 x.W,.int .i64 x.At,.int .i64 x.Many,.string x.Text]] w (DoPost w base F g gw d x):=by
 have HS:=Lib.hid (show d.step x=(if (d.lm.joinF x.W).2.2=0 then (d.set (d.lm.joinF x.W).1 x.W (some (WM.new d.lm x.W)),0) else (d,(d.lm.joinF x.W).2.2)) from by
  unfold DkM.step
  rw [if_neg (by omega),if_pos hk])
 have hb0:=(Below.refl w.heap.size w).alloc (Nat.le_refl _) (.cells #[.int .i64 x.Kind,.int .i64 x.W,.int .i64 x.At,.int .i64 x.Many,.string x.Text] 76)
 have HB0:=Lib.hid hb0
 have HD0:=Lib.hid (h.later hb0)
 have b0:(w.alloc (.cells #[.int .i64 x.Kind,.int .i64 x.W,.int .i64 x.At,.int .i64 x.Many,.string x.Text] 76)).cell? ⟨w.heap.size,0,none⟩=some (.int .i64 x.Kind):=by simp
 have b1:(w.alloc (.cells #[.int .i64 x.Kind,.int .i64 x.W,.int .i64 x.At,.int .i64 x.Many,.string x.Text] 76)).cell? ⟨w.heap.size,1,none⟩=some (.int .i64 x.W):=by simp
 have b2:(w.alloc (.cells #[.int .i64 x.Kind,.int .i64 x.W,.int .i64 x.At,.int .i64 x.Many,.string x.Text] 76)).cell? ⟨w.heap.size,2,none⟩=some (.int .i64 x.At):=by simp
 have b3:(w.alloc (.cells #[.int .i64 x.Kind,.int .i64 x.W,.int .i64 x.At,.int .i64 x.Many,.string x.Text] 76)).cell? ⟨w.heap.size,3,none⟩=some (.int .i64 x.Many):=by simp
 have b4:(w.alloc (.cells #[.int .i64 x.Kind,.int .i64 x.W,.int .i64 x.At,.int .i64 x.Many,.string x.Text] 76)).cell? ⟨w.heap.size,4,none⟩=some (.string x.Text):=by simp
 have HO:=Lib.hid ho
 have HK:=Lib.hid hk
 clear hb0 h ho hk
 go_enter Tryz.func48,Tryz.ntmps48
 go_upto_region 1 with fail
 generalize hw0:w.alloc _=w0
 have hw0' : w.alloc (.cells #[.int .i64 x.Kind,.int .i64 x.W,.int .i64 x.At,.int .i64 x.Many,.string x.Text] 76)=w0:=hw0
 rw [hw0'] at HB0 HD0 b0 b1 b2 b3 b4
 clear hw0 hw0'
 generalize w.heap.size=X at b0 b1 b2 b3 b4 ⊢
 have hk:=HK.out
 rw [hk] at b0
 clear hk
 go_wp2_with fail
 refine (Djoin_c HD0.out HO.out x.W).mono ?_
 rintro e w2 ⟨rfl,hp⟩
 have HFIN:=Lib.hid (show (d.lm.joinF x.W).2.2=(d.step x).2∧DPost w base F g gw d (d.step x).1 w2 from by
  rw [HS.out]
  by_cases h0:(d.lm.joinF x.W).2.2=0
  ·rw [if_pos h0] at hp ⊢;exact ⟨h0,DPost.after HB0.out hp⟩
  ·rw [if_neg h0] at hp ⊢;exact ⟨rfl,DPost.after HB0.out hp⟩)
 clear hp HS
 generalize (d.lm.joinF x.W).2.2=code at *
 go_wp2
 go_ret
 exact ⟨by rw [← HFIN.out.1];rfl,HFIN.out.2⟩
set_option maxRecDepth 100000 in
theorem DDo_none (h:DkAt w base F g gw d) (ho:d.Ok) (x:DStep) (hk:2≤x.Kind∧x.Kind≤7) (hw:d.writer x.W=none) :
 Calls Tryz.prog 48 #[.pointer (some ⟨g,0,none⟩),.agg #[.int .i64 x.Kind,.int .i64 x.W,.int .i64 x.At,.int .i64 x.Many,.string x.Text]] w (DoPost w base F g gw d x):=by
 have HS:=Lib.hid (show d.step x=(d,5) from by
  unfold DkM.step
  rw [if_neg (by omega),if_neg (by omega),hw])
 have hb0:=(Below.refl w.heap.size w).alloc (Nat.le_refl _) (.cells #[.int .i64 x.Kind,.int .i64 x.W,.int .i64 x.At,.int .i64 x.Many,.string x.Text] 76)
 have HB0:=Lib.hid hb0
 have HD0:=Lib.hid (h.later hb0)
 have b0:(w.alloc (.cells #[.int .i64 x.Kind,.int .i64 x.W,.int .i64 x.At,.int .i64 x.Many,.string x.Text] 76)).cell? ⟨w.heap.size,0,none⟩=some (.int .i64 x.Kind):=by simp
 have b1:(w.alloc (.cells #[.int .i64 x.Kind,.int .i64 x.W,.int .i64 x.At,.int .i64 x.Many,.string x.Text] 76)).cell? ⟨w.heap.size,1,none⟩=some (.int .i64 x.W):=by simp
 have b2:(w.alloc (.cells #[.int .i64 x.Kind,.int .i64 x.W,.int .i64 x.At,.int .i64 x.Many,.string x.Text] 76)).cell? ⟨w.heap.size,2,none⟩=some (.int .i64 x.At):=by simp
 have b3:(w.alloc (.cells #[.int .i64 x.Kind,.int .i64 x.W,.int .i64 x.At,.int .i64 x.Many,.string x.Text] 76)).cell? ⟨w.heap.size,3,none⟩=some (.int .i64 x.Many):=by simp
 have b4:(w.alloc (.cells #[.int .i64 x.Kind,.int .i64 x.W,.int .i64 x.At,.int .i64 x.Many,.string x.Text] 76)).cell? ⟨w.heap.size,4,none⟩=some (.string x.Text):=by simp
 have HO:=Lib.hid ho
 have HK:=Lib.hid hk
 clear hb0 h ho hk
 go_enter Tryz.func48,Tryz.ntmps48
 go_upto_region 1 with fail
 generalize hw0:w.alloc _=w0
 have hw0' : w.alloc (.cells #[.int .i64 x.Kind,.int .i64 x.W,.int .i64 x.At,.int .i64 x.Many,.string x.Text] 76)=w0:=hw0
 rw [hw0'] at HB0 HD0 b0 b1 b2 b3 b4
 clear hw0 hw0'
 generalize w.heap.size=X at b0 b1 b2 b3 b4 ⊢
 have hk:=HK.out
 have HP:=Lib.hid (DkM.ptr_none hw gw)
 have h1:decide (x.Kind < 1)=false:=decide_eq_false (by omega)
 have h2:decide (x.Kind > 7)=false:=decide_eq_false (by omega)
 have h2' : decide (7 < x.Kind)=false:=decide_eq_false (by omega)
 have h3:(x.Kind==1)=false:=by simp;omega
 have h3' : decide (x.Kind=1)=false:=decide_eq_false (by omega)
 clear hk hw
 go_wp2_with fail
 refine (DWriter_c HD0.out x.W).mono ?_
 rintro e w2 ⟨rfl,rfl⟩
 rw [HP.out]
 go_wp2
 go_ret
 exact ⟨by rw [HS.out];rfl,by rw [HS.out];exact DPost.after HB0.out (DPost.same HD0.out (Moves.refl _ _))⟩
set_option maxRecDepth 100000 in
theorem DDo_put (h:DkAt w base F g gw d) (ho:d.Ok) (x:DStep) (hk:x.Kind=2) (hx:x.ok') {m:WM} (hw:d.writer x.W=some m) (hos:m.opn.length≤1000) :
 Calls Tryz.prog 48 #[.pointer (some ⟨g,0,none⟩),.agg #[.int .i64 x.Kind,.int .i64 x.W,.int .i64 x.At,.int .i64 x.Many,.string x.Text]] w (DoPost w base F g gw d x):=by
 have HX:=Lib.hid hx
 have HS:=Lib.hid (show d.step x=d.put m (m.deed 1 x.At 0 x.Text) from by
  unfold DkM.step
  rw [if_neg (by omega),if_neg (by omega),hw]
  simp only
  rw [if_pos hk])
 have hb0:=(Below.refl w.heap.size w).alloc (Nat.le_refl _) (.cells #[.int .i64 x.Kind,.int .i64 x.W,.int .i64 x.At,.int .i64 x.Many,.string x.Text] 76)
 have HB0:=Lib.hid hb0
 have HD0:=Lib.hid (h.later hb0)
 have b0:(w.alloc (.cells #[.int .i64 x.Kind,.int .i64 x.W,.int .i64 x.At,.int .i64 x.Many,.string x.Text] 76)).cell? ⟨w.heap.size,0,none⟩=some (.int .i64 x.Kind):=by simp
 have b1:(w.alloc (.cells #[.int .i64 x.Kind,.int .i64 x.W,.int .i64 x.At,.int .i64 x.Many,.string x.Text] 76)).cell? ⟨w.heap.size,1,none⟩=some (.int .i64 x.W):=by simp
 have b2:(w.alloc (.cells #[.int .i64 x.Kind,.int .i64 x.W,.int .i64 x.At,.int .i64 x.Many,.string x.Text] 76)).cell? ⟨w.heap.size,2,none⟩=some (.int .i64 x.At):=by simp
 have b3:(w.alloc (.cells #[.int .i64 x.Kind,.int .i64 x.W,.int .i64 x.At,.int .i64 x.Many,.string x.Text] 76)).cell? ⟨w.heap.size,3,none⟩=some (.int .i64 x.Many):=by simp
 have b4:(w.alloc (.cells #[.int .i64 x.Kind,.int .i64 x.W,.int .i64 x.At,.int .i64 x.Many,.string x.Text] 76)).cell? ⟨w.heap.size,4,none⟩=some (.string x.Text):=by simp
 have HO:=Lib.hid ho
 have HK:=Lib.hid hk
 clear hb0 h ho hk
 go_enter Tryz.func48,Tryz.ntmps48
 go_upto_region 1 with fail
 generalize hw0:w.alloc _=w0
 have hw0' : w.alloc (.cells #[.int .i64 x.Kind,.int .i64 x.W,.int .i64 x.At,.int .i64 x.Many,.string x.Text] 76)=w0:=hw0
 rw [hw0'] at HB0 HD0 b0 b1 b2 b3 b4
 clear hw0 hw0'
 generalize w.heap.size=X at b0 b1 b2 b3 b4 ⊢
 have hk:=HK.out
 rw [hk] at b0
 clear hk
 have HP:=Lib.hid (DkM.ptr_some hw gw)
 go_wp2_with fail
 refine (DWriter_c HD0.out x.W).mono ?_
 rintro e w2 ⟨rfl,rfl⟩
 rw [HP.out]
 obtain ⟨hxw,hme,hW,t,hin⟩:=HO.out.of_writer hw
 obtain ⟨FW,hFW,_,hwr,put⟩:=HD0.out.wrZ (toNat_lt hxw).1 hW
 have HPut:=Lib.hid put
 have HSE:=Lib.hid (DkM.setW_same hW)
 have hlen:=hin.chars_len HO.out.lm
 obtain ⟨hn1,hn2⟩:=hin.next_le HO.out.lm 1000 hos
 have HCA:=Lib.hid (WPut_c hwr (hin.chars_gone HO.out.lm) (by show m.chars.length≤1000;omega) (by show m.opn.length≤1000000;omega) hin.ns x.At x.Text HX.out.2 (by show 0≤m.next∧m.next≤1000000;omega))
 have HWW:=Lib.hid hin.w
 have HME:=Lib.hid hme
 clear put hwr hin hlen hn1 hn2 hW hme hw
 generalize gw x.W.toNat=gx at *
 go_wp2_with fail
 refine HCA.out.mono ?_
 rintro e w3 hp
 have e1:mayDo m.v.L (m.v.deed ⟨1,0,0,0,x.At,0,x.Text⟩)=mayDo m.chars (m.deed 1 x.At 0 x.Text):=rfl
 rcases hp with ⟨h1,rfl,h3,h4⟩ | ⟨h1,rfl,F3,h3,h4,h5⟩
 ·rw [e1] at h1 ⊢
  obtain ⟨q1,q2,q3⟩:=HPut.out w3 FW m h4 h3 (fun k hk=>.inl hk)
  have HFIN:=Lib.hid (show mayDo m.chars (m.deed 1 x.At 0 x.Text)=(d.step x).2∧DPost w base F g gw d (d.step x).1 w3 from by
   rw [HS.out];unfold DkM.put;rw [if_neg h1]
   exact ⟨rfl,DPost.after HB0.out (DPost'.post ⟨_,q1.congr HSE.out,q2,q3⟩)⟩)
  clear h1 h3 h4 q1 q2 q3 e1 HCA HPut HS
  generalize mayDo m.chars (m.deed 1 x.At 0 x.Text)=code at *
  go_wp2
  go_ret
  exact ⟨by rw [← HFIN.out.1];rfl,HFIN.out.2⟩
 ·rw [e1] at h1
  obtain ⟨q1,q2,q3⟩:=HPut.out w3 F3 (m.doF (m.deed 1 x.At 0 x.Text)) h4 (by have:=m.did_v HWW.out 1 x.At 0 x.Text;rw [← this];exact h3) h5
  have HFIN:=Lib.hid (show (0:Int)=(d.step x).2∧DPost w base F g gw d (d.step x).1 w3 from by
   rw [HS.out];unfold DkM.put;rw [if_pos h1]
   refine ⟨rfl,DPost.after HB0.out (DPost'.post ⟨_,q1.congr ?_,q2,q3⟩)⟩
   rw [DkM.set_eq,HME.out];rfl)
  clear h1 h3 h4 h5 q1 q2 q3 e1 HCA HPut HS
  go_wp2
  go_ret
  exact ⟨by rw [← HFIN.out.1];rfl,HFIN.out.2⟩
set_option maxRecDepth 100000 in
theorem DDo_take (h:DkAt w base F g gw d) (ho:d.Ok) (x:DStep) (hk:x.Kind=3) (hx:x.ok') {m:WM} (hw:d.writer x.W=some m) (hos:m.opn.length≤1000) :
 Calls Tryz.prog 48 #[.pointer (some ⟨g,0,none⟩),.agg #[.int .i64 x.Kind,.int .i64 x.W,.int .i64 x.At,.int .i64 x.Many,.string x.Text]] w (DoPost w base F g gw d x):=by
 have HX:=Lib.hid hx
 have HS:=Lib.hid (show d.step x=d.put m (m.deed 2 x.At x.Many ByteArray.empty) from by
  unfold DkM.step
  rw [if_neg (by omega),if_neg (by omega),hw]
  simp only
  rw [if_neg (by omega),if_pos hk])
 have hb0:=(Below.refl w.heap.size w).alloc (Nat.le_refl _) (.cells #[.int .i64 x.Kind,.int .i64 x.W,.int .i64 x.At,.int .i64 x.Many,.string x.Text] 76)
 have HB0:=Lib.hid hb0
 have HD0:=Lib.hid (h.later hb0)
 have b0:(w.alloc (.cells #[.int .i64 x.Kind,.int .i64 x.W,.int .i64 x.At,.int .i64 x.Many,.string x.Text] 76)).cell? ⟨w.heap.size,0,none⟩=some (.int .i64 x.Kind):=by simp
 have b1:(w.alloc (.cells #[.int .i64 x.Kind,.int .i64 x.W,.int .i64 x.At,.int .i64 x.Many,.string x.Text] 76)).cell? ⟨w.heap.size,1,none⟩=some (.int .i64 x.W):=by simp
 have b2:(w.alloc (.cells #[.int .i64 x.Kind,.int .i64 x.W,.int .i64 x.At,.int .i64 x.Many,.string x.Text] 76)).cell? ⟨w.heap.size,2,none⟩=some (.int .i64 x.At):=by simp
 have b3:(w.alloc (.cells #[.int .i64 x.Kind,.int .i64 x.W,.int .i64 x.At,.int .i64 x.Many,.string x.Text] 76)).cell? ⟨w.heap.size,3,none⟩=some (.int .i64 x.Many):=by simp
 have b4:(w.alloc (.cells #[.int .i64 x.Kind,.int .i64 x.W,.int .i64 x.At,.int .i64 x.Many,.string x.Text] 76)).cell? ⟨w.heap.size,4,none⟩=some (.string x.Text):=by simp
 have HO:=Lib.hid ho
 have HK:=Lib.hid hk
 clear hb0 h ho hk
 go_enter Tryz.func48,Tryz.ntmps48
 go_upto_region 1 with fail
 generalize hw0:w.alloc _=w0
 have hw0' : w.alloc (.cells #[.int .i64 x.Kind,.int .i64 x.W,.int .i64 x.At,.int .i64 x.Many,.string x.Text] 76)=w0:=hw0
 rw [hw0'] at HB0 HD0 b0 b1 b2 b3 b4
 clear hw0 hw0'
 generalize w.heap.size=X at b0 b1 b2 b3 b4 ⊢
 have hk:=HK.out
 rw [hk] at b0
 clear hk
 have HP:=Lib.hid (DkM.ptr_some hw gw)
 go_wp2_with fail
 refine (DWriter_c HD0.out x.W).mono ?_
 rintro e w2 ⟨rfl,rfl⟩
 rw [HP.out]
 obtain ⟨hxw,hme,hW,t,hin⟩:=HO.out.of_writer hw
 obtain ⟨FW,hFW,_,hwr,put⟩:=HD0.out.wrZ (toNat_lt hxw).1 hW
 have HPut:=Lib.hid put
 have HSE:=Lib.hid (DkM.setW_same hW)
 have hlen:=hin.chars_len HO.out.lm
 obtain ⟨hn1,hn2⟩:=hin.next_le HO.out.lm 1000 hos
 have HCA:=Lib.hid (WTake_c hwr (hin.chars_gone HO.out.lm) (by show m.chars.length≤1000;omega) (by show m.opn.length≤1000000;omega) hin.ns x.At x.Many HX.out.1 (by show 0≤m.next∧m.next≤1000000;omega))
 have HWW:=Lib.hid hin.w
 have HME:=Lib.hid hme
 clear put hwr hin hlen hn1 hn2 hW hme hw
 generalize gw x.W.toNat=gx at *
 go_wp2_with fail
 refine HCA.out.mono ?_
 rintro e w3 hp
 have e1:mayDo m.v.L (m.v.deed ⟨2,0,0,0,x.At,x.Many,⟨#[]⟩⟩)=mayDo m.chars (m.deed 2 x.At x.Many ByteArray.empty):=rfl
 rcases hp with ⟨h1,rfl,h3,h4⟩ | ⟨h1,rfl,F3,h3,h4,h5⟩
 ·rw [e1] at h1 ⊢
  obtain ⟨q1,q2,q3⟩:=HPut.out w3 FW m h4 h3 (fun k hk=>.inl hk)
  have HFIN:=Lib.hid (show mayDo m.chars (m.deed 2 x.At x.Many ByteArray.empty)=(d.step x).2∧DPost w base F g gw d (d.step x).1 w3 from by
   rw [HS.out];unfold DkM.put;rw [if_neg h1]
   exact ⟨rfl,DPost.after HB0.out (DPost'.post ⟨_,q1.congr HSE.out,q2,q3⟩)⟩)
  clear h1 h3 h4 q1 q2 q3 e1 HCA HPut HS
  generalize mayDo m.chars (m.deed 2 x.At x.Many ByteArray.empty)=code at *
  go_wp2
  go_ret
  exact ⟨by rw [← HFIN.out.1];rfl,HFIN.out.2⟩
 ·rw [e1] at h1
  obtain ⟨q1,q2,q3⟩:=HPut.out w3 F3 (m.doF (m.deed 2 x.At x.Many ByteArray.empty)) h4 (by have:=m.did_v HWW.out 2 x.At x.Many ByteArray.empty;rw [← this];exact h3) h5
  have HFIN:=Lib.hid (show (0:Int)=(d.step x).2∧DPost w base F g gw d (d.step x).1 w3 from by
   rw [HS.out];unfold DkM.put;rw [if_pos h1]
   refine ⟨rfl,DPost.after HB0.out (DPost'.post ⟨_,q1.congr ?_,q2,q3⟩)⟩
   rw [DkM.set_eq,HME.out];rfl)
  clear h1 h3 h4 h5 q1 q2 q3 e1 HCA HPut HS
  go_wp2
  go_ret
  exact ⟨by rw [← HFIN.out.1];rfl,HFIN.out.2⟩
set_option maxRecDepth 100000 in
theorem DDo_send (h:DkAt w base F g gw d) (ho:d.Ok) (x:DStep) (hk:x.Kind=4) {m:WM} (hw:d.writer x.W=some m) (hos:m.opn.length≤1000) :
 Calls Tryz.prog 48 #[.pointer (some ⟨g,0,none⟩),.agg #[.int .i64 x.Kind,.int .i64 x.W,.int .i64 x.At,.int .i64 x.Many,.string x.Text]] w (DoPost w base F g gw d x):=by
 have HS:=Lib.hid (show d.step x=d.send m from by
  unfold DkM.step
  rw [if_neg (by omega),if_neg (by omega),hw]
  simp only
  rw [if_neg (by omega),if_neg (by omega),if_pos hk])
 have hb0:=(Below.refl w.heap.size w).alloc (Nat.le_refl _) (.cells #[.int .i64 x.Kind,.int .i64 x.W,.int .i64 x.At,.int .i64 x.Many,.string x.Text] 76)
 have HB0:=Lib.hid hb0
 have HD0:=Lib.hid (h.later hb0)
 have b0:(w.alloc (.cells #[.int .i64 x.Kind,.int .i64 x.W,.int .i64 x.At,.int .i64 x.Many,.string x.Text] 76)).cell? ⟨w.heap.size,0,none⟩=some (.int .i64 x.Kind):=by simp
 have b1:(w.alloc (.cells #[.int .i64 x.Kind,.int .i64 x.W,.int .i64 x.At,.int .i64 x.Many,.string x.Text] 76)).cell? ⟨w.heap.size,1,none⟩=some (.int .i64 x.W):=by simp
 have b2:(w.alloc (.cells #[.int .i64 x.Kind,.int .i64 x.W,.int .i64 x.At,.int .i64 x.Many,.string x.Text] 76)).cell? ⟨w.heap.size,2,none⟩=some (.int .i64 x.At):=by simp
 have b3:(w.alloc (.cells #[.int .i64 x.Kind,.int .i64 x.W,.int .i64 x.At,.int .i64 x.Many,.string x.Text] 76)).cell? ⟨w.heap.size,3,none⟩=some (.int .i64 x.Many):=by simp
 have b4:(w.alloc (.cells #[.int .i64 x.Kind,.int .i64 x.W,.int .i64 x.At,.int .i64 x.Many,.string x.Text] 76)).cell? ⟨w.heap.size,4,none⟩=some (.string x.Text):=by simp
 have HO:=Lib.hid ho
 have HK:=Lib.hid hk
 clear hb0 h ho hk
 go_enter Tryz.func48,Tryz.ntmps48
 go_upto_region 1 with fail
 generalize hw0:w.alloc _=w0
 have hw0' : w.alloc (.cells #[.int .i64 x.Kind,.int .i64 x.W,.int .i64 x.At,.int .i64 x.Many,.string x.Text] 76)=w0:=hw0
 rw [hw0'] at HB0 HD0 b0 b1 b2 b3 b4
 clear hw0 hw0'
 generalize w.heap.size=X at b0 b1 b2 b3 b4 ⊢
 have hk:=HK.out
 rw [hk] at b0
 clear hk
 have HP:=Lib.hid (DkM.ptr_some hw gw)
 go_wp2_with fail
 refine (DWriter_c HD0.out x.W).mono ?_
 rintro e w2 ⟨rfl,rfl⟩
 rw [HP.out]
 have HCA:=Lib.hid (Dsend_c HD0.out HO.out x.W hw (by omega))
 generalize gw x.W.toNat=gx at HCA HP ⊢
 go_wp2_with fail
 refine HCA.out.mono ?_
 rintro e w3 ⟨rfl,hp⟩
 have HFIN:=Lib.hid (show (d.send m).2=(d.step x).2∧DPost w base F g gw d (d.step x).1 w3 from by
  rw [HS.out];exact ⟨rfl,DPost.after HB0.out hp.post⟩)
 clear hp HS HCA
 generalize (d.send m).2=code at *
 go_wp2
 go_ret
 exact ⟨by rw [← HFIN.out.1];rfl,HFIN.out.2⟩
set_option maxRecDepth 100000 in
theorem DDo_hear (h:DkAt w base F g gw d) (ho:d.Ok) (x:DStep) (hk:x.Kind=5) {m:WM} (hw:d.writer x.W=some m) (hos:m.opn.length≤1000) :
 Calls Tryz.prog 48 #[.pointer (some ⟨g,0,none⟩),.agg #[.int .i64 x.Kind,.int .i64 x.W,.int .i64 x.At,.int .i64 x.Many,.string x.Text]] w (DoPost w base F g gw d x):=by
 have HS:=Lib.hid (show d.step x=d.hear m from by
  unfold DkM.step
  rw [if_neg (by omega),if_neg (by omega),hw]
  simp only
  rw [if_neg (by omega),if_neg (by omega),if_neg (by omega),if_pos hk])
 have hb0:=(Below.refl w.heap.size w).alloc (Nat.le_refl _) (.cells #[.int .i64 x.Kind,.int .i64 x.W,.int .i64 x.At,.int .i64 x.Many,.string x.Text] 76)
 have HB0:=Lib.hid hb0
 have HD0:=Lib.hid (h.later hb0)
 have b0:(w.alloc (.cells #[.int .i64 x.Kind,.int .i64 x.W,.int .i64 x.At,.int .i64 x.Many,.string x.Text] 76)).cell? ⟨w.heap.size,0,none⟩=some (.int .i64 x.Kind):=by simp
 have b1:(w.alloc (.cells #[.int .i64 x.Kind,.int .i64 x.W,.int .i64 x.At,.int .i64 x.Many,.string x.Text] 76)).cell? ⟨w.heap.size,1,none⟩=some (.int .i64 x.W):=by simp
 have b2:(w.alloc (.cells #[.int .i64 x.Kind,.int .i64 x.W,.int .i64 x.At,.int .i64 x.Many,.string x.Text] 76)).cell? ⟨w.heap.size,2,none⟩=some (.int .i64 x.At):=by simp
 have b3:(w.alloc (.cells #[.int .i64 x.Kind,.int .i64 x.W,.int .i64 x.At,.int .i64 x.Many,.string x.Text] 76)).cell? ⟨w.heap.size,3,none⟩=some (.int .i64 x.Many):=by simp
 have b4:(w.alloc (.cells #[.int .i64 x.Kind,.int .i64 x.W,.int .i64 x.At,.int .i64 x.Many,.string x.Text] 76)).cell? ⟨w.heap.size,4,none⟩=some (.string x.Text):=by simp
 have HO:=Lib.hid ho
 have HK:=Lib.hid hk
 clear hb0 h ho hk
 go_enter Tryz.func48,Tryz.ntmps48
 go_upto_region 1 with fail
 generalize hw0:w.alloc _=w0
 have hw0' : w.alloc (.cells #[.int .i64 x.Kind,.int .i64 x.W,.int .i64 x.At,.int .i64 x.Many,.string x.Text] 76)=w0:=hw0
 rw [hw0'] at HB0 HD0 b0 b1 b2 b3 b4
 clear hw0 hw0'
 generalize w.heap.size=X at b0 b1 b2 b3 b4 ⊢
 have hk:=HK.out
 rw [hk] at b0
 clear hk
 have HP:=Lib.hid (DkM.ptr_some hw gw)
 go_wp2_with fail
 refine (DWriter_c HD0.out x.W).mono ?_
 rintro e w2 ⟨rfl,rfl⟩
 rw [HP.out]
 have HCA:=Lib.hid (Dhear_c HD0.out HO.out x.W hw (by omega))
 generalize gw x.W.toNat=gx at HCA HP ⊢
 go_wp2_with fail
 refine HCA.out.mono ?_
 rintro e w3 ⟨rfl,hp⟩
 have HFIN:=Lib.hid (show (d.hear m).2=(d.step x).2∧DPost w base F g gw d (d.step x).1 w3 from by
  rw [HS.out];exact ⟨rfl,DPost.after HB0.out hp.post⟩)
 clear hp HS HCA
 generalize (d.hear m).2=code at *
 go_wp2
 go_ret
 exact ⟨by rw [← HFIN.out.1];rfl,HFIN.out.2⟩
set_option maxRecDepth 100000 in
theorem DDo_clear (h:DkAt w base F g gw d) (ho:d.Ok) (x:DStep) (hk:x.Kind=6) {m:WM} (hw:d.writer x.W=some m) :
 Calls Tryz.prog 48 #[.pointer (some ⟨g,0,none⟩),.agg #[.int .i64 x.Kind,.int .i64 x.W,.int .i64 x.At,.int .i64 x.Many,.string x.Text]] w (DoPost w base F g gw d x):=by
 have HS:=Lib.hid (show d.step x=(d.set d.lm m.me (some (m.clearF (leastFor d.lm m.seen))),0) from by
  unfold DkM.step
  rw [if_neg (by omega),if_neg (by omega),hw]
  simp only
  rw [if_neg (by omega),if_neg (by omega),if_neg (by omega),if_neg (by omega),if_pos hk])
 have hb0:=(Below.refl w.heap.size w).alloc (Nat.le_refl _) (.cells #[.int .i64 x.Kind,.int .i64 x.W,.int .i64 x.At,.int .i64 x.Many,.string x.Text] 76)
 have HB0:=Lib.hid hb0
 have HD0:=Lib.hid (h.later hb0)
 have b0:(w.alloc (.cells #[.int .i64 x.Kind,.int .i64 x.W,.int .i64 x.At,.int .i64 x.Many,.string x.Text] 76)).cell? ⟨w.heap.size,0,none⟩=some (.int .i64 x.Kind):=by simp
 have b1:(w.alloc (.cells #[.int .i64 x.Kind,.int .i64 x.W,.int .i64 x.At,.int .i64 x.Many,.string x.Text] 76)).cell? ⟨w.heap.size,1,none⟩=some (.int .i64 x.W):=by simp
 have b2:(w.alloc (.cells #[.int .i64 x.Kind,.int .i64 x.W,.int .i64 x.At,.int .i64 x.Many,.string x.Text] 76)).cell? ⟨w.heap.size,2,none⟩=some (.int .i64 x.At):=by simp
 have b3:(w.alloc (.cells #[.int .i64 x.Kind,.int .i64 x.W,.int .i64 x.At,.int .i64 x.Many,.string x.Text] 76)).cell? ⟨w.heap.size,3,none⟩=some (.int .i64 x.Many):=by simp
 have b4:(w.alloc (.cells #[.int .i64 x.Kind,.int .i64 x.W,.int .i64 x.At,.int .i64 x.Many,.string x.Text] 76)).cell? ⟨w.heap.size,4,none⟩=some (.string x.Text):=by simp
 have HO:=Lib.hid ho
 have HK:=Lib.hid hk
 clear hb0 h ho hk
 go_enter Tryz.func48,Tryz.ntmps48
 go_upto_region 1 with fail
 generalize hw0:w.alloc _=w0
 have hw0' : w.alloc (.cells #[.int .i64 x.Kind,.int .i64 x.W,.int .i64 x.At,.int .i64 x.Many,.string x.Text] 76)=w0:=hw0
 rw [hw0'] at HB0 HD0 b0 b1 b2 b3 b4
 clear hw0 hw0'
 generalize w.heap.size=X at b0 b1 b2 b3 b4 ⊢
 have hk:=HK.out
 rw [hk] at b0
 clear hk
 have HP:=Lib.hid (DkM.ptr_some hw gw)
 go_wp2_with fail
 refine (DWriter_c HD0.out x.W).mono ?_
 rintro e w2 ⟨rfl,rfl⟩
 rw [HP.out]
 obtain ⟨hxw,hme,hW,t,hin⟩:=HO.out.of_writer hw
 have HLE:=Lib.hid (Dleast_c HD0.out HO.out x.W hw)
 have HCC:=Lib.hid (hin.clear HO.out.lm).2.1
 have hlen:=hin.chars_len HO.out.lm
 have HME:=Lib.hid hme
 have HWj:=Lib.hid hW
 have HXW:=Lib.hid hxw
 clear hin hw hme hW
 generalize hgx:gw x.W.toNat=gx at *
 go_wp2_with fail
 refine HLE.out.mono ?_
 rintro e w3 ⟨rfl,hb3⟩
 have HD3:=Lib.hid (HD0.out.later hb3)
 obtain ⟨FW,hFW,_,hwr,put⟩:=HD3.out.wrZ (toNat_lt HXW.out).1 HWj.out
 rw [hgx] at hwr put
 have HCA:=Lib.hid (WClear_c hwr (leastFor d.lm m.seen) (by show m.chars.length≤1000;omega))
 have HPut:=Lib.hid put
 have HB3:=Lib.hid hb3
 clear hwr put hlen hb3 HLE
 generalize hll:leastFor d.lm m.seen=ll at *
 go_wp2_with fail
 refine HCA.out.mono ?_
 rintro e w4 ⟨rfl,F4,h4,hm4,hg4⟩
 obtain ⟨q1,q2,q3⟩:=HPut.out w4 F4 (m.clearF ll) hm4 (by
  have e1:(m.clearF ll).v={ m.v with L:=clearOf ll m.v.L }:=by
   show (⟨m.me,m.seen,m.next,(m.clearF ll).chars,m.opn,m.ns⟩:WrV)=⟨m.me,m.seen,m.next,clearOf ll m.chars,m.opn,m.ns⟩
   rw [HCC.out]
  rw [e1];exact h4) hg4
 have HFIN:=Lib.hid (show (0:Int)=(d.step x).2∧DPost w base F g gw d (d.step x).1 w4 from by
  rw [HS.out]
  refine ⟨rfl,DPost.after (HB0.out.trans (HB3.out.mono HB0.out.size)) (DPost'.post ⟨_,q1.congr ?_,q2,q3⟩)⟩
  rw [DkM.set_eq,HME.out];rfl)
 clear h4 hm4 hg4 q1 q2 q3 HCA HPut HS
 generalize (m.v.L.length:Int) - ((clearOf ll m.v.L).length:Int)=cc
 go_wp2
 go_ret
 exact ⟨by rw [← HFIN.out.1];rfl,HFIN.out.2⟩
set_option maxRecDepth 100000 in
theorem DDo_leave (h:DkAt w base F g gw d) (ho:d.Ok) (x:DStep) (hk:x.Kind=7) {m:WM} (hw:d.writer x.W=some m) :
 Calls Tryz.prog 48 #[.pointer (some ⟨g,0,none⟩),.agg #[.int .i64 x.Kind,.int .i64 x.W,.int .i64 x.At,.int .i64 x.Many,.string x.Text]] w (DoPost w base F g gw d x):=by
 have HS:=Lib.hid (show d.step x=(d.drop m.me,0) from by
  unfold DkM.step
  rw [if_neg (by omega),if_neg (by omega),hw]
  simp only
  rw [if_neg (by omega),if_neg (by omega),if_neg (by omega),if_neg (by omega),if_neg (by omega)])
 have hb0:=(Below.refl w.heap.size w).alloc (Nat.le_refl _) (.cells #[.int .i64 x.Kind,.int .i64 x.W,.int .i64 x.At,.int .i64 x.Many,.string x.Text] 76)
 have HB0:=Lib.hid hb0
 have HD0:=Lib.hid (h.later hb0)
 have b0:(w.alloc (.cells #[.int .i64 x.Kind,.int .i64 x.W,.int .i64 x.At,.int .i64 x.Many,.string x.Text] 76)).cell? ⟨w.heap.size,0,none⟩=some (.int .i64 x.Kind):=by simp
 have b1:(w.alloc (.cells #[.int .i64 x.Kind,.int .i64 x.W,.int .i64 x.At,.int .i64 x.Many,.string x.Text] 76)).cell? ⟨w.heap.size,1,none⟩=some (.int .i64 x.W):=by simp
 have b2:(w.alloc (.cells #[.int .i64 x.Kind,.int .i64 x.W,.int .i64 x.At,.int .i64 x.Many,.string x.Text] 76)).cell? ⟨w.heap.size,2,none⟩=some (.int .i64 x.At):=by simp
 have b3:(w.alloc (.cells #[.int .i64 x.Kind,.int .i64 x.W,.int .i64 x.At,.int .i64 x.Many,.string x.Text] 76)).cell? ⟨w.heap.size,3,none⟩=some (.int .i64 x.Many):=by simp
 have b4:(w.alloc (.cells #[.int .i64 x.Kind,.int .i64 x.W,.int .i64 x.At,.int .i64 x.Many,.string x.Text] 76)).cell? ⟨w.heap.size,4,none⟩=some (.string x.Text):=by simp
 have HO:=Lib.hid ho
 have HK:=Lib.hid hk
 clear hb0 h ho hk
 go_enter Tryz.func48,Tryz.ntmps48
 go_upto_region 1 with fail
 generalize hw0:w.alloc _=w0
 have hw0' : w.alloc (.cells #[.int .i64 x.Kind,.int .i64 x.W,.int .i64 x.At,.int .i64 x.Many,.string x.Text] 76)=w0:=hw0
 rw [hw0'] at HB0 HD0 b0 b1 b2 b3 b4
 clear hw0 hw0'
 generalize w.heap.size=X at b0 b1 b2 b3 b4 ⊢
 have hk:=HK.out
 rw [hk] at b0
 clear hk
 have HP:=Lib.hid (DkM.ptr_some hw gw)
 go_wp2_with fail
 refine (DWriter_c HD0.out x.W).mono ?_
 rintro e w2 ⟨rfl,rfl⟩
 rw [HP.out]
 obtain ⟨hxw,hme,_⟩:=HO.out.of_writer hw
 have HME:=Lib.hid hme
 have HCA:=Lib.hid (Ddrop_c HD0.out x.W hxw)
 clear hw hme
 generalize gw x.W.toNat=gx at HP ⊢
 go_wp2_with fail
 refine HCA.out.mono ?_
 rintro e w3 ⟨⟨v,rfl⟩,hp⟩
 have HFIN:=Lib.hid (show (0:Int)=(d.step x).2∧DPost w base F g gw d (d.step x).1 w3 from by
  rw [HS.out,HME.out];exact ⟨rfl,DPost.after HB0.out hp.post⟩)
 clear hp HS HCA
 go_wp2
 go_ret
 exact ⟨by rw [← HFIN.out.1];rfl,HFIN.out.2⟩
theorem DDo_c (h:DkAt w base F g gw d) (ho:d.Ok) (hs:d.Sm 1000) (x:DStep) (hx:x.ok'):Calls Tryz.prog 48 #[.pointer (some ⟨g,0,none⟩),.agg #[.int .i64 x.Kind,.int .i64 x.W,.int .i64 x.At,.int .i64 x.Many,.string x.Text]] w (DoPost w base F g gw d x):=by
 by_cases h0:x.Kind < 1∨7 < x.Kind
 ·exact DDo_kind h ho x h0
 by_cases h1:x.Kind=1
 ·exact DDo_join h ho x h1
 cases hw:d.writer x.W with
 | none=>exact DDo_none h ho x (by omega) hw
 | some m=>
  have hos:=hs.writer hw
  by_cases h2:x.Kind=2
  ·exact DDo_put h ho x h2 hx hw hos
  by_cases h3:x.Kind=3
  ·exact DDo_take h ho x h3 hx hw hos
  by_cases h4:x.Kind=4
  ·exact DDo_send h ho x h4 hw hos
  by_cases h5:x.Kind=5
  ·exact DDo_hear h ho x h5 hw hos
  by_cases h6:x.Kind=6
  ·exact DDo_clear h ho x h6 hw
  ·exact DDo_leave h ho x (by omega) hw
end
end Go.Proofs.YtneoeokfffnonaaGreatDoor
