/- New desks, and lines one behind the other. -/
import Derived.Test.YtneoeokfffnonaaGreatDoorDsLine
import Derived.Test.YtneoeokfffnonaaGreatDoorPlainT
set_option linter.unusedVariables false
set_option linter.unusedSimpArgs false
namespace Go.Proofs.YtneoeokfffnonaaGreatDoor
open Go.RowKit Go
theorem nl_iff (x:ByteArray):decide (0≤Lib.indexByte x.data.toList 10)=decide ((10:UInt8)∈x.data.toList):=by
 have hge:=Lib.indexByte_ge x.data.toList 10
 by_cases h:0≤Lib.indexByte x.data.toList 10
 ·obtain ⟨o,ho⟩:∃ o:Nat,Lib.indexByte x.data.toList 10=o:=⟨(Lib.indexByte x.data.toList 10).toNat,by omega⟩
  have:=(Lib.indexByte_some ho).1
  rw [decide_eq_true h,decide_eq_true (List.mem_of_getElem? this)]
 ·have hm:Lib.indexByte x.data.toList 10=-1:=by omega
  have:=Lib.indexByte_none hm
  rw [decide_eq_false h,decide_eq_false]
  intro hx
  obtain ⟨k,hk⟩:=List.getElem?_of_mem hx
  exact this k hk
theorem linesK_take (d:DkM) (l:List Str) (k:Nat) (h:k < l.length):linesK d (l.take (k+1))=((tellK (linesK d (l.take k)).1 (askF l[k])).1,(linesK d (l.take k)).2++linesS (tellK (linesK d (l.take k)).1 (askF l[k])).2):=by
 rw [List.take_succ_eq_append_getElem h,linesK_app]
 show ((lineK _ _).1,_++((lineK _ _).2++[]))=_
 rw [List.append_nil]
 rfl
theorem linesK_len:∀ (l:List Str) {d:DkM} {N:Nat},d.Ok→d.Sm N→N+l.length≤1000→(linesK d l).2.length≤l.length * 400000:=by
 intro l
 induction l with
 | nil=>intro d N _ _ _;exact Nat.zero_le _
 | cons s l ih=>
  intro d N ho hs hN
  have h1:=told_len ho hs (by simp at hN;omega) (askF s)
  have h2:=ih (tellK_ok ho (askF s)) (tellK_sm hs (askF s)) (by simp at hN;omega)
  show (linesS (tellK d (askF s)).2++(linesK (tellK d (askF s)).1 l).2).length≤(l.length+1) * 400000
  rw [List.length_append,Nat.add_mul]
  omega
theorem take_len (l:List Str) (k:Nat) {d:DkM} {N:Nat} (ho:d.Ok) (hs:d.Sm N) (hN:N+150≤1000) (hl:l.length≤150):(linesK d (l.take k)).1.Ok∧(linesK d (l.take k)).1.Sm 1000∧(linesK d (l.take k)).2.length≤80000000:=by
 have hk:(l.take k).length≤150:=by rw [List.length_take];omega
 have h3:=linesK_len (l.take k) ho hs (by omega)
 have h4:(l.take k).length * 400000≤150 * 400000:=Nat.mul_le_mul_right _ hk
 exact ⟨linesK_ok _ ho,(linesK_sm _ hs).mono (by omega),by omega⟩
theorem SlO.moves {w w' : World} {a:Option Addr} {cap:Nat} {l:List ByteArray} (h:SlO w a cap l) {G:Nat→Prop} (hm:Moves G w w') (hg:∀ ad,a=some ad→l≠[]→¬ G ad.block):SlO w' a cap l:=by
 refine ⟨h.1,h.2.1,fun i hi=>?_⟩
 obtain ⟨b,off,e,hc⟩:=h.2.2 i hi
 exact ⟨b,off,e,(hm.cell (World.block_lt_of_cell? w _ hc) (hg ⟨b,off,none⟩ e (fun e2=>by rw [e2] at hi;cases hi)) (off+i)).trans hc⟩
structure DsI (w:World) (base:Nat) (F:Nat→Prop) (g:Nat) (d:DkM):Prop where
 fg:F g
 foot:∀ k,F k→base≤k∧k < w.heap.size
 rows:∃ gd FD gw,BdIdle w g (.pointer (some ⟨gd,0,none⟩))∧DkAt w base FD gd gw d∧∀ k,FD k→F k∧k≠g
def DsJ (w:World) (base:Nat) (F:Nat→Prop) (g:Nat) (d:DkM) (w' : World):Prop:=∃ F',DsI w' base F' g d∧Moves F w w'∧Grows F w F'
section
variable {w w' : World} {base:Nat} {F:Nat→Prop} {g:Nat} {d:DkM} {t:Str}
theorem DsI.lt (h:DsI w base F g d):g < w.heap.size:=(h.foot g h.fg).2
theorem DsI.base_le (h:DsI w base F g d):base≤w.heap.size:=by have:=h.foot g h.fg;omega
theorem DsI.moves (h:DsI w base F g d) {G:Nat→Prop} (hm:Moves G w w') (hd:∀ k,F k→¬ G k):DsI w' base F g d:=by
 obtain ⟨gd,FD,gw,⟨p,v,hb⟩,h2,h3⟩:=h.rows
 exact ⟨h.fg,fun k hk=>⟨(h.foot k hk).1,Nat.lt_of_lt_of_le (h.foot k hk).2 hm.size⟩,gd,FD,gw,⟨p,v,(hm.block g h.lt (hd g h.fg)).trans hb⟩,h2.moves hm (fun k hk=>hd k (h3 k hk).1),h3⟩
theorem DsI.later (h:DsI w base F g d) (hl:Below w.heap.size w w'):DsI w' base F g d:=
 h.moves (Moves.of_below (F:=fun k=>w.heap.size≤k) hl) fun k hk=>by have:=(h.foot k hk).2;omega
theorem DsI.bel (h:DsI w base F g d) {w1:World} (hm:Moves F w w1):Below base w w1:=hm.below (fun k hk=>(h.foot k hk).1) h.base_le
theorem DsP.bel {d1:DkM} {w1:World} (h:DsP w base F g d1 t w1) (h0:DsI w base F g d):Below base w w1:=by
 obtain ⟨F1,_,k2,_⟩:=h
 exact h0.bel k2
theorem DsP.mv {d1:DkM} {w1:World} (h:DsP w base F g d1 t w1):Moves F w w1:=by
 obtain ⟨F1,_,k2,_⟩:=h
 exact k2
theorem DsJ.same (h:DsI w base F g d):DsJ w base F g d w:=⟨F,h,Moves.refl _ _,fun _ hk=>.inl hk⟩
theorem DsJ.start (h:DsI w base F g d) (hb:Below w.heap.size w w'):DsJ w base F g d w':=⟨F,h.later hb,Moves.of_below hb,fun _ hk=>.inl hk⟩
theorem DsJ.later {w1 w2:World} (h:DsJ w base F g d w1) (hb:Below w1.heap.size w1 w2):DsJ w base F g d w2:=by
 obtain ⟨F',h1,h2,h3⟩:=h
 exact ⟨F',h1.later hb,h2.trans (Moves.of_below (F:=F) hb) (fun _ _ k=>k),h3⟩
theorem DsJ.fin {w0 w1:World} (hb:Below w.heap.size w w0) (h:DsJ w0 base F g d w1) {X:Nat} (hX:w.heap.size≤X) (hX0:X < w0.heap.size) (hF:¬ F X) (v v2:Value):DsJ w base F g d ((w1.setCell ⟨X,0,none⟩ v).setCell ⟨X,1,none⟩ v2):=by
 obtain ⟨F',h1,h2,h3⟩:=h
 have hn:¬ F' X:=fun e=>by
  rcases h3 X e with e | e
  ·exact hF e
  ·omega
 have hm:Moves (fun k=>k=X) w1 ((w1.setCell ⟨X,0,none⟩ v).setCell ⟨X,1,none⟩ v2):=(Moves.setCell (F:=fun k=>k=X) w1 ⟨X,0,none⟩ v rfl).trans (Moves.setCell (F:=fun k=>k=X) _ ⟨X,1,none⟩ v2 rfl) (fun _ _ k=>k)
 refine ⟨F',h1.moves hm (fun k hk e=>hn (e ▸ hk)),((Moves.of_below (F:=F) hb).trans h2 (fun _ _ k=>k)).trans hm (fun i hi e=>by omega),fun k hk=>?_⟩
 rcases h3 k hk with e | e
 ·exact .inl e
 ·exact .inr (Nat.le_trans hb.size e)
theorem dsReset_c (h:DsI w base F g d):Calls Tryz.prog 14 #[.pointer (some ⟨g,0,none⟩)] w fun e w'=>(∃ u,e=.returned u)∧DsP w base F g d [] w':=by
 obtain ⟨gd,FD,gw,h1,h2,h3⟩:=h.rows
 refine (Reset_c h1 (h.foot g h.fg).1).mono ?_
 rintro e w' ⟨hu,k1,k2⟩
 exact ⟨hu,F,⟨h.fg,fun k hk=>⟨(h.foot k hk).1,Nat.lt_of_lt_of_le (h.foot k hk).2 k2.size⟩,_,_,gd,FD,gw,k1,h2.moves k2 (fun k hk=>(h3 k hk).2),h3,fun k hk=>by simp [Value.ownBlock] at hk⟩,movesMono k2 (fun k hk=>by subst hk;exact h.fg),fun _ hk=>.inl hk⟩
theorem dsString_c {w1:World} (h:DsP w base F g d t w1):Calls Tryz.prog 16 #[.pointer (some ⟨g,0,none⟩)] w1 fun e w'=>e=.returned (.string ⟨t.toArray⟩)∧DsJ w base F g d w':=by
 obtain ⟨F1,q1,q2,q3⟩:=h
 obtain ⟨p,v,gd,FD,gw,h1,h2,h3,h4⟩:=q1.rows
 refine (BString_c h1).mono ?_
 rintro e w' ⟨he,k1,k2⟩
 exact ⟨he,F1,⟨q1.fg,fun k hk=>⟨(q1.foot k hk).1,Nat.lt_of_lt_of_le (q1.foot k hk).2 k2.size⟩,gd,FD,gw,k1,h2.moves k2 (fun k hk e=>(h4 k e).2 hk),h3⟩,movesT q2 q3 (movesMono k2 (fun k hk=>(h4 k hk).1)),q3⟩
theorem lineP_c {w1:World} (h:DsP w base F g d t w1) (ho:d.Ok) (hs:d.Sm 1000) (hl:t.length≤80000000) (hk:LibK w1) (hB:lowB≤base) (s:ByteArray) (hz:s.size≤9000) :
 Calls Tryz.prog 15 #[.pointer (some ⟨g,0,none⟩),.string s] w1 fun e w'=>(∃ u,e=.returned u)∧DsP w base F g (tellK d (askF s.data.toList)).1 (t++linesS (tellK d (askF s.data.toList)).2) w':=by
 obtain ⟨F1,k1,k2,k3⟩:=h
 refine (line_c k1 ho hs hl hk hB s hz).mono ?_
 intro e w' hq
 obtain ⟨hu,F2,q1,q2,q3⟩:=hq
 exact ⟨hu,F2,q1,movesT k2 k3 q2,growsT k3 k2.size q3⟩
theorem dsNew_c (w:World):Calls Tryz.prog 6 #[] w fun e w'=>∃ F g,e=.returned (.pointer (some ⟨g,0,none⟩))∧DsI w' w.heap.size F g DkM.new∧Below w.heap.size w w':=by
 go_enter Tryz.func6,Tryz.ntmps6
 go_wp2_with fail
 refine (DNew_c w).mono ?_
 rintro e w1 ⟨FD,gd,gw,rfl,hd,hb⟩
 have hbo:=(Below.refl w1.heap.size w1).alloc (Nat.le_refl _) (.cells #[.pointer none,.slice none 0 0,.pointer (some ⟨gd,0,none⟩)] 44)
 have HR:=Lib.hid (show DsI (w1.alloc (.cells #[.pointer none,.slice none 0 0,.pointer (some ⟨gd,0,none⟩)] 44)) w.heap.size (fun k=>k=w1.heap.size∨FD k) w1.heap.size DkM.new from by
  refine ⟨.inl rfl,fun k hk=>?_,gd,FD,gw,⟨.pointer none,.slice none 0 0,(by show (w1.heap.push _)[w1.heap.size]? = _;simp)⟩,hd.later hbo,fun k hk=>⟨.inr hk,fun e=>?_⟩⟩
  ·rcases hk with rfl | hk
   ·exact ⟨hb.size,by simp⟩
   ·have:=hd.foot k hk
    exact ⟨this.1,by simp;omega⟩
  ·have:=hd.foot k hk;omega)
 have HB:=Lib.hid (hb.trans (hbo.mono hb.size))
 clear hd hb hbo
 go_wp2
 go_ret
 exact ⟨_,_,rfl,HR.out,HB.out⟩
set_option maxRecDepth 100000 in
set_option maxHeartbeats 2000000 in
theorem dsDo_c (h:DsI w base F g d) (ho:d.Ok) {N:Nat} (hs:d.Sm N) (hN:N+150≤1000) (hk:LibK w) (hB:lowB≤base) (a:Option Addr) (cap:Nat) (xs:List ByteArray) (hx:∀ W,Moves F w W→SlO W a cap xs) (hz:∀ x∈xs,x.size≤9000) :
 Calls Tryz.prog 8 #[.pointer (some ⟨g,0,none⟩),.slice a xs.length cap] w fun e w'=>e=.returned (.tuple #[.string ⟨(saysK d (xs.map (fun x:ByteArray=>x.data.toList))).toArray⟩,.agg #[.int .i64 (faultK (xs.map (fun x:ByteArray=>x.data.toList))).1,.int .i64 (faultK (xs.map (fun x:ByteArray=>x.data.toList))).2]])∧DsJ w base F g (doK d (xs.map (fun x:ByteArray=>x.data.toList))) w':=by
 have hm:xs.length≤maxLen:=by have:=hx w (Moves.refl _ _);exact Nat.le_trans this.1 this.2.1
 unfold maxLen at hm
 have hb0:=(Below.refl w.heap.size w).alloc (Nat.le_refl _) (.cells #[.int .i64 0,.int .i64 0] 31)
 have hI0:=h.later hb0
 have HX:=Lib.hid (fun (W:World) (hW:Moves F (w.alloc (.cells #[.int .i64 0,.int .i64 0] 31)) W)=>hx W ((Moves.of_below (F:=F) hb0).trans hW (fun _ _ k=>k)))
 have HKL:=Lib.hid (fun (W:World) (hW:Below base (w.alloc (.cells #[.int .i64 0,.int .i64 0] 31)) W)=>(hk.later hb0).laterB hB hW)
 have HFIN:=Lib.hid (fun (w1:World) (d1:DkM) (q:DsJ (w.alloc (.cells #[.int .i64 0,.int .i64 0] 31)) base F g d1 w1) (v v2:Value)=>q.fin hb0 (X:=w.heap.size) (Nat.le_refl _) (by simp) (fun e=>by have:=(h.foot _ e).2;omega) v v2)
 have f0:(w.alloc (.cells #[.int .i64 0,.int .i64 0] 31)).cell? ⟨w.heap.size,0,none⟩=some (.int .i64 0):=by simp
 have f1:(w.alloc (.cells #[.int .i64 0,.int .i64 0] 31)).cell? ⟨w.heap.size,1,none⟩=some (.int .i64 0):=by simp
 have z0:(w.alloc (.cells #[.int .i64 0,.int .i64 0] 31)).frozen? ⟨w.heap.size,0,none⟩=false:=by simp
 have z1:(w.alloc (.cells #[.int .i64 0,.int .i64 0] 31)).frozen? ⟨w.heap.size,1,none⟩=false:=by simp
 have HXN:=Lib.hid (show w.heap.size < (w.alloc (.cells #[.int .i64 0,.int .i64 0] 31)).heap.size∧¬ F w.heap.size from ⟨by simp,fun e=>by have:=(h.foot _ e).2;omega⟩)
 have HI:=Lib.hid hI0
 have HO:=Lib.hid ho
 have HS:=Lib.hid hs
 have HZ:=Lib.hid hz
 have HB:=Lib.hid hB
 obtain ⟨ys,hys⟩:∃ ys,ys=(xs.map (fun x:ByteArray=>x.data.toList)):=⟨_,rfl⟩
 have hyl:ys.length=xs.length:=by rw [hys,List.length_map]
 have HYS:=Lib.hid hys
 have HYL:=Lib.hid hyl
 rw [← hys]
 clear h ho hs hz hB hx hk hb0 hI0 hys hyl
 go_enter Tryz.func8,Tryz.ntmps8
 go_upto_region 1 with fail
 generalize hw0:w.alloc _=w0
 have hw0' : w.alloc (.cells #[.int .i64 0,.int .i64 0] 31)=w0:=hw0
 rw [hw0'] at HX HKL HFIN f0 f1 z0 z1 HXN HI
 clear hw0 hw0'
 generalize w.heap.size=X at f0 f1 z0 z1 HXN HFIN ⊢
 by_cases hbig:150 < xs.length
 ·have HR:=Lib.hid (show faultK ys=(10,-1) from by unfold faultK;rw [if_pos (by rw [HYL.out];exact hbig)])
  have HR2:=Lib.hid (show saysK d ys=[]∧doK d ys=d from by unfold saysK doK;rw [HR.out];exact ⟨if_neg (by decide),if_neg (by decide)⟩)
  have hbB:decide ((150:Int) < (xs.length:Int))=true:=decide_eq_true (by omega)
  have HQ:=Lib.hid (HFIN.out w0 d (DsJ.same HI.out))
  go_wp2
  refine bodyPost_ret (v:=.tuple #[.string ⟨#[]⟩,.agg #[.int .i64 10,.int .i64 (-1)]]) (by simp [results,Tryz.results8,go_sem,f0,f1]) rfl ?_
  refine ⟨by rw [HR.out,HR2.out.1],?_⟩
  rw [HR2.out.2]
  exact HQ.out _ _
 ·have hbB:decide ((150:Int) < (xs.length:Int))=false:=decide_eq_false (by omega)
  have hl150:xs.length≤150:=by omega
  have HST:=Lib.hid (show badAt (ys.drop 0) 0=badAt ys 0 from rfl)
  go_wp2
  go_loopw [16] (fun s16 wr=>∃ k:Nat,k≤xs.length∧s16=(.int .i64 (k:Int))∧wr=w0∧Hid (badAt (ys.drop k) k=badAt ys 0)) (fun s16 _=>xs.length - (intOf s16).toNat)
  case atStart=>exact ⟨0,Nat.zero_le _,rfl,rfl,HST⟩
  case round=>
   obtain ⟨k,hk,rfl,rfl,HBD⟩:=hrel
   rename World=>wr
   clear HST
   by_cases hlt:k < xs.length
   ·obtain ⟨b,off,rfl,hc⟩:=(HX.out wr (Moves.refl _ _)).nth hlt
    have HKY:=Lib.hid (show ys.drop k=(xs[k]).data.toList :: ys.drop (k+1) from by
     rw [List.drop_eq_getElem_cons (by rw [HYL.out];exact hlt)]
     congr 1
     simp only [HYS.out,List.getElem_map])
    generalize xs[k]=x at *
    have HBY:=Lib.hid (show badAt ys 0=if (10:UInt8)∈x.data.toList then some k else badAt (ys.drop (k+1)) (k+1) from by
     rw [← HBD.out,HKY.out];rfl)
    have HNL:=Lib.hid (nl_iff x)
    clear HKY HBD
    go_wp2_with fail
    refine (Tryz.strings_Contains_one x 10 _).mono ?_
    rintro e w2 ⟨rfl,rfl⟩
    rw [HNL.out]
    by_cases hnl:(10:UInt8)∈x.data.toList
    ·have HR:=Lib.hid (show faultK ys=(11,(k:Int)) from by
      unfold faultK
      rw [if_neg (by rw [HYL.out];omega),HBY.out,if_pos hnl])
     have HR2:=Lib.hid (show saysK d ys=[]∧doK d ys=d from by unfold saysK doK;rw [HR.out];exact ⟨if_neg (by show ¬ ((11:Int)=0);decide),if_neg (by show ¬ ((11:Int)=0);decide)⟩)
     have HQ:=Lib.hid (HFIN.out _ d (DsJ.same HI.out))
     rw [decide_eq_true hnl]
     clear hnl HNL HBY
     go_wp2
     refine bodyPost_ret (v:=.tuple #[.string ⟨#[]⟩,.agg #[.int .i64 11,.int .i64 (k:Int)]]) (by simp [results,Tryz.results8,go_sem,f0,f1]) rfl ?_
     refine ⟨by rw [HR.out,HR2.out.1],?_⟩
     rw [HR2.out.2]
     exact HQ.out _ _
    ·have HBN:=Lib.hid (show badAt (ys.drop (k+1)) (k+1)=badAt ys 0 from by rw [HBY.out,if_neg hnl])
     rw [decide_eq_false hnl]
     clear hnl HNL HBY
     go_wp2
     exact ⟨⟨k+1,by omega,by go_num,(by first | rfl | trivial),HBN⟩,by simp [intOf];omega⟩
   ·obtain rfl:k=xs.length:=by omega
    have hltB:decide ((xs.length:Int) < (xs.length:Int))=false:=by simp
    have HR:=Lib.hid (show faultK ys=(0,0) from by
     unfold faultK
     rw [if_neg (by rw [HYL.out];omega),← HBD.out,List.drop_of_length_le (by rw [HYL.out];exact Nat.le_refl _)];rfl)
    have HR2:=Lib.hid (show saysK d ys=(linesK d ys).2∧doK d ys=(linesK d ys).1 from by unfold saysK doK;rw [HR.out];exact ⟨if_pos rfl,if_pos rfl⟩)
    have HL150:=Lib.hid (show ys.length≤150 from by rw [HYL.out];exact hl150)
    go_wp2_with fail
    refine (dsReset_c HI.out).mono ?_
    rintro e w3 ⟨⟨u,rfl⟩,hp3⟩
    have HST:=Lib.hid (show DsP wr base F g (linesK d (ys.take 0)).1 (linesK d (ys.take 0)).2 w3 from hp3)
    clear hp3 HBD
    go_wp2
    go_loopw [32] (fun s32 wq=>∃ k:Nat,k≤xs.length∧s32=(.int .i64 (k:Int))∧Hid (DsP wr base F g (linesK d (ys.take k)).1 (linesK d (ys.take k)).2 wq)) (fun s32 _=>xs.length - (intOf s32).toNat)
    case atStart=>exact ⟨0,Nat.zero_le _,rfl,HST⟩
    case round=>
     obtain ⟨k,hk,rfl,HP⟩:=hrel
     rename World=>wq
     clear HST
     have HBQ:=Lib.hid (HP.out.bel HI.out)
     by_cases hlt:k < xs.length
     ·obtain ⟨b,off,rfl,hc⟩:=(HX.out wq (HP.out.mv)).nth hlt
      have HKY:=Lib.hid (show ∃ hj:k < ys.length,ys[k]=(xs[k]).data.toList from ⟨by rw [HYL.out];exact hlt,by simp only [HYS.out,List.getElem_map]⟩)
      have HXZ:=Lib.hid (HZ.out xs[k] (List.getElem_mem hlt))
      generalize xs[k]=x at *
      have HTK:=Lib.hid (show linesK d (ys.take (k+1))=((tellK (linesK d (ys.take k)).1 (askF x.data.toList)).1,(linesK d (ys.take k)).2++linesS (tellK (linesK d (ys.take k)).1 (askF x.data.toList)).2) from by
       obtain ⟨hj,e⟩:=HKY.out
       rw [linesK_take d ys k hj,e])
      have HTL:=Lib.hid (take_len ys k HO.out HS.out hN HL150.out)
      have HKq:=Lib.hid (HKL.out wq HBQ.out)
      have HLN:=Lib.hid (lineP_c HP.out HTL.out.1 HTL.out.2.1 HTL.out.2.2 HKq.out HB.out x HXZ.out)
      clear HKY HTL HKq HP HBQ HXZ
      go_wp2_with fail
      refine HLN.out.mono ?_
      rintro e w4 ⟨⟨u,rfl⟩,hp4⟩
      have HP4:=Lib.hid (show DsP wr base F g (linesK d (ys.take (k+1))).1 (linesK d (ys.take (k+1))).2 w4 from hp4.congr (by rw [HTK.out]) (by rw [HTK.out]))
      clear hp4 HLN HTK
      go_wp2
      exact ⟨⟨k+1,by omega,by go_num,HP4⟩,by simp [intOf];omega⟩
     ·obtain rfl:k=xs.length:=by omega
      have HPE:=Lib.hid (show DsP wr base F g (linesK d ys).1 (linesK d ys).2 wq from HP.out.congr (by rw [List.take_of_length_le (by rw [HYL.out];exact Nat.le_refl _)]) (by rw [List.take_of_length_le (by rw [HYL.out];exact Nat.le_refl _)]))
      clear HP HBQ
      go_wp2_with fail
      refine (dsString_c HPE.out).mono ?_
      rintro e w5 ⟨rfl,hj5⟩
      have HQ:=Lib.hid (HFIN.out w5 _ hj5)
      have hm5:w5.cell? ⟨X,0,none⟩=some (.int .i64 0)∧w5.cell? ⟨X,1,none⟩=some (.int .i64 0)∧w5.frozen? ⟨X,0,none⟩=false∧w5.frozen? ⟨X,1,none⟩=false:=by
       obtain ⟨F5,_,m5,_⟩:=hj5
       exact ⟨(m5.cell HXN.out.1 HXN.out.2 0).trans f0,(m5.cell HXN.out.1 HXN.out.2 1).trans f1,(m5.frozen HXN.out.1 HXN.out.2 0).trans z0,(m5.frozen HXN.out.1 HXN.out.2 1).trans z1⟩
      obtain ⟨y0,y1,y2,y3⟩:=hm5
      clear hj5 HPE f0 f1 z0 z1
      go_wp2
      refine bodyPost_ret (v:=.tuple #[.string ⟨(linesK d ys).2.toArray⟩,.agg #[.int .i64 0,.int .i64 0]]) (by simp [results,Tryz.results8,go_sem,y0,y1]) rfl ?_
      refine ⟨by rw [HR.out,HR2.out.1],?_⟩
      rw [HR2.out.2]
      exact HQ.out _ _
end
end Go.Proofs.YtneoeokfffnonaaGreatDoor
set_option linter.unusedVariables false
set_option linter.unusedSimpArgs false
namespace Go.Proofs.YtneoeokfffnonaaGreatDoor
open Go.RowKit Go
theorem ti_str:TInfo Tryz.prog 9 1 16:=.mk (z:=.string ⟨#[]⟩) (by kernel_rfl) rfl (by decide)
theorem ext1 (s:ByteArray) (i:Nat) (h:i < s.size):(s.extract i (i+1)).data.toList=[s[i]]:=by
 have h2:i < s.data.toList.length:=by rw [ba_len];exact h
 have e:(s.extract i (i+1)).data.toList=(s.data.toList.drop i).take 1:=by
  simp [ByteArray.data_extract,Array.toList_extract]
 rw [e,List.drop_eq_getElem_cons h2]
 simp only [List.take_succ_cons,List.take_zero]
 congr 1
set_option maxRecDepth 100000 in
set_option maxHeartbeats 1000000 in
theorem Words_c (s:ByteArray) (hz:s.size≤9000) (w:World) :
 Calls Tryz.prog 32 #[.string s] w fun e w'=>∃ (a' : Option Addr) (n' cap' : Nat) (xs:List ByteArray),e=.returned (.slice a' n' cap')∧xs.length=n'∧(xs.map (fun x:ByteArray=>x.data.toList))=wordsK s.data.toList∧OwnRow w' w.heap.size 9 1 a' n' cap' (xs.map Value.string)∧Below w.heap.size w w':=by
 obtain ⟨l,hl⟩:∃ l,l=s.data.toList:=⟨_,rfl⟩
 have hll:l.length=s.size:=by rw [hl,ba_len]
 have HL:=Lib.hid hl
 have HLL:=Lib.hid hll
 rw [← hl]
 clear hl hll
 have HST:=Lib.hid (show ([]:List Str)++wordsGo [] (l.drop 0)=wordsK l from rfl)
 have HB0:=Lib.hid (Below.refl w.heap.size w)
 go_enter Tryz.func32,Tryz.ntmps32
 go_wp2
 go_loopw [3,4,5] (fun s3 s4 s5 wr=>∃ (i:Nat) (a' : Option Addr) (cap' n' : Nat) (xs:List ByteArray) (c:ByteArray),i≤s.size+1∧s5=(.int .i64 (i:Int))∧s3=.slice a' n' cap'∧s4=.string c∧n'≤i∧c.size≤i∧Hid (xs.length=n')∧Hid ((i=s.size+1∧(xs.map (fun x:ByteArray=>x.data.toList))=wordsK l)∨(i≤s.size∧(xs.map (fun x:ByteArray=>x.data.toList))++wordsGo c.data.toList (l.drop i)=wordsK l))∧Hid (OwnRow wr w.heap.size 9 1 a' n' cap' (xs.map Value.string))∧Hid (Below w.heap.size w wr)) (fun _ _ s5 _=>s.size+1 - (intOf s5).toNat)
 case atStart=>exact ⟨0,none,0,0,[],⟨#[]⟩,by omega,rfl,rfl,rfl,Nat.le_refl _,Nat.zero_le _,Lib.hid rfl,Lib.hid (.inr ⟨Nat.zero_le _,HST.out⟩),Lib.hid (OwnRow.nil _ _ _ _ _),HB0⟩
 case round=>
  obtain ⟨i,a',cap',n',xs,c,hi,rfl,rfl,rfl,hni,hci,HN,HW,HO,HB⟩:=hrel
  rename World=>wr
  clear HST HB0
  have hsz:w.heap.size≤wr.heap.size:=HB.out.size
  have hw1:IntKind.i64.wrap ((i:Int)+1)=(i:Int)+1:=by rw [IntKind.wrap_i64];omega
  have hi0:(0:Int)≤(i:Int):=by omega
  by_cases h1:i≤s.size
  ·have HW1:=Lib.hid (show (xs.map (fun x:ByteArray=>x.data.toList))++wordsGo c.data.toList (l.drop i)=wordsK l from by
    rcases HW.out with ⟨e,_⟩ | ⟨_,e⟩
    ·omega
    ·exact e)
   have h1B:decide ((i:Int)≤(s.size:Int))=true:=decide_eq_true (by omega)
   clear HW
   by_cases h2:i < s.size
   ·have h2B:decide ((i:Int) < (s.size:Int))=true:=decide_eq_true (by omega)
    have hlt:i < l.length:=by rw [HLL.out];exact h2
    have HDR:=Lib.hid (show l.drop i=s[i] :: l.drop (i+1) from by
     rw [List.drop_eq_getElem_cons hlt];congr 1;simp only [HL.out];rfl)
    have hi1:(i:Int)+1≤(s.size:Int):=by omega
    clear hlt
    by_cases h3:s[i]=32
    ·have h3i:(s[i].toNat:Int)=32:=by rw [h3];rfl
     have h3B:decide ((s[i].toNat:Int)=32)=true:=decide_eq_true h3i
     have h3N:((s[i].toNat:Int) !=32)=false:=by simp [h3i]
     have HWG:=Lib.hid (show wordsGo c.data.toList (l.drop i)=(if c.data.toList=[] then [] else [c.data.toList])++wordsGo [] (l.drop (i+1)) from by
      rw [HDR.out,wordsGo_cons,if_pos h3])
     by_cases hc:c=⟨#[]⟩
     ·subst hc
      have HR:=Lib.hid (show (xs.map (fun x:ByteArray=>x.data.toList))++wordsGo [] (l.drop (i+1))=wordsK l from by rw [← HW1.out,HWG.out];rfl)
      clear h3 HW1 HWG
      go_wp2
      exact ⟨⟨i+1,a',cap',n',xs,⟨#[]⟩,by omega,by go_num,rfl,rfl,by omega,Nat.zero_le _,HN,Lib.hid (.inr ⟨by omega,HR.out⟩),HO,HB⟩,by simp [intOf];omega⟩
     ·have hce:c.toList.isEmpty=false:=by
       rw [ByteArray.toList_eq]
       cases e:c.data.toList with
       | nil=>exact absurd (ba_lit e) hc
       | cons _ _=>rfl
      have HR:=Lib.hid (show ((xs++[c]).map (fun x:ByteArray=>x.data.toList))++wordsGo [] (l.drop (i+1))=wordsK l from by
       rw [← HW1.out,HWG.out,if_neg (fun e=>hc (ba_lit e)),List.map_append,List.append_assoc];rfl)
      clear h3 hc HW1 HWG
      (go_wp2_with (at_builtin;refine wpList_append_new rfl (.tmp 31) (.tmp 33) 22 rfl w.heap.size 9 1 16 Tryz.underlying22 ti_str a' n' cap' _ rfl HO.out 1 1 [.string c] rfl rfl (one1 rfl) (by omega) hsz ?_))
      intro a3 cap3 w3 hown3 hb3 hz3 hg3
      have HO3:=Lib.hid (show OwnRow w3 w.heap.size 9 1 a3 (n' + 1) cap3 ((xs++[c]).map Value.string) from by rw [List.map_append];exact hown3)
      have HB3:=Lib.hid (HB.out.trans hb3)
      have HN3:=Lib.hid (show (xs++[c]).length=n' + 1 from by rw [List.length_append,HN.out];rfl)
      clear hown3 hb3 hz3 hg3 HO HB HN
      go_wp2
      exact ⟨⟨i+1,a3,cap3,n' + 1,xs++[c],⟨#[]⟩,by omega,by go_num,rfl,rfl,by omega,Nat.zero_le _,HN3,Lib.hid (.inr ⟨by omega,HR.out⟩),HO3,HB3⟩,by simp [intOf];omega⟩
    ·have h3i:¬ ((s[i].toNat:Int)=32):=fun e=>h3 (by
      have:s[i].toNat=32:=by omega
      exact UInt8.toNat_inj.1 this)
     have h3B:decide ((s[i].toNat:Int)=32)=false:=decide_eq_false h3i
     have h3N:((s[i].toNat:Int) !=32)=true:=by simpa using h3i
     have HWG:=Lib.hid (show wordsGo c.data.toList (l.drop i)=wordsGo (c.data.toList++[s[i]]) (l.drop (i+1)) from by
      rw [HDR.out,wordsGo_cons,if_neg h3])
     have HX:=Lib.hid (ext1 s i h2)
     have HXS:=Lib.hid (show (s.extract i (i+1)).size=1 from by rw [← ba_len,HX.out];rfl)
     clear h3
     go_wp2
     exact ⟨⟨i+1,a',cap',n',xs,c++s.extract i (i+1),by omega,by go_num,rfl,rfl,by omega,by have:=HXS.out;simp;omega,HN,Lib.hid (.inr ⟨by omega,by rw [← HW1.out,HWG.out,show (c++s.extract i (i+1)).data.toList=c.data.toList++[s[i]] from by rw [← HX.out];simp]⟩),HO,HB⟩,by simp [intOf];omega⟩
   ·have hie:i=s.size:=by omega
    have h2B:decide ((i:Int) < (s.size:Int))=false:=decide_eq_false (by omega)
    have HWG:=Lib.hid (show wordsGo c.data.toList (l.drop i)=if c.data.toList=[] then [] else [c.data.toList] from by
     rw [List.drop_of_length_le (by rw [HLL.out];omega)];rfl)
    by_cases hc:c=⟨#[]⟩
    ·subst hc
     have HR:=Lib.hid (show (xs.map (fun x:ByteArray=>x.data.toList))=wordsK l from by rw [← HW1.out,HWG.out];simp)
     clear HW1 HWG
     go_wp2
     exact ⟨⟨i+1,a',cap',n',xs,⟨#[]⟩,by omega,by go_num,rfl,rfl,by omega,Nat.zero_le _,HN,Lib.hid (.inl ⟨by omega,HR.out⟩),HO,HB⟩,by simp [intOf];omega⟩
    ·have hce:c.toList.isEmpty=false:=by
      rw [ByteArray.toList_eq]
      cases e:c.data.toList with
      | nil=>exact absurd (ba_lit e) hc
      | cons _ _=>rfl
     have HR:=Lib.hid (show ((xs++[c]).map (fun x:ByteArray=>x.data.toList))=wordsK l from by
      rw [← HW1.out,HWG.out,if_neg (fun e=>hc (ba_lit e)),List.map_append];rfl)
     clear hc HW1 HWG
     (go_wp2_with (at_builtin;refine wpList_append_new rfl (.tmp 31) (.tmp 33) 22 rfl w.heap.size 9 1 16 Tryz.underlying22 ti_str a' n' cap' _ rfl HO.out 1 1 [.string c] rfl rfl (one1 rfl) (by omega) hsz ?_))
     intro a3 cap3 w3 hown3 hb3 hz3 hg3
     have HO3:=Lib.hid (show OwnRow w3 w.heap.size 9 1 a3 (n' + 1) cap3 ((xs++[c]).map Value.string) from by rw [List.map_append];exact hown3)
     have HB3:=Lib.hid (HB.out.trans hb3)
     have HN3:=Lib.hid (show (xs++[c]).length=n' + 1 from by rw [List.length_append,HN.out];rfl)
     clear hown3 hb3 hz3 hg3 HO HB HN
     go_wp2
     exact ⟨⟨i+1,a3,cap3,n' + 1,xs++[c],⟨#[]⟩,by omega,by go_num,rfl,rfl,by omega,Nat.zero_le _,HN3,Lib.hid (.inl ⟨by omega,HR.out⟩),HO3,HB3⟩,by simp [intOf];omega⟩
  ·have h1B:decide ((i:Int)≤(s.size:Int))=false:=decide_eq_false (by omega)
   have HW1:=Lib.hid (show (xs.map (fun x:ByteArray=>x.data.toList))=wordsK l from by
    rcases HW.out with ⟨_,e⟩ | ⟨e,_⟩
    ·exact e
    ·omega)
   clear HW
   go_wp2
   go_ret
   exact ⟨a',n',cap',xs,rfl,HN.out,HW1.out,HO.out,HB.out⟩
end Go.Proofs.YtneoeokfffnonaaGreatDoor
