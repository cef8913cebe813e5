/- Merged: WrNum WrHear. -/
import Derived.Test.YtneoeokfffnonaaGreatDoorWrW
set_option linter.unusedVariables false
set_option linter.unusedSimpArgs false
namespace Go.Proofs.YtneoeokfffnonaaGreatDoor
open Go.RowKit
theorem OwnRow.fz {w:World} {base:Nat} {e:TypeId} {size b off n cap:Nat} {xs:List Value} (h:OwnRow w base e size (some ⟨b,off,none⟩) n cap xs) (h0:0 < xs.length) (o:Nat):w.frozen? ⟨b,o,none⟩=false:=by
 rcases h.own with h1 | ⟨g',off',cur,e,_,hh,_,_⟩
 ·have:=h.le;have h2:=h.len;subst h1;obtain rfl:n=0:=by omega
  omega
 ·cases e
  simp [World.frozen?,hh]
structure NumAt (W:World) (base:Nat) (F:Nat→Prop) (g:Nat) (s:WrV) (a:Option Addr) (cap:Nat) (oa:Option Addr) (ocap:Nat) (es:List OpE) (X:Nat) (o:OpE):Prop where
 wr:WrAt W base F g s
 rw:WrRows W base F g s a cap oa ocap es
 mem:o∈es
 lt:X < W.heap.size
 nf:¬ F X
 x2:W.cell? ⟨X,2,none⟩=some (.int .i64 o.d.No)
 x7:W.cell? ⟨X,7,none⟩=some (.slice o.ta o.took.length o.tc)
section
variable {W W' : World} {base:Nat} {F:Nat→Prop} {g:Nat} {s:WrV} {a oa:Option Addr} {cap ocap:Nat} {es:List OpE} {X:Nat} {o:OpE}
theorem NumAt.later (h:NumAt W base F g s a cap oa ocap es X o) (hl:Below W.heap.size W W'):NumAt W' base F g s a cap oa ocap es X o:=by
 have hb:Moves (fun k=>W.heap.size≤k) W W':=Moves.of_below hl
 exact ⟨h.wr.later hl,h.rw.moves h.wr.lt h.wr.fg hb fun k hk=>by have:=(h.wr.foot k hk).2;omega,h.mem,Nat.lt_of_lt_of_le h.lt hl.size,h.nf,(hl.cell (p:=⟨X,2,none⟩) h.lt).trans h.x2,(hl.cell (p:=⟨X,7,none⟩) h.lt).trans h.x7⟩
theorem NumAt.step {b off:Nat} (h:NumAt W base F g s (some ⟨b,off,none⟩) cap oa ocap es X o) (i j:Nat) (hi:i < s.L.length) (hj:j < 7) (v:Value) (hv:v.oneCell'=true) (c' : Ch) (hc:c'.cells=s.L[i].cells.set j v) :
 NumAt (W.setCell ⟨b,off+i * 7+j,none⟩ v) base F g { s with L:=s.L.set i c' } (some ⟨b,off,none⟩) cap oa ocap es X o∧Moves F W (W.setCell ⟨b,off+i * 7+j,none⟩ v):=by
 have hoc:ownB (some ⟨b,off,none⟩) cap=some b:=by
  unfold ownB;rw [if_neg (by have:=h.rw.ra.le;omega)];rfl
 have hbF:=(h.rw.fa b hoc).1
 have hm:Moves (fun k=>ownB (some ⟨b,off,none⟩) cap=some k) W (W.setCell ⟨b,off+i * 7+j,none⟩ v):=Moves.setCell _ _ _ hoc
 have hr:=h.rw.ra.setAt (i * 7+j) v (by rw [flat_length];omega) hv
 rw [flat_set_cell s.L i j hi hj v c' hc,← Nat.add_assoc] at hr
 obtain ⟨h1,h2⟩:=h.wr.inList h.rw (s.L.set i c') (by simp) hm hr
 have hbX:¬ X=b:=fun e=>h.nf (e ▸ hbF)
 exact ⟨⟨h1,h2,h.mem,by simpa using h.lt,h.nf,(World.cell?_setCell_other _ _ _ _ (by intro e;first | exact hbX (congrArg Addr.block e) | exact hbX (congrArg Addr.block e).symm)).trans h.x2,(World.cell?_setCell_other _ _ _ _ (by intro e;first | exact hbX (congrArg Addr.block e) | exact hbX (congrArg Addr.block e).symm)).trans h.x7⟩,Moves.setCell _ _ _ hbF⟩
end
set_option maxRecDepth 100000 in
theorem number1_c (x c:Ch) (B Y b off:Nat) (w:World) (hB:w.cell? ⟨B,0,none⟩=some (.pointer (some ⟨b,off,none⟩))) (hc:ChAt w b off c) :
 Calls Tryz.prog 181 #[.agg #[.int .u8 x.C,.int .i64 x.By,.int .i64 x.No,.int .i64 x.K,.int .i64 x.In,.int .i64 x.Out,.int .i64 x.Gone],.pointer (some ⟨B,0,none⟩)] w fun e w'=>e=.returned (.bool (x.same c))∧Below w.heap.size w w':=by
 have hlt:=hc.lt
 have hBl:=World.block_lt_of_cell? w _ hB
 have hb:=(Below.refl w.heap.size w).alloc (Nat.le_refl _) (.cells #[.int .u8 x.C,.int .i64 x.By,.int .i64 x.No,.int .i64 x.K,.int .i64 x.In,.int .i64 x.Out,.int .i64 x.Gone] 125)
 have HB:=Lib.hid hb
 have k0:=(hb.cell (p:=⟨B,0,none⟩) hBl).trans hB
 have hc1:=hc.below hb hlt
 have hn:ChAt (w.alloc (.cells #[.int .u8 x.C,.int .i64 x.By,.int .i64 x.No,.int .i64 x.K,.int .i64 x.In,.int .i64 x.Out,.int .i64 x.Gone] 125)) w.heap.size 0 x:=by simp [ChAt]
 clear hB hc
 go_enter Tryz.func181,Tryz.ntmps181
 go_upto_region 1 with fail
 generalize hw1:w.alloc _=w1
 have hw1' : w.alloc (.cells #[.int .u8 x.C,.int .i64 x.By,.int .i64 x.No,.int .i64 x.K,.int .i64 x.In,.int .i64 x.Out,.int .i64 x.Gone] 125)=w1:=hw1
 rw [hw1'] at k0 hc1 hn hb HB
 clear hw1 hw1' hb
 obtain ⟨Z,hZe⟩:∃ Z,Z=w.heap.size:=⟨_,rfl⟩
 rw [← hZe] at hn HB ⊢
 have HZe:=Lib.hid hZe
 clear hZe
 obtain ⟨q0,q1,q2,q3,q4,q5,q6⟩:=hc1
 obtain ⟨p0,p1,p2,p3,p4,p5,p6⟩:=hn
 simp only [Nat.zero_add] at p0 p1 p2 p3 p4 p5 p6
 have K0:=later_cell k0
 have Q0:=later_cell q0
 have Q1:=later_cell q1
 have Q2:=later_cell q2
 have Q3:=later_cell q3
 have Q4:=later_cell q4
 have Q5:=later_cell q5
 have Q6:=later_cell q6
 have P0:=later_cell p0
 have P1:=later_cell p1
 have P2:=later_cell p2
 have P3:=later_cell p3
 have P4:=later_cell p4
 have P5:=later_cell p5
 have P6:=later_cell p6
 have hZ:Z≤w1.heap.size:=by have:=World.block_lt_of_cell? w1 _ p0;simp at this;omega
 clear k0 q0 q1 q2 q3 q4 q5 q6 p0 p1 p2 p3 p4 p5 p6
 refine wp_region_mix [4] [0,1,2,3,4,5] (by kernel_rfl) (by kernel_rfl) ?_
 have hL:∀ q:Lt w1,Later w1 q.v:=fun q=>q.h
 iterate 4 (refine wpMix_step rfl (fun K hK=>?_);go_simp;refine hK _ _ ?_;clear hK K)
 refine wpMix_step rfl (fun K hK=>?_)
 go_simp
 intro p
 refine (Same_c x c p.v).mono ?_
 rintro e w2 ⟨rfl,hb2⟩
 refine ⟨_,rfl,hb2,hK _ _ ?_⟩
 clear hK K
 have hl2:Later w1 w2:=(show Later w1 p.v from p.h).trans hb2
 clear hb2 p hL
 refine wpMix_step rfl (fun K hK=>?_);go_simp;refine hK _ _ ?_;clear hK K
 refine wpMix_nil ?_
 intro w4 hL4
 have hl4:Below w1.heap.size w1 w4:=hl2.trans hL4
 clear hl2 hL4 K0 Q0 Q1 Q2 Q3 Q4 Q5 Q6 P0 P1 P2 P3 P4 P5 P6
 go_wp2
 go_ret
 exact ⟨rfl,by rw [← HZe.out];exact HB.out.trans (hl4.mono hZ)⟩
def numL (f:Ch→Ch) (l:List Ch) (i:Nat):List Ch:=(l.take i).map f++l.drop i
theorem numL_len (f:Ch→Ch) (l:List Ch) (i:Nat):(numL f l i).length=l.length:=by simp [numL];omega
theorem numL_at (f:Ch→Ch) (l:List Ch) (i:Nat) (h:i < l.length):(numL f l i)[i]'(by rw [numL_len];exact h)=l[i]:=by
 unfold numL
 rw [List.getElem_append_right (by simp;omega)]
 simp [Nat.min_eq_left (Nat.le_of_lt h)]
theorem numL_step (f:Ch→Ch) (l:List Ch) (i:Nat) (h:i < l.length):(numL f l i).set i (f l[i])=numL f l (i+1):=by
 unfold numL
 rw [List.drop_eq_getElem_cons h,List.set_append_right _ _ (by simp;omega),List.take_succ_eq_append_getElem h,List.map_append]
 simp [Nat.min_eq_left (Nat.le_of_lt h)]
 rw [List.drop_eq_getElem_cons h];rfl
set_option maxRecDepth 100000 in
set_option maxHeartbeats 2000000 in
theorem Wnumber_c {w:World} {base:Nat} {F:Nat→Prop} {g:Nat} {s:WrV} {a oa:Option Addr} {cap ocap:Nat} {es:List OpE} (h:WrAt w base F g s) (r:WrRows w base F g s a cap oa ocap es) (o:OpE) (ho:o∈es) (n:Int) (hl:s.L.length≤1000) :
 Calls Tryz.prog 160 #[.pointer (some ⟨g,0,none⟩),.agg #[.int .i64 o.d.Kind,.int .i64 o.d.By,.int .i64 o.d.No,.int .i64 o.d.Seen,.int .i64 o.d.At,.int .i64 o.d.Many,.string o.d.Text,.slice o.ta o.took.length o.tc,.bool o.sent],.int .i64 n] w fun e w'=>(∃ v,e=.returned v)∧WrAt w' base F g { s with L:=s.L.map (numC s.me o.d.No n fun k=>decide (k∈o.took.map key)) }∧
  WrRows w' base F g { s with L:=s.L.map (numC s.me o.d.No n fun k=>decide (k∈o.took.map key)) } a cap oa ocap es∧Moves F w w':=by
 obtain ⟨f,hf⟩:∃ f,f=numC s.me o.d.No n fun k=>decide (k∈o.took.map key):=⟨_,rfl⟩
 rw [← hf]
 have HFD:=Lib.hid hf
 clear hf
 have hb0:=(Below.refl w.heap.size w).alloc (Nat.le_refl _) (.cells #[.int .i64 o.d.Kind,.int .i64 o.d.By,.int .i64 o.d.No,.int .i64 o.d.Seen,.int .i64 o.d.At,.int .i64 o.d.Many,.string o.d.Text,.slice o.ta o.took.length o.tc,.bool o.sent] 174)
 have hN0:NumAt (w.alloc (.cells #[.int .i64 o.d.Kind,.int .i64 o.d.By,.int .i64 o.d.No,.int .i64 o.d.Seen,.int .i64 o.d.At,.int .i64 o.d.Many,.string o.d.Text,.slice o.ta o.took.length o.tc,.bool o.sent] 174)) base F g s a cap oa ocap es w.heap.size o:=by
  have hmb:Moves (fun k=>w.heap.size≤k) w (w.alloc (.cells #[.int .i64 o.d.Kind,.int .i64 o.d.By,.int .i64 o.d.No,.int .i64 o.d.Seen,.int .i64 o.d.At,.int .i64 o.d.Many,.string o.d.Text,.slice o.ta o.took.length o.tc,.bool o.sent] 174)):=Moves.of_below hb0
  exact ⟨h.later hb0,r.moves h.lt h.fg hmb fun k hk=>by have:=(h.foot k hk).2;omega,ho,by simp,fun hk=>by have:=(h.foot _ hk).2;omega,by simp,by simp⟩
 have HM0:=Lib.hid (Moves.of_below (F:=F) hb0)
 clear h r hb0 ho
 go_enter Tryz.func160,Tryz.ntmps160
 go_upto_region 1 with fail
 generalize hw0:w.alloc _=w0
 have hw0' : w.alloc (.cells #[.int .i64 o.d.Kind,.int .i64 o.d.By,.int .i64 o.d.No,.int .i64 o.d.Seen,.int .i64 o.d.At,.int .i64 o.d.Many,.string o.d.Text,.slice o.ta o.took.length o.tc,.bool o.sent] 174)=w0:=hw0
 rw [hw0'] at hN0 HM0
 clear hw0 hw0'
 generalize w.heap.size=X at *
 have c3:=hN0.rw.c3
 have HN0:=Lib.hid hN0
 clear hN0
 go_wp2
 clear c3
 go_loopw [14] (fun s14 wr=>∃ i:Nat,i≤s.L.length∧s14=(.int .i64 i)∧Hid (NumAt wr base F g { s with L:=numL f s.L i } a cap oa ocap es X o)∧Hid (Moves F w wr)) (fun s14 _=>s.L.length - (intOf s14).toNat)
 case atStart=>exact ⟨0,Nat.zero_le _,rfl,Lib.hid (by have:numL f s.L 0=s.L:=by simp [numL]
                                                      rw [this];exact HN0.out),HM0⟩
 case round=>
  obtain ⟨i,hi,rfl,HN,HM⟩:=hrel
  by_cases hlt:i < s.L.length
  ·have hltm:i < (numL f s.L i).length:=by rw [numL_len];exact hlt
   obtain ⟨cb,off,ha,hcb,hcl,hcc⟩:=HN.out.rw.ra.cell (by show 0 < (flat (numL f s.L i)).length;rw [flat_length];omega)
   subst ha
   have HFI:=Lib.hid (show (numL f s.L i).set i (f s.L[i])=numL f s.L (i+1) from numL_step f s.L i hlt)
   have HAJ:=Lib.hid (show (numL f s.L i)[i]? = some s.L[i] from by rw [List.getElem?_eq_getElem hltm,numL_at f s.L i hlt])
   have HLL:=Lib.hid (numL_len f s.L i)
   have hlt' : (i:Int) < s.L.length:=by omega
   have hi0:(0:Int)≤(i:Int):=by omega
   have hltB:decide ((i:Int) < (s.L.length:Int))=true:=decide_eq_true hlt'
   have hltN:decide (i < s.L.length)=true:=decide_eq_true hlt
   clear hcc
   obtain ⟨c,hcD⟩:∃ c,c=s.L[i]:=⟨_,rfl⟩
   rw [← hcD] at HFI HAJ
   have HCD:=Lib.hid (show f c=numC s.me o.d.No n (fun k=>decide (k∈o.took.map key)) c from by rw [HFD.out])
   clear hcD
   generalize hLi:numL f s.L i=Li at *
   clear hLi
   have HAI:=Lib.hid (show Li[i]'hltm=c from (List.getElem?_eq_some_iff.1 HAJ.out).2)
   have hL3:=HN.out.rw.c3
   have hL3:wr.cell? ⟨g,3,none⟩=some (.slice (some ⟨cb,off,none⟩) s.L.length cap):=by
    have:=HN.out.rw.c3
    show wr.cell? ⟨g,3,none⟩=some (.slice (some ⟨cb,off,none⟩) s.L.length cap)
    rw [← HLL.out];exact this
   go_upto_region 5 with fail
   generalize hw5:wr.alloc _=w5
   have hb5:=(Below.refl wr.heap.size wr).alloc (Nat.le_refl _) (.cells #[.pointer (some ⟨cb,off+i * 7,none⟩)] 217)
   have hY5:(wr.alloc (.cells #[.pointer (some ⟨cb,off+i * 7,none⟩)] 217)).cell? ⟨wr.heap.size,0,none⟩=some (.pointer (some ⟨cb,off+i * 7,none⟩)):=by simp
   have hYl:wr.heap.size < (wr.alloc (.cells #[.pointer (some ⟨cb,off+i * 7,none⟩)] 217)).heap.size:=by simp
   have hw5' : wr.alloc (.cells #[.pointer (some ⟨cb,off+i * 7,none⟩)] 217)=w5:=hw5
   rw [hw5'] at hb5 hY5 hYl
   have HN5:=Lib.hid (HN.out.later hb5)
   have HM5:=Lib.hid (HM.out.trans (Moves.of_below (F:=F) hb5) (fun _ _ k=>k))
   clear hw5 hw5' hb5 HN HM hL3
   generalize wr.heap.size=Y at *
   obtain ⟨b',off',e',hcx⟩:=HN5.out.rw.ra.slCh.nth (show i < Li.length from hltm)
   cases e'
   have hcx2:ChAt w5 cb (off+i * 7) (Li[i]'hltm):=hcx
   rw [HAI.out] at hcx2
   obtain ⟨q0,q1,q2,q3,q4,q5,q6⟩:=hcx2
   clear hcx
   have c0:=HN5.out.wr.c0
   have x2:=HN5.out.x2
   clear q0 q3 q5 q6
   by_cases hown:c.By=s.me∧c.No=o.d.No
   ·obtain ⟨hw1,hw2⟩:=hown
    have HO1:=Lib.hid hw1;have HO2:=Lib.hid hw2
    rw [hw1] at q1
    rw [hw2] at q2
    have hbB:∀ x:Int,decide (x=x)=true:=fun x=>by simp
    go_quiet (fail)
    have hL1:Later w5 (w5.drewN nq):=bl_drewN (Below.refl _ _) nq
    generalize w5.drewN nq=w6 at *
    have HN6:=Lib.hid (HN5.out.later hL1)
    have HM6:=Lib.hid (HM5.out.trans (Moves.of_below (F:=F) hL1) (fun _ _ k=>k))
    have hY6:=(hL1.cell (p:=⟨Y,0,none⟩) hYl).trans hY5
    have hYl6:Y < w6.heap.size:=Nat.lt_of_lt_of_le hYl hL1.size
    have q4:=(hL1.cell (p:=⟨cb,off+i * 7+4,none⟩) (by have:=hL1.size;have:=(HN5.out.wr.foot cb (HN5.out.rw.fa cb (by unfold ownB;rw [if_neg (by have:=HN5.out.rw.ra.le;have:({ s with L:=Li }:WrV).L.length=Li.length:=rfl;omega)];rfl)).1).2;exact this)).trans q4
    have f4:=HN6.out.rw.ra.fz (by show 0 < (flat Li).length;rw [flat_length];omega) (off+i * 7+4)
    clear hL1 hY5 hYl HN5 HM5 q1 q2 c0 x2 hw1 hw2
    obtain ⟨hN7,hM7⟩:=HN6.out.step i 4 hltm (by omega) (.int .i64 n) rfl ({ c with In:=n }:Ch) (by have:=HAI.out;show _=(Li[i]'hltm).cells.set 4 _;rw [this];rfl)
    have HN7:=Lib.hid hN7
    have HM7:=Lib.hid (HM6.out.trans hM7 (fun _ _ k=>k))
    have hY7:(w6.setCell ⟨cb,off+i * 7+4,none⟩ (.int .i64 n)).cell? ⟨Y,0,none⟩=some (.pointer (some ⟨cb,off+i * 7,none⟩)):=(World.cell?_setCell_other _ _ _ _ (by intro e;have h9:=congrArg Addr.block e;dsimp only at h9;omega)).trans hY6
    have hYl7:Y < (w6.setCell ⟨cb,off+i * 7+4,none⟩ (.int .i64 n)).heap.size:=by simpa using hYl6
    go_upto_region 7 with fail
    generalize w6.setCell ⟨cb,off+i * 7+4,none⟩ (.int .i64 n)=w7 at *
    clear HN6 HM6 hY6 hYl6 q4 f4 hN7 hM7
    obtain ⟨c1,hc1⟩:∃ c1:Ch,c1={ c with In:=n }:=⟨_,rfl⟩
    rw [← hc1] at HN7
    have HNC:=Lib.hid (show numC s.me o.d.No n (fun k=>decide (k∈o.took.map key)) c=if key c1∈o.took.map key∧(c1.Out=0∨n < c1.Out) then { c1 with Out:=n } else c1 from by
     subst hc1;unfold numC;rw [if_pos ⟨HO1.out,HO2.out⟩]
     show _=if key c∈o.took.map key∧(c.Out=0∨n < c.Out) then _ else _
     by_cases hq:key c∈o.took.map key∧(c.Out=0∨n < c.Out)
     ·rw [if_pos hq,if_pos (by simpa using hq)]
     ·rw [if_neg hq,if_neg (by simpa using hq)])
    clear hc1
    have hltm2:i < (Li.set i c1).length:=by rw [List.length_set];exact hltm
    have HCi:=Lib.hid (show ChAt w7 cb (off+i * 7) c1 from by
     obtain ⟨b',off',e',hc⟩:=HN7.out.rw.ra.slCh.nth (show i < (Li.set i c1).length from hltm2)
     cases e'
     have e2:(Li.set i c1)[i]'hltm2=c1:=List.getElem_set_self _
     have hc2:ChAt w7 cb (off+i * 7) ((Li.set i c1)[i]'hltm2):=hc
     rw [e2] at hc2;exact hc2)
    have x7:=HN7.out.x7
    have HTK:=Lib.hid (HN7.out.rw.rt o HN7.out.mem).1.slCh
    have hp:PredCall Tryz.prog 181 #[] #[.pointer (some ⟨Y,0,none⟩)] (fun x=>x.same c1) w7:=fun x W hb=>number1_c x c1 Y Y cb (off+i * 7) W ((hb.cell (p:=⟨Y,0,none⟩) hYl7).trans hY7) (HCi.out.below hb HCi.out.lt)
    go_wp2_with fail
    refine (ContainsFunc_c o.ta o.tc o.took _ _ _ _ _ HTK.out hp (enters_of Tryz.func181 (by kernel_rfl) rfl)).mono ?_
    rintro e w8 ⟨rfl,hb8⟩
    rw [any_key]
    have HN8:=Lib.hid (HN7.out.later hb8)
    have HM8:=Lib.hid (HM7.out.trans (Moves.of_below (F:=F) hb8) (fun _ _ k=>k))
    have hY8:=(hb8.cell (p:=⟨Y,0,none⟩) hYl7).trans hY7
    have q5:=(HCi.out.below hb8 HCi.out.lt).2.2.2.2.2.1
    clear hp x7 HTK HCi hb8 HN7 HM7 hY7 hYl7
    by_cases hk:key c1∈o.took.map key
    ·have hkB:decide (key c1∈o.took.map key)=true:=decide_eq_true hk
     rw [hkB]
     by_cases ho:c1.Out=0∨n < c1.Out
     ·have HNE:=Lib.hid (show numC s.me o.d.No n (fun k=>decide (k∈o.took.map key)) c={ c1 with Out:=n } from by rw [HNC.out,if_pos ⟨hk,ho⟩])
      have f5:=HN8.out.rw.ra.fz (by show 0 < (flat (Li.set i c1)).length;rw [flat_length];omega) (off+i * 7+5)
      obtain ⟨hN9,hM9⟩:=HN8.out.step i 5 hltm2 (by omega) (.int .i64 n) rfl ({ c1 with Out:=n }:Ch) (by show _=((Li.set i c1)[i]'hltm2).cells.set 5 _;rw [List.getElem_set_self];rfl)
      have HN9:=Lib.hid (show NumAt (w8.setCell ⟨cb,off+i * 7+5,none⟩ (.int .i64 n)) base F g { s with L:=numL f s.L (i+1) } (some ⟨cb,off,none⟩) cap oa ocap es X o from by
       rw [← HFI.out,HCD.out,HNE.out]
       have e:=hN9
       simp only [List.set_set] at e
       exact e)
      have HM9:=Lib.hid (HM8.out.trans hM9 (fun _ _ k=>k))
      clear hN9 hM9 HN8 HM8 hk hkB HNE HNC
      by_cases hz:c1.Out=0
      ·rw [hz] at q5
       clear ho hz
       go_wp2
       exact ⟨⟨i+1,by omega,by go_num,HN9,HM9⟩,by simp [intOf];omega⟩
      ·have hzB:(c1.Out==0)=false:=by simpa using hz
       have hzB2:decide (c1.Out=0)=false:=decide_eq_false hz
       have hnB:decide (n < c1.Out)=true:=decide_eq_true (by omega)
       clear ho hz
       generalize c1.Out=ou at *
       go_wp2
       exact ⟨⟨i+1,by omega,by go_num,HN9,HM9⟩,by simp [intOf];omega⟩
     ·have HN9:=Lib.hid (show NumAt w8 base F g { s with L:=numL f s.L (i+1) } (some ⟨cb,off,none⟩) cap oa ocap es X o from by
       rw [← HFI.out,HCD.out,HNC.out,if_neg (fun h=>ho h.2)];exact HN8.out)
      have hz:¬ c1.Out=0:=fun e=>ho (.inl e)
      have hzB:(c1.Out==0)=false:=by simpa using hz
      have hzB2:decide (c1.Out=0)=false:=decide_eq_false hz
      have hnB:decide (n < c1.Out)=false:=decide_eq_false (fun e=>ho (.inr e))
      clear HN8 ho hz hk hkB HNC
      generalize c1.Out=ou at *
      go_wp2
      exact ⟨⟨i+1,by omega,by go_num,HN9,HM8⟩,by simp [intOf];omega⟩
    ·have hkB:decide (key c1∈o.took.map key)=false:=decide_eq_false hk
     rw [hkB]
     have HN9:=Lib.hid (show NumAt w8 base F g { s with L:=numL f s.L (i+1) } (some ⟨cb,off,none⟩) cap oa ocap es X o from by
      rw [← HFI.out,HCD.out,HNC.out,if_neg (fun h=>hk h.1)];exact HN8.out)
     clear HN8 hk hkB q5 HNC
     go_wp2
     exact ⟨⟨i+1,by omega,by go_num,HN9,HM8⟩,by simp [intOf];omega⟩
   ·have HOW:=Lib.hid hown
    have hbB:∀ x:Int,decide (x=x)=true:=fun x=>by simp
    have hbC:c.By=s.me→decide (c.No=o.d.No)=false:=fun e=>decide_eq_false fun e2=>HOW.out ⟨e,e2⟩
    have HNC:=Lib.hid (show numC s.me o.d.No n (fun k=>decide (k∈o.took.map key)) c=if key c∈o.took.map key∧(c.Out=0∨n < c.Out) then { c with Out:=n } else c from by
     unfold numC;rw [if_neg HOW.out]
     by_cases hq:key c∈o.took.map key∧(c.Out=0∨n < c.Out)
     ·rw [if_pos hq,if_pos (by simpa using hq)]
     ·rw [if_neg hq,if_neg (by simpa using hq)])
    have hcx:∃ x y:Bool,(c.By==s.me)=x∧(c.No==o.d.No)=y∧(x&&y)=false:=⟨_,_,rfl,rfl,by
     cases h1:(c.By==s.me) <;> cases h2:(c.No==o.d.No) <;> first | rfl | exact absurd ⟨by simpa using h1,by simpa using h2⟩ HOW.out⟩
    obtain ⟨bx,bY,hbx,hby,hbxy⟩:=hcx
    have HPQ:=Lib.hid (And.intro hbx hby)
    clear hbC hown
    cases bx
    all_goals
     cases bY
    all_goals
     first
     | (exfalso;revert hbxy;decide)
     | skip
    all_goals
     go_quiet (fail)
     have hL1:Later w5 (w5.drewN nq):=bl_drewN (Below.refl _ _) nq
     generalize w5.drewN nq=w7 at *
     have HN7:=Lib.hid (show NumAt w7 base F g { s with L:=Li.set i c } (some ⟨cb,off,none⟩) cap oa ocap es X o from by
      have e1:Li.set i c=Li:=by have:=HAI.out;rw [← this];exact List.set_getElem_self _
      rw [e1];exact HN5.out.later hL1)
     have HM7:=Lib.hid (HM5.out.trans (Moves.of_below (F:=F) hL1) (fun _ _ k=>k))
     have hY7:=(hL1.cell (p:=⟨Y,0,none⟩) hYl).trans hY5
     have hYl7:Y < w7.heap.size:=Nat.lt_of_lt_of_le hYl hL1.size
     clear hL1 hY5 hYl HN5 HM5 q1 q2 q4 c0 x2 hbx hby hbxy HPQ
     go_upto_region 7 with fail
     have hltm2:i < (Li.set i c).length:=by rw [List.length_set];exact hltm
     have HCi:=Lib.hid (show ChAt w7 cb (off+i * 7) c from by
      obtain ⟨b',off',e',hc⟩:=HN7.out.rw.ra.slCh.nth (show i < (Li.set i c).length from hltm2)
      cases e'
      have e2:(Li.set i c)[i]'hltm2=c:=List.getElem_set_self _
      have hc2:ChAt w7 cb (off+i * 7) ((Li.set i c)[i]'hltm2):=hc
      rw [e2] at hc2;exact hc2)
     have x7:=HN7.out.x7
     have HTK:=Lib.hid (HN7.out.rw.rt o HN7.out.mem).1.slCh
     have hp:PredCall Tryz.prog 181 #[] #[.pointer (some ⟨Y,0,none⟩)] (fun x=>x.same c) w7:=fun x W hb=>number1_c x c Y Y cb (off+i * 7) W ((hb.cell (p:=⟨Y,0,none⟩) hYl7).trans hY7) (HCi.out.below hb HCi.out.lt)
     go_wp2_with fail
     refine (ContainsFunc_c o.ta o.tc o.took _ _ _ _ _ HTK.out hp (enters_of Tryz.func181 (by kernel_rfl) rfl)).mono ?_
     rintro e w8 ⟨rfl,hb8⟩
     rw [any_key]
     have HN8:=Lib.hid (HN7.out.later hb8)
     have HM8:=Lib.hid (HM7.out.trans (Moves.of_below (F:=F) hb8) (fun _ _ k=>k))
     have hY8:=(hb8.cell (p:=⟨Y,0,none⟩) hYl7).trans hY7
     have q5:=(HCi.out.below hb8 HCi.out.lt).2.2.2.2.2.1
     clear hp x7 HTK HCi hb8 HN7 HM7 hY7 hYl7
     by_cases hk:key c∈o.took.map key
     ·have hkB:decide (key c∈o.took.map key)=true:=decide_eq_true hk
      rw [hkB]
      by_cases ho:c.Out=0∨n < c.Out
      ·have HNE:=Lib.hid (show numC s.me o.d.No n (fun k=>decide (k∈o.took.map key)) c={ c with Out:=n } from by rw [HNC.out,if_pos ⟨hk,ho⟩])
       have f5:=HN8.out.rw.ra.fz (by show 0 < (flat (Li.set i c)).length;rw [flat_length];omega) (off+i * 7+5)
       obtain ⟨hN9,hM9⟩:=HN8.out.step i 5 hltm2 (by omega) (.int .i64 n) rfl ({ c with Out:=n }:Ch) (by show _=((Li.set i c)[i]'hltm2).cells.set 5 _;rw [List.getElem_set_self];rfl)
       have HN9:=Lib.hid (show NumAt (w8.setCell ⟨cb,off+i * 7+5,none⟩ (.int .i64 n)) base F g { s with L:=numL f s.L (i+1) } (some ⟨cb,off,none⟩) cap oa ocap es X o from by
        rw [← HFI.out,HCD.out,HNE.out]
        have e:=hN9
        simp only [List.set_set] at e
        exact e)
       have HM9:=Lib.hid (HM8.out.trans hM9 (fun _ _ k=>k))
       clear hN9 hM9 HN8 HM8 hk hkB HNE HNC
       by_cases hz:c.Out=0
       ·rw [hz] at q5
        clear ho hz
        go_wp2
        exact ⟨⟨i+1,by omega,by go_num,HN9,HM9⟩,by simp [intOf];omega⟩
       ·have hzB:(c.Out==0)=false:=by simpa using hz
        have hzB2:decide (c.Out=0)=false:=decide_eq_false hz
        have hnB:decide (n < c.Out)=true:=decide_eq_true (by omega)
        clear ho hz
        generalize c.Out=ou at *
        go_wp2
        exact ⟨⟨i+1,by omega,by go_num,HN9,HM9⟩,by simp [intOf];omega⟩
      ·have HN9:=Lib.hid (show NumAt w8 base F g { s with L:=numL f s.L (i+1) } (some ⟨cb,off,none⟩) cap oa ocap es X o from by
        rw [← HFI.out,HCD.out,HNC.out,if_neg (fun h=>ho h.2)];exact HN8.out)
       have hz:¬ c.Out=0:=fun e=>ho (.inl e)
       have hzB:(c.Out==0)=false:=by simpa using hz
       have hzB2:decide (c.Out=0)=false:=decide_eq_false hz
       have hnB:decide (n < c.Out)=false:=decide_eq_false (fun e=>ho (.inr e))
       clear HN8 ho hz hk hkB HNC
       generalize c.Out=ou at *
       go_wp2
       exact ⟨⟨i+1,by omega,by go_num,HN9,HM8⟩,by simp [intOf];omega⟩
     ·have hkB:decide (key c∈o.took.map key)=false:=decide_eq_false hk
      rw [hkB]
      have HN9:=Lib.hid (show NumAt w8 base F g { s with L:=numL f s.L (i+1) } (some ⟨cb,off,none⟩) cap oa ocap es X o from by
       rw [← HFI.out,HCD.out,HNC.out,if_neg (fun h=>hk h.1)];exact HN8.out)
      clear HN8 hk hkB q5 HNC
      go_wp2
      exact ⟨⟨i+1,by omega,by go_num,HN9,HM8⟩,by simp [intOf];omega⟩
  ·obtain rfl:i=s.L.length:=by omega
   have hltB:decide ((s.L.length:Int) < (s.L.length:Int))=false:=by simp
   have HE:=Lib.hid (show NumAt wr base F g { s with L:=s.L.map f } a cap oa ocap es X o from by
    have e:numL f s.L s.L.length=s.L.map f:=by simp [numL]
    rw [← e];exact HN.out)
   clear HN hlt
   go_wp2
   refine bodyPost_end (results_none rfl _ _ _) rfl ?_
   exact ⟨⟨_,rfl⟩,HE.out.wr,HE.out.rw,HM.out⟩
end Go.Proofs.YtneoeokfffnonaaGreatDoor
namespace Go.Proofs.YtneoeokfffnonaaGreatDoor
open Go.RowKit
theorem guard_DeedW:Tryz.prog.eqGuardType Tryz.prog.depth 122=false:=by kernel_rfl
theorem neq_Deed (x y:Dd) (w:World):(binOp .neq 122 (.agg #[.int .i64 x.Kind,.int .i64 x.By,.int .i64 x.No,.int .i64 x.Seen,.int .i64 x.At,.int .i64 x.Many,.string x.Text]) (.agg #[.int .i64 y.Kind,.int .i64 y.By,.int .i64 y.No,.int .i64 y.Seen,.int .i64 y.At,.int .i64 y.Many,.string y.Text])).run Tryz.prog w=.ok (.bool (!decide (x=y))) w:=by
 have u3:=Tryz.underlying3
 have a3:=Tryz.isAgg3
 have z3:=Tryz.sizeOf3
 have u5:=Tryz.underlying9
 have a5:=Tryz.isAgg9
 have z5:=Tryz.sizeOf9
 have hS:Tryz.prog.underlying 122=some (.struct (Tryz.prog.fieldsOf 122)):=by kernel_rfl
 have hp:Tryz.prog.stoodInHeld 122=false:=by kernel_rfl
 rw [run_neq_struct,show (10000:Nat)=9999+1 from rfl,run_equalIn_agg w 9999 122 _ _ hS hp]
 simp only [Program.fieldsOf,Tryz.underlying122]
 obtain ⟨k,b,n,s,a,m,t⟩:=x
 obtain ⟨k',b',n',s',a',m',t'⟩:=y
 have e:decide ((⟨k,b,n,s,a,m,t⟩:Dd)=⟨k',b',n',s',a',m',t'⟩)=(decide (k=k')&&decide (b=b')&&decide (n=n')&&decide (s=s')&&decide (a=a')&&decide (m=m')&&decide (t=t')):=by
  simp only [Dd.mk.injEq,Bool.decide_and,Bool.and_assoc]
 rw [e]
 have ht:(t.toList=t'.toList)↔t=t':=⟨fun h=>ba_ext (by rwa [ByteArray.toList_eq,ByteArray.toList_eq] at h),fun h=>by rw [h]⟩
 go_simp
 try simp only [ht]
 repeat' split
 all_goals simp_all
def WHearPost (w:World) (base:Nat) (F:Nat→Prop) (g:Nat) (s:WrV) (d:Dd) (e:Ending) (w' : World):Prop:=
 (d.By≠s.me∧e=.returned (.int .i64 (doF s.L d (s.seen+1)).2)∧Moves F w w'∧((doF s.L d (s.seen+1)).2≠0∧WrAt w' base F g s∨(doF s.L d (s.seen+1)).2=0∧∃ F',WrAt w' base F' g { s with L:=(doF s.L d (s.seen+1)).1,seen:=s.seen+1 }∧Grows F w F'))∨
 (d.By=s.me∧(∀ o,s.os.head? = some o→o.d≠d)∧e=.returned (.int .i64 12)∧Moves F w w'∧WrAt w' base F g s)∨
 (d.By=s.me∧∃ o os,s.os=o :: os∧o.d=d∧e=.returned (.int .i64 0)∧Moves F w w'∧WrAt w' base F g { s with L:=s.L.map (numC s.me d.No (s.seen+1) fun k=>decide (k∈o.took.map key)),os:=os,ns:=s.ns - 1,seen:=s.seen+1 })
set_option maxRecDepth 100000 in
set_option maxHeartbeats 2000000 in
theorem WHear_c {w:World} {base:Nat} {F:Nat→Prop} {g:Nat} {s:WrV} (h:WrAt w base F g s) (hG:∀ c∈s.L,i64ok c.Gone) (hl:s.L.length≤1000) (hos:s.os.length≤1000000) (hsn:0≤s.seen∧s.seen≤1000000) (d:Dd) (hdt:d.Text.size≤maxLen) (hdm:i64ok d.Many) :
 Calls Tryz.prog 130 #[.pointer (some ⟨g,0,none⟩),.agg #[.int .i64 d.Kind,.int .i64 d.By,.int .i64 d.No,.int .i64 d.Seen,.int .i64 d.At,.int .i64 d.Many,.string d.Text]] w (WHearPost w base F g s d):=by
 have hb0:=(Below.refl w.heap.size w).alloc (Nat.le_refl _) (.cells #[.int .i64 d.Kind,.int .i64 d.By,.int .i64 d.No,.int .i64 d.Seen,.int .i64 d.At,.int .i64 d.Many,.string d.Text] 122)
 have HA0:=Lib.hid (h.later hb0)
 have HD0:=Lib.hid (DdAt.new w d)
 have HM0:=Lib.hid (Moves.of_below (F:=F) hb0)
 have HNF:=Lib.hid (show ¬ F w.heap.size from fun hf=>Nat.lt_irrefl _ (h.foot _ hf).2)
 have HFX:=Lib.hid (show ∀ k,F k→k < w.heap.size from fun k hk=>(h.foot k hk).2)
 have HFG:=Lib.hid h.fg
 have HG:=Lib.hid hG
 have HDT:=Lib.hid hdt
 have HDM:=Lib.hid hdm
 have hbs:=h.base_le
 have hinc:IntKind.i64.wrap (s.seen+1)=s.seen+1:=by rw [IntKind.wrap_i64];omega
 clear h hb0 hG hdt hdm
 go_enter Tryz.func130,Tryz.ntmps130
 have c1:=HA0.out.c1
 go_upto_region 2 with fail
 clear c1
 generalize hw0:w.alloc _=w0
 have hw0' : w.alloc (.cells #[.int .i64 d.Kind,.int .i64 d.By,.int .i64 d.No,.int .i64 d.Seen,.int .i64 d.At,.int .i64 d.Many,.string d.Text] 122)=w0:=hw0
 rw [hw0'] at HA0 HD0 HM0
 clear hw0 hw0'
 obtain ⟨X,hX⟩:∃ X,X=w.heap.size:=⟨_,rfl⟩
 rw [← hX] at HD0 HNF HFX ⊢
 have hXB:base≤X:=by omega
 have HXW:=Lib.hid hX
 have hXl:X < w0.heap.size:=HD0.out.lt
 clear hX
 obtain ⟨N,hN⟩:∃ N,N=s.seen+1:=⟨_,rfl⟩
 have HNE:=Lib.hid hN
 have hN1:1≤N:=by omega
 rw [← hN]
 clear hN hinc
 have c0:=HA0.out.c0
 obtain ⟨_,_,d1,_,_,_,_,_⟩:=HD0.out
 by_cases hown:d.By=s.me
 case neg=>
  have HOW:=Lib.hid hown
  have hneB:(d.By !=s.me)=true:=by simpa using hown
  have hneD:decide (d.By=s.me)=false:=decide_eq_false hown
  clear hown
  go_quiet (fail)
  have hL1:Later w0 (w0.drewN nq):=bl_drewN (Below.refl _ _) nq
  generalize w0.drewN nq=w1 at *
  have HA1:=Lib.hid (HA0.out.later hL1)
  have HD1:=Lib.hid (HD0.out.later hL1)
  have HM1:=Lib.hid (HM0.out.trans (Moves.of_below (F:=F) hL1) (fun _ _ k=>k))
  clear hL1 c0 d1 HA0 HD0 HM0 hneB hneD hXl
  obtain ⟨dlt,d0,d1,d2,d3,d4,d5,d6⟩:=HD1.out
  obtain ⟨a,cap,oa,ocap,es,r⟩:=HA1.out.rows
  have D0:=later_cell d0
  have D1:=later_cell d1
  have D2:=later_cell d2
  have D3:=later_cell d3
  have D4:=later_cell d4
  have D5:=later_cell d5
  have D6:=later_cell d6
  have C3:=later_cell r.c3
  have HSL:=Lib.hid r.ra.slCh
  have HNC:=Lib.hid r.ra.nilcap
  clear d0 d1 d2 d3 d4 d5 d6 r
  have hL:∀ q:Lt w1,Later w1 q.v:=fun q=>q.h
  go_upto_region 3 with fail
  refine wp_region_mix [6] [0,1,2,3,4,5,6,7,8,9,10,11] (by kernel_rfl) (by kernel_rfl) ?_
  iterate 6 (refine wpMix_step rfl (fun K hK=>?_);go_simp;refine hK _ _ ?_;clear hK K)
  refine wpMix_step rfl (fun K hK=>?_)
  go_simp
  intro p
  refine (Do_c a cap s.L d N p.v (HSL.out.below p.h) HNC.out (by omega) HDT.out HDM.out HG.out).mono ?_
  rintro e w3 ⟨a3,cap3,rfl,ho3,hb3⟩
  refine ⟨_,rfl,hb3,hK _ _ ?_⟩
  clear hK K
  have hl3:Later w1 w3:=(hL p).trans hb3
  have HO3:=Lib.hid (ho3.mono (show w1.heap.size≤p.v.heap.size from (hL p).size))
  clear ho3 hb3 p hL HSL HNC D0 D1 D2 D3 D4 D5 D6 C3
  iterate 5 (refine wpMix_step rfl (fun K hK=>?_);go_simp;refine hK _ _ ?_;clear hK K)
  refine wpMix_nil ?_
  intro w4 hL4
  have hl4:Below w1.heap.size w1 w4:=hl3.trans hL4
  have HO4:=Lib.hid (HO3.out.below hL4)
  have HA4:=Lib.hid (HA1.out.later hl4)
  have HM4:=Lib.hid (HM1.out.trans (Moves.of_below (F:=F) hl4) (fun _ _ k=>k))
  have hx1:w.heap.size≤w1.heap.size:=HM1.out.size
  have HNF4:=Lib.hid (show ∀ k,ownB a3 cap3=some k→¬ F k from fun k hk hf=>by
   have h1:=(HO4.out.base_le k hk).1;have h2:=(HA1.out.foot k hf).2;omega)
  have HGR:=Lib.hid (fun k (hk:ownB a3 cap3=some k)=>Nat.le_trans hx1 (HO4.out.base_le k hk).1)
  have hbs1:base≤w1.heap.size:=HA1.out.base_le
  clear hl3 hL4 HO3 hl4 HA1 HD1 HM1 dlt hx1
  obtain ⟨l3,hl3⟩:∃ l3,l3=(doF s.L d N).1:=⟨_,rfl⟩
  obtain ⟨code,hcode⟩:∃ code,code=(doF s.L d N).2:=⟨_,rfl⟩
  rw [← hl3] at HO4 ⊢
  rw [← hcode]
  have HL3:=Lib.hid hl3
  have HCO:=Lib.hid hcode
  clear hl3 hcode
  by_cases hc:code=0
  ·subst hc
   have c3:=HA4.out.rows
   obtain ⟨a,cap,oa,ocap,es,r⟩:=HA4.out.rows
   have c3:=r.c3
   have f3:=HA4.out.fz 3 (by omega)
   have c1:=HA4.out.c1
   have f1:=HA4.out.fz 1 (by omega)
   clear r
   have HE:=Lib.hid ((HA4.out.setList a3 cap3 l3 (HO4.out.mono hbs1) HNF4.out).setSeen N)
   have HM5:=Lib.hid ((HM4.out.trans (Moves.setCell w4 ⟨g,3,none⟩ (.slice a3 l3.length cap3) HFG.out) (fun _ _ k=>k)).trans (Moves.setCell (w4.setCell ⟨g,3,none⟩ (.slice a3 l3.length cap3)) ⟨g,1,none⟩ (.int .i64 N) HFG.out) (fun _ _ k=>k))
   clear HA4 HM4 HO4
   go_wp2
   go_ret
   refine Or.inl ⟨HOW.out,?_,HM5.out,Or.inr ⟨?_,fun k=>F k∨ownB a3 cap3=some k,?_,?_⟩⟩
   ·rw [← HNE.out,← HCO.out];rfl
   ·rw [← HNE.out];exact HCO.out.symm
   ·rw [← HNE.out,← HL3.out];exact HE.out
   ·intro k hk
    rcases hk with hk | hk
    ·exact .inl hk
    ·exact .inr (HGR.out k hk)
  ·have hcB:(code==0)=false:=by simpa using hc
   have hcD:decide (code=0)=false:=decide_eq_false hc
   have HCN:=Lib.hid hc
   clear hc HO4
   go_wp2
   go_ret
   refine Or.inl ⟨HOW.out,?_,HM4.out,Or.inl ⟨?_,HA4.out⟩⟩
   ·rw [← HNE.out,← HCO.out];rfl
   ·rw [← HNE.out,← HCO.out];exact HCN.out
 case pos=>
  have HOW:=Lib.hid hown
  rw [hown] at d1
  clear hown
  go_quiet (fail)
  have hL1:Later w0 (w0.drewN nq):=bl_drewN (Below.refl _ _) nq
  generalize w0.drewN nq=w1 at *
  have HA1:=Lib.hid (HA0.out.later hL1)
  have HD1:=Lib.hid (HD0.out.later hL1)
  have HM1:=Lib.hid (HM0.out.trans (Moves.of_below (F:=F) hL1) (fun _ _ k=>k))
  clear hL1 c0 d1 HA0 HD0 HM0 hXl
  obtain ⟨dlt,d0,d1,d2,d3,d4,d5,d6⟩:=HD1.out
  obtain ⟨a,cap,oa,ocap,es,r⟩:=HA1.out.rows
  have c4:=r.c4
  have hel:=r.len
  cases es with
  | nil=>
   have HNO:=Lib.hid (show ∀ o,s.os.head? = some o→o.d≠d from fun o ho=>by
    have:=r.eo;rw [← this] at ho;cases ho)
   have c4:w1.cell? ⟨g,4,none⟩=some (.slice oa 0 ocap):=c4
   clear r hel
   go_upto_region 7 with fail
   go_quiet (fail)
   have hL2:Later w1 (w1.drewN nq):=bl_drewN (Below.refl _ _) nq
   generalize w1.drewN nq=w2 at *
   have HA2:=Lib.hid (HA1.out.later hL2)
   have HM2:=Lib.hid (HM1.out.trans (Moves.of_below (F:=F) hL2) (fun _ _ k=>k))
   clear hL2 HA1 HD1 HM1 c4 d0 d1 d2 d3 d4 d5 d6 dlt
   go_wp2
   go_ret
   exact Or.inr (Or.inl ⟨HOW.out,HNO.out,rfl,HM2.out,HA2.out⟩)
  | cons e0 es'=>
   obtain ⟨b,off,eoa,hbb,hbl,hob,q0,q1,q2,q3,q4,q5,q6,q7,q8⟩:=r.nth 0 (by simp)
   subst eoa
   simp only [Nat.zero_mul,Nat.add_zero,List.getElem_cons_zero] at q0 q1 q2 q3 q4 q5 q6 q7 q8
   have hgd:=guard_DeedW
   have hneq:=neq_Deed e0.d d
   have HEO:=Lib.hid r.eo
   have hlpos:(0:Int) < (((e0 :: es').length:Nat):Int):=by show (0:Int) < ((es'.length+1:Nat):Int);omega
   have hlne:((((e0 :: es').length:Nat):Int)==0)=false:=by rw [beq_eq_false_iff_ne];show ((es'.length+1:Nat):Int)≠0;omega
   have hlnd:decide ((((e0 :: es').length:Nat):Int)=0)=false:=decide_eq_false (by omega)
   obtain ⟨nn,hnn⟩:∃ nn,nn=(e0 :: es').length:=⟨_,rfl⟩
   rw [← hnn] at c4 hlpos hlne hlnd
   have HNN:=Lib.hid hnn
   have hnn1:0 < nn:=by rw [hnn];simp
   clear hnn
   have HR:=Lib.hid r
   go_upto_region 7 with fail
   by_cases hde:e0.d=d
   ·have HDE:=Lib.hid hde
    have hdeB:decide (e0.d=d)=true:=decide_eq_true hde
    clear r hde
    go_quiet (fail)
    have hL2:Later w1 (w1.drewN nq):=bl_drewN (Below.refl _ _) nq
    generalize w1.drewN nq=w2 at *
    have HA2:=Lib.hid (HA1.out.later hL2)
    have HM2:=Lib.hid (HM1.out.trans (Moves.of_below (F:=F) hL2) (fun _ _ k=>k))
    have hmb:Moves (fun k=>w1.heap.size≤k) w1 w2:=Moves.of_below hL2
    have HR2:=Lib.hid (HR.out.moves HA1.out.lt HA1.out.fg hmb fun k hk=>by have:=(HA1.out.foot k hk).2;omega)
    clear hL2 hmb HA1 HD1 HM1 c4 d0 d1 d2 d3 d4 d5 d6 dlt q0 q1 q2 q3 q4 q5 q6 q7 q8 hneq hgd HR hlpos hlne hlnd hdeB
    have c4:=HR2.out.c4
    rw [← HNN.out] at c4
    obtain ⟨b',off',eoa,hbb,hbl,hob,q0,q1,q2,q3,q4,q5,q6,q7,q8⟩:=HR2.out.nth 0 (by simp)
    cases eoa
    simp only [Nat.zero_mul,Nat.add_zero,List.getElem_cons_zero] at q0 q1 q2 q3 q4 q5 q6 q7 q8
    have hnn0:(0:Int) < (nn:Int):=by omega
    have HWN:=Lib.hid (Wnumber_c HA2.out HR2.out e0 (by simp) N hl)
    go_wp2_with fail
    refine HWN.out.mono ?_
    rintro e w3 ⟨⟨v,rfl⟩,hA3,hR3,hm3⟩
    rw [HDE.out] at hA3 hR3
    have c4:=hR3.c4
    rw [← HNN.out] at c4
    have f4:=hA3.fz 4 (by omega)
    have c1:=hA3.c1
    have f1:=hA3.fz 1 (by omega)
    have hcap:nn≤ocap:=by rw [HNN.out];exact hR3.ro.le
    have h1n:(1:Int)≤(nn:Int):=by omega
    by_cases hc1:ocap=1
    ·subst hc1
     have hnn2:nn=1:=by omega
     have HN1:=Lib.hid (show (e0 :: es').length=1 from by rw [← HNN.out];exact hnn2)
     subst hnn2
     have HA4:=Lib.hid ((hA3.dropLast hR3 HN1.out).setSeen N)
     have HM4:=Lib.hid (((HM2.out.trans hm3 (fun _ _ k=>k)).trans (Moves.setCell w3 ⟨g,4,none⟩ (.slice (some ⟨b,off,none⟩) 0 0) HFG.out) (fun _ _ k=>k)).trans (Moves.setCell _ ⟨g,1,none⟩ (.int .i64 N) HFG.out) (fun _ _ k=>k))
     clear hA3 hR3 hm3 HWN HA2 HM2 HR2 q0 q1 q2 q3 q4 q5 q6 q7 q8 hbb hbl hob
     go_wp2
     go_ret
     refine Or.inr (Or.inr ⟨HOW.out,e0.o,es'.map OpE.o,HEO.out.symm,HDE.out,rfl,HM4.out,?_⟩)
     have h4:=HA4.out
     rw [← HNE.out]
     have e1:s.os.tail=es'.map OpE.o:=by rw [← HEO.out];rfl
     rw [e1] at h4
     exact h4
    ·have hcs:ocap - 1≠0:=by omega
     have hcs2:¬ ocap≤1:=by omega
     have hcs3:1 < ocap:=by omega
     have hcs4:(1:Int) < (ocap:Int):=by omega
     have HA4:=Lib.hid (((show WrAt (w3.setCell ⟨g,4,none⟩ (.slice (some ⟨b,off+9,none⟩) (nn - 1) (ocap - 1))) base F g _ from by rw [HNN.out];exact hA3.dropOpen hR3 (by simp))).setSeen N)
     have HM4:=Lib.hid (((HM2.out.trans hm3 (fun _ _ k=>k)).trans (Moves.setCell w3 ⟨g,4,none⟩ (.slice (some ⟨b,off+9,none⟩) (nn - 1) (ocap - 1)) HFG.out) (fun _ _ k=>k)).trans (Moves.setCell _ ⟨g,1,none⟩ (.int .i64 N) HFG.out) (fun _ _ k=>k))
     clear hA3 hR3 hm3 HWN HA2 HM2 HR2 q0 q1 q2 q3 q4 q5 q6 q7 q8 hbb hbl hob
     go_wp2
     go_ret
     refine Or.inr (Or.inr ⟨HOW.out,e0.o,es'.map OpE.o,HEO.out.symm,HDE.out,rfl,HM4.out,?_⟩)
     have h4:=HA4.out
     rw [← HNE.out]
     have e1:s.os.tail=es'.map OpE.o:=by rw [← HEO.out];rfl
     rw [e1] at h4
     exact h4
   ·have hdeB:decide (e0.d=d)=false:=decide_eq_false hde
    have HNO:=Lib.hid (show ∀ o,s.os.head? = some o→o.d≠d from fun o ho=>by
     rw [← HEO.out] at ho;simp at ho;subst ho;exact hde)
    clear r hde
    go_quiet (fail)
    have hL2:Later w1 (w1.drewN nq):=bl_drewN (Below.refl _ _) nq
    generalize w1.drewN nq=w2 at *
    have HA2:=Lib.hid (HA1.out.later hL2)
    have HM2:=Lib.hid (HM1.out.trans (Moves.of_below (F:=F) hL2) (fun _ _ k=>k))
    clear hL2 HA1 HD1 HM1 c4 d0 d1 d2 d3 d4 d5 d6 dlt q0 q1 q2 q3 q4 q5 q6 q7 q8 hneq hgd
    go_wp2
    go_ret
    exact Or.inr (Or.inl ⟨HOW.out,HNO.out,rfl,HM2.out,HA2.out⟩)
end Go.Proofs.YtneoeokfffnonaaGreatDoor
