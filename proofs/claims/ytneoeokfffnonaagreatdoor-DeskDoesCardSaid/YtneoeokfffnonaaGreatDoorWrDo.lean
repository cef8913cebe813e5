/- Merged: WrDo WrPT. -/
import Derived.Test.YtneoeokfffnonaaGreatDoorWrNum
import Derived.Deep.RegionLaw
set_option linter.unusedVariables false
set_option linter.unusedSimpArgs false
namespace Go.Proofs.YtneoeokfffnonaaGreatDoor
open Go.RowKit
structure OpAt (w:World) (b:Nat) (E:OpE):Prop where
 lt:b < w.heap.size
 fz:∀ j,j < 9→w.frozen? ⟨b,j,none⟩=false
 c0:w.cell? ⟨b,0,none⟩=some (.int .i64 E.d.Kind)
 c1:w.cell? ⟨b,1,none⟩=some (.int .i64 E.d.By)
 c2:w.cell? ⟨b,2,none⟩=some (.int .i64 E.d.No)
 c3:w.cell? ⟨b,3,none⟩=some (.int .i64 E.d.Seen)
 c4:w.cell? ⟨b,4,none⟩=some (.int .i64 E.d.At)
 c5:w.cell? ⟨b,5,none⟩=some (.int .i64 E.d.Many)
 c6:w.cell? ⟨b,6,none⟩=some (.string E.d.Text)
 c7:w.cell? ⟨b,7,none⟩=some (.slice E.ta E.took.length E.tc)
 c8:w.cell? ⟨b,8,none⟩=some (.bool E.sent)
theorem OpAt.new (w:World) (E:OpE):OpAt (w.alloc (.cells #[.int .i64 E.d.Kind,.int .i64 E.d.By,.int .i64 E.d.No,.int .i64 E.d.Seen,.int .i64 E.d.At,.int .i64 E.d.Many,.string E.d.Text,.slice E.ta E.took.length E.tc,.bool E.sent] 174)) w.heap.size E:=by
 refine ⟨by simp,fun j _=>by simp,?_,?_,?_,?_,?_,?_,?_,?_,?_⟩ <;> simp
theorem OpAt.moves {w w' : World} {b:Nat} {E:OpE} (h:OpAt w b E) {G:Nat→Prop} (hm:Moves G w w') (hb:¬ G b):OpAt w' b E:=by
 have hc:∀ o,w'.cell? ⟨b,o,none⟩=w.cell? ⟨b,o,none⟩:=fun o=>hm.cell h.lt hb o
 exact ⟨Nat.lt_of_lt_of_le h.lt hm.size,fun j hj=>(hm.frozen h.lt hb j).trans (h.fz j hj),(hc _).trans h.c0,(hc _).trans h.c1,(hc _).trans h.c2,(hc _).trans h.c3,(hc _).trans h.c4,(hc _).trans h.c5,(hc _).trans h.c6,(hc _).trans h.c7,(hc _).trans h.c8⟩
theorem OpAt.later {w w' : World} {b:Nat} {E:OpE} (h:OpAt w b E) (hl:Below w.heap.size w w'):OpAt w' b E:=by
 have hb:Moves (fun k=>w.heap.size≤k) w w':=Moves.of_below hl
 exact h.moves hb (by have:=h.lt;omega)
theorem OpAt.setTook {w:World} {b:Nat} {E:OpE} (h:OpAt w b E) (a:Option Addr) (cap:Nat) (l:List Ch):OpAt (w.setCell ⟨b,7,none⟩ (.slice a l.length cap)) b { E with ta:=a,tc:=cap,took:=l }:=by
 have ho:∀ o,o≠7→(w.setCell ⟨b,7,none⟩ (.slice a l.length cap)).cell? ⟨b,o,none⟩=w.cell? ⟨b,o,none⟩:=fun o ho=>World.cell?_setCell_other _ _ _ _ (fun e=>ho (by cases e;rfl))
 exact ⟨by simpa using h.lt,fun j hj=>(World.frozen?_setCell _ _ _ _).trans (h.fz j hj),(ho _ (by omega)).trans h.c0,(ho _ (by omega)).trans h.c1,(ho _ (by omega)).trans h.c2,(ho _ (by omega)).trans h.c3,(ho _ (by omega)).trans h.c4,(ho _ (by omega)).trans h.c5,(ho _ (by omega)).trans h.c6,
  World.cell?_setCell_same _ _ _ h.c7,(ho _ (by omega)).trans h.c8⟩
def tookTo (l next:List Ch) (d:Dd) (i:Nat):List Ch:=if d.Kind=2 then (((l.zip next).take i).filter fun p=>p.2.Gone !=p.1.Gone).map (·.1) else []
theorem tookTo_all (l next:List Ch) (d:Dd):tookTo l next d l.length=tookOf l next d:=by
 unfold tookTo tookOf
 rw [List.take_of_length_le (by rw [List.length_zip];omega)]
theorem tookTo_len (l next:List Ch) (d:Dd) (i:Nat):(tookTo l next d i).length≤i:=by
 unfold tookTo;split
 ·rw [List.length_map]
  exact Nat.le_trans (List.length_filter_le _ _) (by rw [List.length_take];omega)
 ·simp
theorem tookTo_snoc (l next:List Ch) (d:Dd) (i:Nat) (h:i < l.length) (hn:i < next.length) (hk:d.Kind=2) :
 tookTo l next d (i+1)=tookTo l next d i++if next[i].Gone=l[i].Gone then [] else [l[i]]:=by
 unfold tookTo
 rw [if_pos hk,if_pos hk,List.take_succ_eq_append_getElem (by rw [List.length_zip];omega),List.filter_append,List.map_append]
 congr 1
 rw [List.getElem_zip]
 by_cases e:next[i].Gone=l[i].Gone
 ·rw [if_pos e,List.filter_cons_of_neg (by simpa using e)];rfl
 ·rw [if_neg e,List.filter_cons_of_pos (by simpa using e)];rfl
theorem tookTo_no (l next:List Ch) (d:Dd) (i:Nat) (hk:d.Kind≠2):tookTo l next d i=[]:=by unfold tookTo;rw [if_neg hk]
def WrV.deed (s:WrV) (d:Dd):Dd:={ d with By:=s.me,No:=s.next,Seen:=s.seen }
def WrV.did (s:WrV) (d:Dd):WrV:={ s with L:=ap s.L (s.deed d) 1073741824,os:=s.os++[⟨s.deed d,tookOf s.L (ap s.L (s.deed d) 1073741824) (s.deed d)⟩],next:=s.next+1 }
def WDoPost (w:World) (base:Nat) (F:Nat→Prop) (g:Nat) (s:WrV) (d:Dd) (e:Ending) (w' : World):Prop:=
 (mayDo s.L (s.deed d)≠0∧e=.returned (.tuple #[.agg #[.int .i64 zD.Kind,.int .i64 zD.By,.int .i64 zD.No,.int .i64 zD.Seen,.int .i64 zD.At,.int .i64 zD.Many,.string zD.Text],.int .i64 (mayDo s.L (s.deed d))])∧WrAt w' base F g s∧Moves F w w')∨
 (mayDo s.L (s.deed d)=0∧e=.returned (.tuple #[.agg #[.int .i64 (s.deed d).Kind,.int .i64 (s.deed d).By,.int .i64 (s.deed d).No,.int .i64 (s.deed d).Seen,.int .i64 (s.deed d).At,.int .i64 (s.deed d).Many,.string (s.deed d).Text],.int .i64 0])∧∃ F',WrAt w' base F' g (s.did d)∧Moves F w w'∧Grows F w F')
theorem tookTo_zero (l next:List Ch) (d:Dd):tookTo l next d 0=[]:=by unfold tookTo;split <;> rfl
set_option maxRecDepth 100000 in
set_option maxHeartbeats 2000000 in
theorem WDo_c {w:World} {base:Nat} {F:Nat→Prop} {g:Nat} {s:WrV} (h:WrAt w base F g s) (hG:∀ c∈s.L,i64ok c.Gone) (hl:s.L.length≤1000) (hos:s.os.length≤1000000) (hns:s.ns≤s.os.length) (d:Dd) (hdt:d.Text.size≤maxLen) (hdm:i64ok d.Many) (hnx:0≤s.next∧s.next≤1000000) :
 Calls Tryz.prog 126 #[.pointer (some ⟨g,0,none⟩),.agg #[.int .i64 d.Kind,.int .i64 d.By,.int .i64 d.No,.int .i64 d.Seen,.int .i64 d.At,.int .i64 d.Many,.string d.Text]] w (WDoPost w base F g s d):=by
 have hb0:=((Below.refl w.heap.size w).alloc (Nat.le_refl _) (.cells #[.int .i64 d.Kind,.int .i64 d.By,.int .i64 d.No,.int .i64 d.Seen,.int .i64 d.At,.int .i64 d.Many,.string d.Text] 122)).alloc (by simp) (.cells #[.int .i64 zD.Kind,.int .i64 zD.By,.int .i64 zD.No,.int .i64 zD.Seen,.int .i64 zD.At,.int .i64 zD.Many,.string zD.Text] 122)
 have HA0:=Lib.hid (h.later hb0)
 have HD0:=Lib.hid (show DdAt ((w.alloc (.cells #[.int .i64 d.Kind,.int .i64 d.By,.int .i64 d.No,.int .i64 d.Seen,.int .i64 d.At,.int .i64 d.Many,.string d.Text] 122)).alloc (.cells #[.int .i64 zD.Kind,.int .i64 zD.By,.int .i64 zD.No,.int .i64 zD.Seen,.int .i64 zD.At,.int .i64 zD.Many,.string zD.Text] 122)) w.heap.size d from (DdAt.new w d).later ((Below.refl _ _).alloc (Nat.le_refl _) _))
 have HZ0:=Lib.hid (show DdAt ((w.alloc (.cells #[.int .i64 d.Kind,.int .i64 d.By,.int .i64 d.No,.int .i64 d.Seen,.int .i64 d.At,.int .i64 d.Many,.string d.Text] 122)).alloc (.cells #[.int .i64 zD.Kind,.int .i64 zD.By,.int .i64 zD.No,.int .i64 zD.Seen,.int .i64 zD.At,.int .i64 zD.Many,.string zD.Text] 122)) (w.heap.size+1) zD from by
  have:=DdAt.new (w.alloc (.cells #[.int .i64 d.Kind,.int .i64 d.By,.int .i64 d.No,.int .i64 d.Seen,.int .i64 d.At,.int .i64 d.Many,.string d.Text] 122)) zD
  simpa using this)
 have HFD:=Lib.hid (show ∀ j,j < 7→((w.alloc (.cells #[.int .i64 d.Kind,.int .i64 d.By,.int .i64 d.No,.int .i64 d.Seen,.int .i64 d.At,.int .i64 d.Many,.string d.Text] 122)).alloc (.cells #[.int .i64 zD.Kind,.int .i64 zD.By,.int .i64 zD.No,.int .i64 zD.Seen,.int .i64 zD.At,.int .i64 zD.Many,.string zD.Text] 122)).frozen? ⟨w.heap.size,j,none⟩=false from fun j _=>by
  rw [((Below.refl (w.alloc (.cells #[.int .i64 d.Kind,.int .i64 d.By,.int .i64 d.No,.int .i64 d.Seen,.int .i64 d.At,.int .i64 d.Many,.string d.Text] 122)).heap.size (w.alloc (.cells #[.int .i64 d.Kind,.int .i64 d.By,.int .i64 d.No,.int .i64 d.Seen,.int .i64 d.At,.int .i64 d.Many,.string d.Text] 122))).alloc (Nat.le_refl _) (.cells #[.int .i64 zD.Kind,.int .i64 zD.By,.int .i64 zD.No,.int .i64 zD.Seen,.int .i64 zD.At,.int .i64 zD.Many,.string zD.Text] 122)).frozen (p:=⟨w.heap.size,j,none⟩) (by simp),World.frozen?_alloc_new])
 have HFZ:=Lib.hid (show ∀ j,j < 7→((w.alloc (.cells #[.int .i64 d.Kind,.int .i64 d.By,.int .i64 d.No,.int .i64 d.Seen,.int .i64 d.At,.int .i64 d.Many,.string d.Text] 122)).alloc (.cells #[.int .i64 zD.Kind,.int .i64 zD.By,.int .i64 zD.No,.int .i64 zD.Seen,.int .i64 zD.At,.int .i64 zD.Many,.string zD.Text] 122)).frozen? ⟨w.heap.size+1,j,none⟩=false from fun j _=>by
  have e:w.heap.size+1=(w.alloc (.cells #[.int .i64 d.Kind,.int .i64 d.By,.int .i64 d.No,.int .i64 d.Seen,.int .i64 d.At,.int .i64 d.Many,.string d.Text] 122)).heap.size:=by simp
  rw [e,World.frozen?_alloc_new])
 have HM0:=Lib.hid (Moves.of_below (F:=F) hb0)
 have HFX:=Lib.hid (show ∀ k,F k→k < w.heap.size from fun k hk=>(h.foot k hk).2)
 have hbs:=h.base_le
 have HFG:=Lib.hid h.fg
 have HG:=Lib.hid hG
 have HDT:=Lib.hid hdt
 have HDM:=Lib.hid hdm
 have HOS:=Lib.hid hos
 have HNS:=Lib.hid hns
 clear h hb0 hG hdt hdm hos hns
 go_enter Tryz.func126,Tryz.ntmps126
 go_upto_region 1 with fail
 generalize hw0:(w.alloc _).alloc _=w0
 have hw0' : (w.alloc (.cells #[.int .i64 d.Kind,.int .i64 d.By,.int .i64 d.No,.int .i64 d.Seen,.int .i64 d.At,.int .i64 d.Many,.string d.Text] 122)).alloc (.cells #[.int .i64 zD.Kind,.int .i64 zD.By,.int .i64 zD.No,.int .i64 zD.Seen,.int .i64 zD.At,.int .i64 zD.Many,.string zD.Text] 122)=w0:=hw0
 rw [hw0'] at HA0 HD0 HZ0 HFD HFZ HM0
 clear hw0 hw0'
 obtain ⟨X,hX⟩:∃ X,X=w.heap.size:=⟨_,rfl⟩
 obtain ⟨Z,hZ⟩:∃ Z,Z=w.heap.size+1:=⟨_,rfl⟩
 have hXZ:X < Z:=by omega
 have hXB:base≤X:=by omega
 rw [← hZ] at HZ0 HFZ ⊢
 rw [← hX] at HD0 HFD HFX ⊢
 have HXW:=Lib.hid hX
 clear hX hZ
 have c0:=HA0.out.c0
 have c1:=HA0.out.c1
 have c2:=HA0.out.c2
 obtain ⟨dlt,d0,d1,d2,d3,d4,d5,d6⟩:=HD0.out
 have f1:=HFD.out 1 (by omega)
 have f2:=HFD.out 2 (by omega)
 have f3:=HFD.out 3 (by omega)
 have HD1:=Lib.hid ((((HD0.out.q1 s.me).q2 s.next).q3 s.seen).later (below_drew _ _))
 have HB1:=Lib.hid (((((Below.refl X w0).setCell (p:=⟨X,1,none⟩) (Nat.le_refl _) (.int .i64 s.me)).setCell (p:=⟨X,2,none⟩) (Nat.le_refl _) (.int .i64 s.next)).setCell (p:=⟨X,3,none⟩) (Nat.le_refl _) (.int .i64 s.seen)).trans (below_drew _ _))
 have HZ1:=Lib.hid (show DdAt (((w0.setCell ⟨X,1,none⟩ (.int .i64 s.me)).setCell ⟨X,2,none⟩ (.int .i64 s.next)).setCell ⟨X,3,none⟩ (.int .i64 s.seen)).drew Z zD from by
  refine HZ0.out.of_block (by simp [World.drew]) ?_
  show (((w0.setCell ⟨X,1,none⟩ (.int .i64 s.me)).setCell ⟨X,2,none⟩ (.int .i64 s.next)).setCell ⟨X,3,none⟩ (.int .i64 s.seen)).heap[Z]? = _
  rw [Below.heap_setCell _ _ _ _ (by simp;omega),Below.heap_setCell _ _ _ _ (by simp;omega),Below.heap_setCell _ _ _ _ (by simp;omega)])
 have HFZ1:=Lib.hid (fun j (hj:j < 7)=>show (((w0.setCell ⟨X,1,none⟩ (.int .i64 s.me)).setCell ⟨X,2,none⟩ (.int .i64 s.next)).setCell ⟨X,3,none⟩ (.int .i64 s.seen)).drew.frozen? ⟨Z,j,none⟩=false from by
  show (((w0.setCell ⟨X,1,none⟩ (.int .i64 s.me)).setCell ⟨X,2,none⟩ (.int .i64 s.next)).setCell ⟨X,3,none⟩ (.int .i64 s.seen)).frozen? ⟨Z,j,none⟩=false
  rw [World.frozen?_setCell,World.frozen?_setCell,World.frozen?_setCell];exact HFZ.out j hj)
 have hgX:g < X:=HFX.out g HFG.out
 have hgne:(g=X)=False:=by simp;omega
 have hgne2:(X=g)=False:=by simp;omega
 go_region
 clear hgne hgne2
 go_upto_region 2 with fail
 generalize (((w0.setCell ⟨X,1,none⟩ (.int .i64 s.me)).setCell ⟨X,2,none⟩ (.int .i64 s.next)).setCell ⟨X,3,none⟩ (.int .i64 s.seen)).drew=w1 at *
 have HA1:=Lib.hid (HA0.out.above HB1.out HFX.out)
 have HM1:=Lib.hid (HM0.out.above (HB1.out.mono (Nat.le_of_eq HXW.out.symm)))
 clear c0 c1 c2 d0 d1 d2 d3 d4 d5 d6 f1 f2 f3 HA0 HD0 HZ0 HFD HFZ HM0 HB1 dlt
 obtain ⟨D,hD⟩:∃ D,D=s.deed d:=⟨_,rfl⟩
 have HDD1:=Lib.hid (show DdAt w1 X D from by rw [hD];exact HD1.out)
 have HDE:=Lib.hid hD
 have HDT2:=Lib.hid (show D.Text.size≤maxLen from by rw [hD];exact HDT.out)
 have HDM2:=Lib.hid (show i64ok D.Many from by rw [hD];exact HDM.out)
 clear hD HD1
 obtain ⟨dlt,d0,d1,d2,d3,d4,d5,d6⟩:=HDD1.out
 obtain ⟨a,cap,oa,ocap,es,r⟩:=HA1.out.rows
 have D0:=later_cell d0
 have D1:=later_cell d1
 have D2:=later_cell d2
 have D3:=later_cell d3
 have D4:=later_cell d4
 have D5:=later_cell d5
 have D6:=later_cell d6
 have C3:=later_cell r.c3
 have HSL:=Lib.hid r.ra.slCh
 have HNC:=Lib.hid r.ra.nilcap
 clear d0 d1 d2 d3 d4 d5 d6 r
 have hL:∀ q:Lt w1,Later w1 q.v:=fun q=>q.h
 refine wp_region_mix [5] [0,1,2,3,4,5,6,7,8,9,10] (by kernel_rfl) (by kernel_rfl) ?_
 iterate 5 (refine wpMix_step rfl (fun K hK=>?_);go_simp;refine hK _ _ ?_;clear hK K)
 refine wpMix_step rfl (fun K hK=>?_)
 go_simp
 intro p
 refine (Do_c a cap s.L D 1073741824 p.v (HSL.out.below p.h) HNC.out (by omega) HDT2.out HDM2.out HG.out).mono ?_
 rintro e w3 ⟨a3,cap3,rfl,ho3,hb3⟩
 refine ⟨_,rfl,hb3,hK _ _ ?_⟩
 clear hK K
 have hl3:Later w1 w3:=(hL p).trans hb3
 have HO3:=Lib.hid (ho3.mono (show w1.heap.size≤p.v.heap.size from (hL p).size))
 clear ho3 hb3 p hL HSL HNC D0 D1 D2 D3 D4 D5 D6 C3
 rw [doF_code]
 iterate 5 (refine wpMix_step rfl (fun K hK=>?_);go_simp;refine hK _ _ ?_;clear hK K)
 refine wpMix_nil ?_
 intro w4 hL4
 have hl4:Below w1.heap.size w1 w4:=hl3.trans hL4
 have HO4:=Lib.hid (HO3.out.below hL4)
 have HA4:=Lib.hid (HA1.out.later hl4)
 have HD4:=Lib.hid (HDD1.out.later hl4)
 have HZ4:=Lib.hid (HZ1.out.later hl4)
 have HFZ4:=Lib.hid (fun j (hj:j < 7)=>(Below.frozen hl4 (p:=⟨Z,j,none⟩) HZ1.out.lt).trans (HFZ1.out j hj))
 have HM4:=Lib.hid (HM1.out.trans (Moves.of_below (F:=F) hl4) (fun _ _ k=>k))
 have hx1:w.heap.size≤w1.heap.size:=HM1.out.size
 have HNF4:=Lib.hid (show ∀ k,ownB a3 cap3=some k→¬ F k from fun k hk hf=>by
  have h1:=(HO4.out.base_le k hk).1;have h2:=(HA1.out.foot k hf).2;omega)
 have HGR:=Lib.hid (fun k (hk:ownB a3 cap3=some k)=>Nat.le_trans hx1 (HO4.out.base_le k hk).1)
 have hbs1:base≤w1.heap.size:=HA1.out.base_le
 have hw1l:w1.heap.size≤w4.heap.size:=hl4.size
 have HWW:=Lib.hid hx1
 have hXw1:X < w1.heap.size:=HDD1.out.lt
 have hZw1:Z < w1.heap.size:=HZ1.out.lt
 clear hl3 hL4 HO3 hl4 HA1 HDD1 HZ1 HFZ1 HM1 hx1 dlt
 by_cases hmd:mayDo s.L D=0
 case neg=>
  have hneB:(mayDo s.L D !=0)=true:=by simpa using hmd
  have HMD:=Lib.hid (show mayDo s.L (s.deed d)≠0 from by rw [← HDE.out];exact hmd)
  have HME:=Lib.hid (show mayDo s.L (s.deed d)=mayDo s.L D from by rw [← HDE.out])
  clear hmd HO4 HNF4 HGR
  generalize mayDo s.L D=code at *
  generalize (doF s.L D 1073741824).1.length=n3
  have HP:=Lib.hid (HZ4.out.putAll zD)
  have HBP:=Lib.hid (putDd_below zD (Below.refl Z w4) (Nat.le_refl _))
  obtain ⟨zlt,z0,z1,z2,z3,z4,z5,z6⟩:=HZ4.out
  have f0:=HFZ4.out 0 (by omega)
  have f1:=HFZ4.out 1 (by omega)
  have f2:=HFZ4.out 2 (by omega)
  have f3:=HFZ4.out 3 (by omega)
  have f4:=HFZ4.out 4 (by omega)
  have f5:=HFZ4.out 5 (by omega)
  have f6:=HFZ4.out 6 (by omega)
  go_wp2
  change bodyPost _ _ _ _ _ (putDd w4 Z zD)
  obtain ⟨_,p0,p1,p2,p3,p4,p5,p6⟩:=HP.out
  refine bodyPost_ret (v:=.tuple #[.agg #[.int .i64 zD.Kind,.int .i64 zD.By,.int .i64 zD.No,.int .i64 zD.Seen,.int .i64 zD.At,.int .i64 zD.Many,.string zD.Text],.int .i64 code]) (by simp [results,Tryz.results126,go_sem,p0,p1,p2,p3,p4,p5,p6]) rfl ?_
  refine Or.inl ⟨HMD.out,by rw [HME.out],HA4.out.above HBP.out (fun k hk=>by have:=HFX.out k hk;omega),HM4.out.above (HBP.out.mono ?_)⟩
  have:=HXW.out;omega
 have hneB:(mayDo s.L D !=0)=false:=by simpa using hmd
 have HMD:=Lib.hid (show mayDo s.L (s.deed d)=0 from by rw [← HDE.out];exact hmd)
 have HAP:=Lib.hid (doF_ap hmd (show (1:Int)≤1073741824 by omega))
 have HAL:=Lib.hid (ap_length (number:=1073741824) hmd)
 rw [hmd]
 obtain ⟨l3,hl3⟩:∃ l3,l3=ap s.L D 1073741824:=⟨_,rfl⟩
 have HO4':=Lib.hid (show OwnRow w4 w1.heap.size 125 7 a3 l3.length cap3 (flat l3) from by have:=HO4.out;rw [HAP.out] at this;rw [hl3];exact this)
 have HLN:=Lib.hid (show (doF s.L D 1073741824).1.length=l3.length from by rw [HAP.out,hl3])
 have hln3:s.L.length≤l3.length:=by rw [hl3,HAL.out];omega
 have HL3:=Lib.hid hl3
 rw [HLN.out]
 clear hmd hneB hl3 HO4 HAL HLN
 obtain ⟨dlt,d0,d1,d2,d3,d4,d5,d6⟩:=HD4.out
 go_upto_region 6 with fail
 generalize hw5:w4.alloc _=w5
 obtain ⟨B,hB⟩:∃ B,B=w4.heap.size:=⟨_,rfl⟩
 obtain ⟨E0,hE0⟩:∃ E0:OpE,E0=⟨D,none,0,[],false⟩:=⟨_,rfl⟩
 have hw5' : w5=w4.alloc (.cells #[.int .i64 E0.d.Kind,.int .i64 E0.d.By,.int .i64 E0.d.No,.int .i64 E0.d.Seen,.int .i64 E0.d.At,.int .i64 E0.d.Many,.string E0.d.Text,.slice E0.ta E0.took.length E0.tc,.bool E0.sent] 174):=by rw [hE0];exact hw5.symm
 have HO0:=Lib.hid (show OpAt w5 B E0 from by rw [hw5',hB];exact OpAt.new w4 E0)
 have hb5:Below B w4 w5:=by rw [hw5',hB];exact (Below.refl w4.heap.size w4).alloc (Nat.le_refl _) _
 have hBl:B < w5.heap.size:=HO0.out.lt
 have HE0:=Lib.hid hE0
 have HBW:=Lib.hid hB
 rw [← hB] at hw1l ⊢
 clear hw5 hw5' hE0 hB d0 d1 d2 d3 d4 d5 d6 dlt
 have hXlt:X < B:=by rw [HBW.out];exact HD4.out.lt
 obtain ⟨a,cap,oa,ocap,es,r⟩:=HA4.out.rows
 have c3:=(hb5.cell (p:=⟨g,3,none⟩) (show g < B by rw [HBW.out];exact HA4.out.lt)).trans r.c3
 have HSL:=Lib.hid r.ra.slCh
 have HNX:=Lib.hid HO4'.out.slCh
 clear r
 go_wp2
 clear c3
 go_loopw [46] (fun s46 wr=>∃ (i:Nat) (ta:Option Addr) (tc:Nat),i≤s.L.length∧s46=(.int .i64 i)∧Hid (OpAt wr B ⟨D,ta,tc,tookTo s.L l3 D i,false⟩)∧Hid (OwnRow wr (B+1) 125 7 ta (tookTo s.L l3 D i).length tc (flat (tookTo s.L l3 D i)))∧Below B w4 wr) (fun s46 _=>s.L.length - (intOf s46).toNat)
 case atStart=>exact ⟨0,none,0,Nat.zero_le _,rfl,Lib.hid (by rw [tookTo_zero,← HE0.out];exact HO0.out),Lib.hid (by rw [tookTo_zero];exact OwnRow.nil _ _ _ _ _),hb5⟩
 case round=>
  obtain ⟨i,ta,tc,hi,rfl,HOp,HTk,hb⟩:=hrel
  clear hb5
  have hbw:Below w4.heap.size w4 wr:=by rw [← HBW.out];exact hb
  by_cases hlt:i < s.L.length
  ·have hlt3:i < l3.length:=by omega
   obtain ⟨b1,off1,rfl,hc1⟩:=(HSL.out.below hbw).nth hlt
   obtain ⟨b3,off3,rfl,hc3⟩:=(HNX.out.below hbw).nth hlt3
   have hq1:=hc1.lt
   have hq3:=hc3.lt
   obtain ⟨_,x0,_,_,_,_,_,_⟩:=HD4.out.later hbw
   have HTN:=Lib.hid (fun hk=>tookTo_snoc s.L l3 D i hlt hlt3 hk)
   have HTO:=Lib.hid (fun (hk:D.Kind≠2)=>And.intro (tookTo_no s.L l3 D i hk) (tookTo_no s.L l3 D (i+1) hk))
   have HTL:=Lib.hid (tookTo_len s.L l3 D i)
   generalize tookTo s.L l3 D i=tk at *
   generalize hT2:tookTo s.L l3 D (i+1)=tk2 at *
   have hlt' : (i:Int) < s.L.length:=by omega
   have hlt3' : (i:Int) < l3.length:=by omega
   have hi0:(0:Int)≤(i:Int):=by omega
   have hltB:decide ((i:Int) < (s.L.length:Int))=true:=decide_eq_true hlt'
   have hltN:decide (i < s.L.length)=true:=decide_eq_true hlt
   obtain ⟨p0,p1,p2,p3,p4,p5,p6⟩:=hc1
   obtain ⟨n0,n1,n2,n3,n4,n5,n6⟩:=hc3
   clear n0 n1 n2 n3 n4 n5
   generalize s.L[i]=c at *
   generalize l3[i].Gone=G3 at *
   go_upto_region 9 with fail
   generalize hw8:wr.alloc _=w8
   have hw8' : w8=wr.alloc (.cells #[.int .u8 c.C,.int .i64 c.By,.int .i64 c.No,.int .i64 c.K,.int .i64 c.In,.int .i64 c.Out,.int .i64 c.Gone] 125):=hw8.symm
   have hbd:=(Below.refl wr.heap.size wr).alloc (Nat.le_refl _) (.cells #[.int .u8 c.C,.int .i64 c.By,.int .i64 c.No,.int .i64 c.K,.int .i64 c.In,.int .i64 c.Out,.int .i64 c.Gone] 125)
   have y0:w8.cell? ⟨wr.heap.size,0,none⟩=some (.int .u8 c.C):=by rw [hw8'];simp
   have y1:w8.cell? ⟨wr.heap.size,1,none⟩=some (.int .i64 c.By):=by rw [hw8'];simp
   have y2:w8.cell? ⟨wr.heap.size,2,none⟩=some (.int .i64 c.No):=by rw [hw8'];simp
   have y3:w8.cell? ⟨wr.heap.size,3,none⟩=some (.int .i64 c.K):=by rw [hw8'];simp
   have y4:w8.cell? ⟨wr.heap.size,4,none⟩=some (.int .i64 c.In):=by rw [hw8'];simp
   have y5:w8.cell? ⟨wr.heap.size,5,none⟩=some (.int .i64 c.Out):=by rw [hw8'];simp
   have y6:w8.cell? ⟨wr.heap.size,6,none⟩=some (.int .i64 c.Gone):=by rw [hw8'];simp
   rw [← hw8'] at hbd
   have hsz8:wr.heap.size < w8.heap.size:=by rw [hw8'];simp
   have x0:=(hbd.cell (p:=⟨X,0,none⟩) (by have:=hb.size;have:=HBW.out;show X < wr.heap.size;omega)).trans x0
   have n6:=(hbd.cell (p:=⟨b3,off3+i * 7+6,none⟩) hq3).trans n6
   have hb8:Below B w4 w8:=hb.trans (hbd.mono (by rw [HBW.out];exact hb.size))
   have HOp8:=Lib.hid (HOp.out.later hbd)
   have HTk8:=Lib.hid (HTk.out.below hbd)
   generalize wr.heap.size=Y at *
   clear hw8 hw8' p0 p1 p2 p3 p4 p5 p6 hb hbd HOp HTk hq1 hq3 hbw
   by_cases hk:D.Kind=2
   case neg=>
    have hkB:(D.Kind==2)=false:=by simpa using hk
    have hkD:decide (D.Kind=2)=false:=decide_eq_false hk
    have HTE:=Lib.hid (show tk2=tk from by rw [(HTO.out hk).1,(HTO.out hk).2])
    clear hk
    go_quiet (fail)
    have hL1:Later w8 (w8.drewN nq):=bl_drewN (Below.refl _ _) nq
    generalize w8.drewN nq=w9 at *
    have HOp9:=Lib.hid (HOp8.out.later hL1)
    have HTk9:=Lib.hid (HTk8.out.below hL1)
    have hb9:Below B w4 w9:=hb8.trans (hL1.mono (by rw [HBW.out];exact hb8.size))
    clear hL1 x0 n6 y0 y1 y2 y3 y4 y5 y6 HOp8 HTk8 hb8
    go_wp2
    exact ⟨⟨i+1,ta,tc,by omega,by go_num,Lib.hid (by rw [hT2,HTE.out];exact HOp9.out),Lib.hid (by rw [hT2,HTE.out];exact HTk9.out),hb9⟩,by simp [intOf];omega⟩
   case pos=>
    have HTE:=Lib.hid (HTN.out hk)
    rw [hk] at x0
    clear hk
    by_cases hg:G3=c.Gone
    ·have HTE2:=Lib.hid (show tk2=tk from by rw [HTE.out,if_pos hg,List.append_nil])
     rw [hg] at n6
     clear hg HTE HTN
     go_quiet (fail)
     have hL1:Later w8 (w8.drewN nq):=bl_drewN (Below.refl _ _) nq
     generalize w8.drewN nq=w9 at *
     have HOp9:=Lib.hid (HOp8.out.later hL1)
     have HTk9:=Lib.hid (HTk8.out.below hL1)
     have hb9:Below B w4 w9:=hb8.trans (hL1.mono (by rw [HBW.out];exact hb8.size))
     clear hL1 x0 n6 y0 y1 y2 y3 y4 y5 y6 HOp8 HTk8 hb8
     go_wp2
     exact ⟨⟨i+1,ta,tc,by omega,by go_num,Lib.hid (by rw [hT2,HTE2.out];exact HOp9.out),Lib.hid (by rw [hT2,HTE2.out];exact HTk9.out),hb9⟩,by simp [intOf];omega⟩
    ·have HTE2:=Lib.hid (show tk2=tk++[c] from by rw [HTE.out,if_neg hg])
     have hgB:(G3 !=c.Gone)=true:=by simpa using hg
     have hgD:decide (G3=c.Gone)=false:=decide_eq_false hg
     clear HTE HTN
     go_quiet (fail)
     have hL1:Later w8 (w8.drewN nq):=bl_drewN (Below.refl _ _) nq
     have hY9:∀ o,(w8.drewN nq).cell? ⟨Y,o,none⟩=w8.cell? ⟨Y,o,none⟩:=fun o=>hL1.cell (p:=⟨Y,o,none⟩) (by omega)
     rw [← hY9] at y0 y1 y2 y3 y4 y5 y6
     clear hY9
     have hsz9:Y < (w8.drewN nq).heap.size:=Nat.lt_of_lt_of_le hsz8 hL1.size
     generalize w8.drewN nq=w9 at *
     have HOp9:=Lib.hid (HOp8.out.later hL1)
     have HTk9:=Lib.hid (HTk8.out.below hL1)
     have hb9:Below B w4 w9:=hb8.trans (hL1.mono (by rw [HBW.out];exact hb8.size))
     clear hL1 x0 n6 HOp8 HTk8 hb8 hgB hgD hg
     have z7:=HOp9.out.c7
     have hBsz:B+1≤w9.heap.size:=HOp9.out.lt
     have HTL2:tk.length≤1000:=Nat.le_trans HTL.out (by omega)
     have hbyt:(tk.length+1) * 56≤140737488355328:=by omega
     clear HTL2
     simp only at z7
     go_wp2_with (at_builtin;refine wpList_append_new rfl (.tmp 65) (.tmp 67) 91 rfl (B+1) 125 7 56 Tryz.underlying91 ti_Char ta tk.length tc (flat tk) rfl HTk9.out 1 1 c.cells rfl rfl (Ch.cells_one c) hbyt hBsz ?_)
     intro a10 cap10 w10 hown10 hb10 hz10 hg10
     have HTk10:=Lib.hid (show OwnRow w10 (B+1) 125 7 a10 tk2.length cap10 (flat tk2) from by
      rw [HTE2.out,List.length_append,flat_append]
      have:flat [c]=c.cells:=by simp [flat]
      rw [this];exact hown10)
     have HOp10:=Lib.hid (show OpAt w10 B ⟨D,ta,tc,tk,false⟩ from HOp9.out.moves (G:=fun k=>B+1≤k) ⟨hb10.os,hb10.tape,hb10.output,hb10.size,fun k _ hn=>hb10.block k (by omega)⟩ (by omega))
     have f7:=HOp10.out.fz 7 (by omega)
     have hb10' : Below B w4 w10:=hb9.trans (hb10.mono (by omega))
     have hl2:tk2.length=tk.length+1:=by rw [HTE2.out,List.length_append];rfl
     have HOp11:=Lib.hid (show OpAt (w10.setCell ⟨B,7,none⟩ (.slice a10 (tk.length+1) cap10)) B ⟨D,a10,cap10,tk2,false⟩ from by
      have:=HOp10.out.setTook a10 cap10 tk2
      rw [hl2] at this;exact this)
     have HTk11:=Lib.hid (HTk10.out.setCell ⟨B,7,none⟩ (.slice a10 (tk.length+1) cap10) (fun k hk=>by have:=(HTk10.out.base_le k hk).1;intro e;simp at e;omega))
     have hb11:Below B w4 (w10.setCell ⟨B,7,none⟩ (.slice a10 (tk.length+1) cap10)):=hb10'.setCell (p:=⟨B,7,none⟩) (Nat.le_refl _) _
     have z7':=HOp10.out.c7
     simp only at z7'
     clear hown10 hb10 hg10 HOp9 HTk9 hb9 hb10' HOp10 HTk10 z7 y0 y1 y2 y3 y4 y5 y6
     go_wp2
     exact ⟨⟨i+1,a10,cap10,by omega,by go_num,Lib.hid (by rw [hT2];exact HOp11.out),Lib.hid (by rw [hT2];exact HTk11.out),hb11⟩,by simp [intOf];omega⟩
  ·obtain rfl:i=s.L.length:=by omega
   have hltB:decide ((s.L.length:Int) < (s.L.length:Int))=false:=by simp
   have HTT:=Lib.hid (show tookTo s.L l3 D s.L.length=tookOf s.L l3 D from tookTo_all s.L l3 D)
   generalize tookTo s.L l3 D s.L.length=tk at *
   have HA5:=Lib.hid (HA4.out.later hbw)
   have HD5:=Lib.hid (HD4.out.later hbw)
   have HZ5:=Lib.hid (HZ4.out.later hbw)
   have HFZ5:=Lib.hid (fun j (hj:j < 7)=>(Below.frozen hbw (p:=⟨Z,j,none⟩) HZ4.out.lt).trans (HFZ4.out j hj))
   have HM5:=Lib.hid (HM4.out.trans (Moves.of_below (F:=F) hbw) (fun _ _ k=>k))
   have HO5:=Lib.hid (HO4'.out.below hbw)
   have hZB:Z < B:=by rw [HBW.out];exact HZ4.out.lt
   have HFB:=Lib.hid (show ∀ k,F k→k < B from fun k hk=>by have:=HFX.out k hk;omega)
   have HF3B:=Lib.hid (show ∀ k,ownB a3 cap3=some k→w1.heap.size≤k∧k < B from fun k hk=>by rw [HBW.out];exact HO4'.out.base_le k hk)
   clear HA4 HD4 HZ4 HFZ4 HM4 HO4' HSL HNX hb hbw HO0 HE0 hlt
   obtain ⟨a',cap',oa',ocap',es',r⟩:=HA5.out.rows
   have c3:=r.c3
   have f3:=HA5.out.fz 3 (by omega)
   clear r
   have HA6:=Lib.hid (HA5.out.setList a3 cap3 l3 (HO5.out.mono hbs1) HNF4.out)
   have hgB:g < B:=HFB.out g HFG.out
   have HD6:=Lib.hid (HD5.out.of_block (w':=wr.setCell ⟨g,3,none⟩ (.slice a3 l3.length cap3)) (by simp) (Below.heap_setCell wr ⟨g,3,none⟩ _ _ (fun e=>by simp at e;omega)))
   have HZ6:=Lib.hid (HZ5.out.of_block (w':=wr.setCell ⟨g,3,none⟩ (.slice a3 l3.length cap3)) (by simp) (Below.heap_setCell wr ⟨g,3,none⟩ _ _ (fun e=>by simp at e;omega)))
   have HFZ6:=Lib.hid (fun j (hj:j < 7)=>show (wr.setCell ⟨g,3,none⟩ (.slice a3 l3.length cap3)).frozen? ⟨Z,j,none⟩=false from (World.frozen?_setCell _ _ _ _).trans (HFZ5.out j hj))
   have HM6:=Lib.hid (HM5.out.trans (Moves.setCell wr ⟨g,3,none⟩ (.slice a3 l3.length cap3) HFG.out) (fun _ _ k=>k))
   have hmg:Moves (fun k=>k=g) wr (wr.setCell ⟨g,3,none⟩ (.slice a3 l3.length cap3)):=Moves.setCell _ _ _ rfl
   have HOp6:=Lib.hid (HOp.out.moves hmg (by omega))
   have HTk6:=Lib.hid (HTk.out.setCell ⟨g,3,none⟩ (.slice a3 l3.length cap3) (fun k hk=>by have:=(HTk.out.base_le k hk).1;intro e;simp at e;omega))
   clear HA5 HD5 HZ5 HFZ5 HM5 HO5 HOp HTk hmg
   go_upto_region 13 with fail
   generalize wr.setCell ⟨g,3,none⟩ (.slice a3 l3.length cap3)=w6 at *
   clear c3 f3
   obtain ⟨F6,hF6⟩:∃ F6:Nat→Prop,F6=fun k=>F k∨ownB a3 cap3=some k:=⟨_,rfl⟩
   rw [← hF6] at HA6
   have HF6:=Lib.hid (show ∀ k,F6 k→F k∨(w1.heap.size≤k∧k < B) from fun k hk=>by rw [hF6] at hk;exact hk.imp id (HF3B.out k))
   have HFF6:=Lib.hid (show ∀ k,F k→F6 k from fun k hk=>by rw [hF6];exact .inl hk)
   clear hF6
   obtain ⟨E,hE⟩:∃ E:OpE,E=⟨D,ta,tc,tk,false⟩:=⟨_,rfl⟩
   have HEE:=Lib.hid hE
   have HEt:=Lib.hid (show OwnRow w6 (B+1) 125 7 E.ta E.took.length E.tc (flat E.took) from by rw [hE];exact HTk6.out)
   have HEo:=Lib.hid (show OpAt w6 B E from by rw [hE];exact HOp6.out)
   have HEs:=Lib.hid (show E.sent=false from by rw [hE])
   clear hE HOp6 HTk6
   obtain ⟨a,cap,oa,ocap,es,r⟩:=HA6.out.rows
   have k0:=r.c4
   have kf:=HA6.out.fz 4 (by omega)
   have hglt:=HA6.out.lt
   have HEL:=Lib.hid (show es.length=s.os.length from r.len)
   have hel6:es.length≤1000000:=by rw [HEL.out];exact HOS.out
   have HR:=Lib.hid r
   obtain ⟨elt,efz,e0,e1,e2,e3,e4,e5,e6,e7,e8⟩:=HEo.out
   have hbs6:base≤w6.heap.size:=HA6.out.base_le
   have hdm:Moves (fun _=>False) w6 w6.drew:=⟨rfl,rfl,rfl,Nat.le_refl _,fun _ _ _=>rfl⟩
   have HAd:=Lib.hid HA6.out.drew
   have HRd:=Lib.hid (r.moves HA6.out.lt HA6.out.fg hdm (fun _ _ h=>h))
   have HDd:=Lib.hid (HD6.out.later (below_drew w6 w6.heap.size))
   have HZd:=Lib.hid (HZ6.out.later (below_drew w6 w6.heap.size))
   have HMd:=Lib.hid (HM6.out.trans (Moves.of_below (F:=F) (below_drew w6 w6.heap.size)) (fun _ _ k=>k))
   have HKd:=Lib.hid (show w6.drew.cell? ⟨g,4,none⟩=some (.slice oa es.length ocap)∧w6.drew.frozen? ⟨g,4,none⟩=false from ⟨k0,kf⟩)
   have HFZd:=Lib.hid (fun j (hj:j < 7)=>show w6.drew.frozen? ⟨Z,j,none⟩=false from HFZ6.out j hj)
   have HEd:=Lib.hid (show OwnRow w6.drew base 125 7 E.ta E.took.length E.tc (flat E.took) from HEt.out.drew.mono (by omega))
   have HEb:=Lib.hid (show ∀ k,ownB E.ta E.tc=some k→B+1≤k from fun k hk=>(HEt.out.base_le k hk).1)
   have HNF:=Lib.hid (show ∀ k,ownB E.ta E.tc=some k→¬ F6 k from fun k hk hf=>by
    have h1:=HEb.out k hk
    rcases HF6.out k hf with h2 | h2
    ·have:=HFB.out k h2;omega
    ·omega)
   have hZlt:Z < w6.heap.size:=HZ6.out.lt
   have hXlt6:X < w6.heap.size:=HD6.out.lt
   have hbsd:base≤w6.drew.heap.size:=hbs6
   have HBsz:=Lib.hid (show B < w6.drew.heap.size from elt)
   clear r HA6 HD6 HZ6 HFZ6 HM6 HEt HEo hdm efz
   have h6B:∀ k,F6 k→k < B:=fun k hk=>by
    rcases HF6.out k hk with h2 | h2
    ·exact HFB.out k h2
    ·exact h2.2
   have H6B:=Lib.hid h6B
   have hngX:¬ ownB oa ocap=some X:=fun e=>by
    rcases HF6.out _ (HR.out.fo _ e).1 with h2 | h2
    ·have:=HFX.out _ h2;omega
    ·omega
   have hngZ:¬ ownB oa ocap=some Z:=fun e=>by
    rcases HF6.out _ (HR.out.fo _ e).1 with h2 | h2
    ·have:=HFX.out _ h2;omega
    ·omega
   clear h6B
   have HG0:=Lib.hid (show ∀ w7,w6.drew.grownBy w7 (ownB oa ocap)→w7.cell? ⟨g,4,none⟩=some (.slice oa es.length ocap)∧w7.frozen? ⟨g,4,none⟩=false∧DdAt w7 X D∧DdAt w7 Z zD∧(∀ j,j < 7→w7.frozen? ⟨Z,j,none⟩=false) from fun w7 hg7=>by
    have hm7:Moves (fun k=>ownB oa ocap=some k) w6.drew w7:=Moves.of_grown hg7 fun k hk=>hk
    have hn:¬ ownB oa ocap=some g:=fun e=>(HR.out.fo g e).2.1 rfl
    exact ⟨(hm7.cell hglt hn 4).trans HKd.out.1,(hm7.frozen hglt hn 4).trans HKd.out.2,HDd.out.of_block hm7.size (hm7.block _ hXlt6 hngX),HZd.out.of_block hm7.size (hm7.block _ hZlt hngZ),fun j hj=>(hm7.frozen hZlt hngZ j).trans (HFZd.out j hj)⟩)
   obtain ⟨iT,zT,hiT,hzT,hsT,hbT,hzsT,hbpT⟩:=ti_open
   have hds:(w6.drew.alloc (.cells (OpE.cells E).toArray 174)).heap.size=w6.drew.heap.size+1:=by rw [World.size_alloc]
   have hbsA:base≤(w6.drew.alloc (.cells (OpE.cells E).toArray 174)).heap.size:=by omega
   obtain ⟨a7,cap7,w7,hrun,hown7,hg7',hn7'⟩:=run_append_row2 (P:=Tryz.prog) (w6.drew.alloc (.cells (OpE.cells E).toArray 174)) base 169 169 174 iT zT 9 96 Tryz.underlying169 hiT hzT hsT hbT hzsT oa es.length ocap _ (HRd.out.ro.alloc _)
    (some ⟨w6.drew.heap.size,0,none⟩) 1 1 (OpE.cells E) rfl (.inr ⟨_,rfl,fun j u hu=>by rw [Addr.add_lit,Nat.zero_add,World.cell?_alloc_new];simpa using hu⟩) (OpE.cells_one E) (by unfold maxLen;omega) (by omega) hbsA
   have hg7:w6.drew.grownBy w7 (ownB oa ocap):=⟨hg7'.os,hg7'.tape,hg7'.output,by have:=hg7'.size;omega,fun k hk hne=>(hg7'.block k (by omega) hne).trans (Below.heap_alloc _ _ _ hk)⟩
   have hn7:∀ k,ownB a7 cap7=some k→ownB oa ocap=some k∨w6.drew.heap.size≤k:=fun k hk=>by rcases hn7' k hk with h | h;exact .inl h;exact .inr (by omega)
   have kg1:∀ o,(w6.alloc o).cell? ⟨g,4,none⟩=some (.slice oa es.length ocap):=fun o=>((Below.refl w6.heap.size w6).alloc (Nat.le_refl _) o |>.cell (p:=⟨g,4,none⟩) hglt).trans k0
   have kg:=kg1 (.cells #[.int .i64 E.d.Kind,.int .i64 E.d.By,.int .i64 E.d.No,.int .i64 E.d.Seen,.int .i64 E.d.At,.int .i64 E.d.Many,.string E.d.Text,.slice E.ta E.took.length E.tc,.bool E.sent] 174)
   clear hds kg1 hn7' hg7' hbsA hiT hzT hsT hbT hzsT hbpT
   have HRUN:=Lib.hid hrun
   clear hrun
   obtain ⟨kc7,kf7,kdd7,kzz7,kfz7⟩:=HG0.out w7 hg7
   have HDD7:=Lib.hid kdd7
   have HZZ7:=Lib.hid kzz7
   have HFZ7:=Lib.hid kfz7
   have hsn:E.sent=decide (es.length < s.ns):=by
    rw [HEs.out];symm;apply decide_eq_false;have:=HNS.out;have:=HEL.out;omega
   have HL8:=Lib.hid (WrAt.grown (E:=E) HAd.out HRd.out hsn HEd.out HNF.out hown7 hg7 hn7)
   clear hsn
   have HM7:=Lib.hid (HMd.out.trans (Moves.of_grown (F:=fun k=>ownB oa ocap=some k) hg7 fun k hk=>hk) (fun k hkw hk=>by
    rcases HF6.out k (HR.out.fo k hk).1 with h2 | h2
    ·exact h2
    ·have h4:=HWW.out;omega))
   have HM8:=Lib.hid (HM7.out.trans (Moves.setCell w7 ⟨g,4,none⟩ (.slice a7 (es.length+1) cap7) HFG.out) (fun _ _ k=>k))
   have HDD8:=Lib.hid (HDD7.out.of_block (w':=w7.setCell ⟨g,4,none⟩ (.slice a7 (es.length+1) cap7)) (by simp) (Below.heap_setCell w7 ⟨g,4,none⟩ _ _ (fun e=>by simp at e;omega)))
   have HZZ8:=Lib.hid (HZZ7.out.of_block (w':=w7.setCell ⟨g,4,none⟩ (.slice a7 (es.length+1) cap7)) (by simp) (Below.heap_setCell w7 ⟨g,4,none⟩ _ _ (fun e=>by simp at e;omega)))
   have HFZ8:=Lib.hid (fun j (hj:j < 7)=>show (w7.setCell ⟨g,4,none⟩ (.slice a7 (es.length+1) cap7)).frozen? ⟨Z,j,none⟩=false from (World.frozen?_setCell _ _ _ _).trans (HFZ7.out j hj))
   have hwX:w.heap.size≤w6.drew.heap.size:=HMd.out.size
   obtain ⟨F8,hF8⟩:∃ F8:Nat→Prop,F8=fun k=>F6 k∨ownB a7 cap7=some k∨ownB E.ta E.tc=some k:=⟨_,rfl⟩
   rw [← hF8] at HL8
   have HGR8:=Lib.hid (show Grows F w F8 from fun k hk=>by
    rw [hF8] at hk
    have h6:∀ k,F6 k→F k∨w.heap.size≤k:=fun k hk=>(HF6.out k hk).imp id fun h=>Nat.le_trans HWW.out h.1
    rcases hk with hk | hk | hk
    ·exact h6 k hk
    ·rcases hn7 k hk with h | h
     ·exact h6 k (HR.out.fo k h).1
     ·exact .inr (Nat.le_trans hwX h)
    ·have h1:=HEb.out k hk;have h4:=HWW.out;exact .inr (by omega))
   have HF8Z:=Lib.hid (show ∀ k,F8 k→k≠Z from fun k hk e=>by
    rw [hF8] at hk
    rcases hk with hk | hk | hk
    ·rcases HF6.out k hk with h2 | h2
     ·have:=HFX.out _ h2;omega
     ·have:=h2.1;omega
    ·rcases hn7 k hk with h | h
     ·exact hngZ (e ▸ h)
     ·have:w6.heap.size≤k:=h
      omega
    ·have:=HEb.out k hk;omega)
   have HF8F:=Lib.hid (show F8 g from by rw [hF8];exact .inl (HFF6.out g HFG.out))
   clear hF8 hown7 hg7 hn7 kdd7 kzz7 kfz7 HDD7 HZZ7 HFZ7 HM7 HMd HKd HDd HZd HFZd HRd HAd HG0 HEd HNF
   go_region_law (refine step_known HRUN.out rfl _ _ rfl rfl rfl ?_)
   all_goals
    go_upto_region 14 with fail
    generalize w7.setCell ⟨g,4,none⟩ (.slice a7 (es.length+1) cap7)=w8 at *
    clear e0 e1 e2 e3 e4 e5 e6 e7 e8 elt k0 kf kg kc7 kf7 HRUN
    have c2:=HL8.out.c2
    have f2:=HL8.out.fz 2 (by omega)
    have hinc:IntKind.i64.wrap (s.next+1)=s.next+1:=by rw [IntKind.wrap_i64];omega
    have HL9:=Lib.hid (HL8.out.setNext (s.next+1))
    have hF8g:F g:=HFG.out
    have HDD9:=Lib.hid (HDD8.out.of_block (w':=w8.setCell ⟨g,2,none⟩ (.int .i64 (s.next+1))) (by simp) (Below.heap_setCell w8 ⟨g,2,none⟩ _ _ (fun e=>by simp at e;omega)))
    have HZZ9:=Lib.hid (HZZ8.out.of_block (w':=w8.setCell ⟨g,2,none⟩ (.int .i64 (s.next+1))) (by simp) (Below.heap_setCell w8 ⟨g,2,none⟩ _ _ (fun e=>by simp at e;omega)))
    have HFZ9:=Lib.hid (fun j (hj:j < 7)=>show (w8.setCell ⟨g,2,none⟩ (.int .i64 (s.next+1))).frozen? ⟨Z,j,none⟩=false from (World.frozen?_setCell _ _ _ _).trans (HFZ8.out j hj))
    have HM9:=Lib.hid (HM8.out.trans (Moves.setCell w8 ⟨g,2,none⟩ (.int .i64 (s.next+1)) HFG.out) (fun _ _ k=>k))
    clear HL8 HDD8 HZZ8 HFZ8 HM8
    go_upto_region 15 with fail
    generalize w8.setCell ⟨g,2,none⟩ (.int .i64 (s.next+1))=w9 at *
    clear c2 f2 hinc
    have HP:=Lib.hid (HZZ9.out.putAll D)
    have HBP:=Lib.hid (putDd_below D (Below.refl Z w9) (Nat.le_refl _))
    have HMP:=Lib.hid (putDd_moves w9 Z D)
    obtain ⟨dlt,d0,d1,d2,d3,d4,d5,d6⟩:=HDD9.out
    obtain ⟨zlt,z0,z1,z2,z3,z4,z5,z6⟩:=HZZ9.out
    have f0:=HFZ9.out 0 (by omega)
    have f1:=HFZ9.out 1 (by omega)
    have f2:=HFZ9.out 2 (by omega)
    have f3:=HFZ9.out 3 (by omega)
    have f4:=HFZ9.out 4 (by omega)
    have f5:=HFZ9.out 5 (by omega)
    have f6:=HFZ9.out 6 (by omega)
    go_wp2
    change bodyPost _ _ _ _ _ (putDd w9 Z D)
    obtain ⟨_,p0,p1,p2,p3,p4,p5,p6⟩:=HP.out
    refine bodyPost_ret (v:=.tuple #[.agg #[.int .i64 D.Kind,.int .i64 D.By,.int .i64 D.No,.int .i64 D.Seen,.int .i64 D.At,.int .i64 D.Many,.string D.Text],.int .i64 0]) (by simp [results,Tryz.results126,go_sem,p0,p1,p2,p3,p4,p5,p6]) rfl ?_
    refine Or.inr (And.intro HMD.out (And.intro (by rw [HDE.out]) (Exists.intro F8 (And.intro ?_ (And.intro ?_ HGR8.out)))))
    ·have h8:=HL9.out.moves HMP.out (fun k hk e=>HF8Z.out k hk e)
     have eo:E.o=⟨D,tookOf s.L l3 D⟩:=by rw [HEE.out];show (⟨D,tk⟩:OpenD)=_;rw [HTT.out]
     rw [eo,HL3.out,HDE.out] at h8
     rw [HDE.out]
     exact h8
    ·refine HM9.out.above (HBP.out.mono ?_)
     have:=HXW.out;omega
end Go.Proofs.YtneoeokfffnonaaGreatDoor
namespace Go.Proofs.YtneoeokfffnonaaGreatDoor
open Go.RowKit
set_option maxRecDepth 100000 in
set_option maxHeartbeats 800000 in
theorem WPut_c {w:World} {base:Nat} {F:Nat→Prop} {g:Nat} {s:WrV} (h:WrAt w base F g s) (hG:∀ c∈s.L,i64ok c.Gone) (hl:s.L.length≤1000) (hos:s.os.length≤1000000) (hns:s.ns≤s.os.length) (a:Int) (t:ByteArray) (hdt:t.size≤maxLen) (hnx:0≤s.next∧s.next≤1000000) :
 Calls Tryz.prog 79 #[.pointer (some ⟨g,0,none⟩),.int .i64 a,.string t] w (WDoPost w base F g s ⟨1,0,0,0,a,0,t⟩):=by
 have hb0:=(Below.refl w.heap.size w).alloc (Nat.le_refl _) (.cells #[.int .i64 zD.Kind,.int .i64 zD.By,.int .i64 zD.No,.int .i64 zD.Seen,.int .i64 zD.At,.int .i64 zD.Many,.string zD.Text] 122)
 have HDO:=Lib.hid (WDo_c (h.later hb0) hG hl hos hns ⟨1,0,0,0,a,0,t⟩ hdt (by show i64ok 0;unfold i64ok;omega) hnx)
 have HZ0:=Lib.hid (DdAt.new w zD)
 have HFZ:=Lib.hid (show ∀ j,j < 7→(w.alloc (.cells #[.int .i64 zD.Kind,.int .i64 zD.By,.int .i64 zD.No,.int .i64 zD.Seen,.int .i64 zD.At,.int .i64 zD.Many,.string zD.Text] 122)).frozen? ⟨w.heap.size,j,none⟩=false from fun j _=>by simp)
 have HM0:=Lib.hid (Moves.of_below (F:=F) hb0)
 have HFX:=Lib.hid (show ∀ k,F k→k < w.heap.size from fun k hk=>(h.foot k hk).2)
 have hsz0:w.heap.size < (w.alloc (.cells #[.int .i64 zD.Kind,.int .i64 zD.By,.int .i64 zD.No,.int .i64 zD.Seen,.int .i64 zD.At,.int .i64 zD.Many,.string zD.Text] 122)).heap.size:=by simp
 have HBS:=Lib.hid h.base_le
 clear h hb0
 go_enter Tryz.func79,Tryz.ntmps79
 go_wp2_with fail
 generalize hw0:w.alloc _=w0
 have hw0' : w.alloc (.cells #[.int .i64 zD.Kind,.int .i64 zD.By,.int .i64 zD.No,.int .i64 zD.Seen,.int .i64 zD.At,.int .i64 zD.Many,.string zD.Text] 122)=w0:=hw0
 rw [hw0'] at HDO HZ0 HFZ HM0 hsz0
 clear hw0 hw0'
 refine HDO.out.mono ?_
 rintro e w3 hp
 obtain ⟨Z,hZ⟩:∃ Z,Z=w.heap.size:=⟨_,rfl⟩
 rw [← hZ] at HZ0 HFZ HFX hsz0 HBS ⊢
 have HZW:=Lib.hid hZ
 clear hZ HDO
 have fin:∀ (hm:Moves F w0 w3),Hid (DdAt w3 Z zD)∧Hid (∀ j,j < 7→w3.frozen? ⟨Z,j,none⟩=false)∧Hid (Moves F w w3):=fun hm=>by
  have hn:¬ F Z:=fun h=>Nat.lt_irrefl _ (HFX.out Z h)
  exact ⟨Lib.hid (HZ0.out.of_block hm.size (hm.block Z hsz0 hn)),Lib.hid fun j hj=>(hm.frozen hsz0 hn j).trans (HFZ.out j hj),Lib.hid (HM0.out.trans hm (fun _ _ k=>k))⟩
 rcases hp with ⟨h1,rfl,h3,h4⟩ | ⟨h1,rfl,F3,h3,h4,h5⟩
 ·obtain ⟨HZ3,HF3,HM3⟩:=fin h4
  have H1:=Lib.hid h1;have H3:=Lib.hid h3
  obtain ⟨c,hc⟩:∃ c,c=mayDo s.L (s.deed ⟨1,0,0,0,a,0,t⟩):=⟨_,rfl⟩
  rw [← hc]
  have HC:=Lib.hid hc
  clear h1 h3 h4 fin hc HZ0 HFZ
  have HP:=Lib.hid (HZ3.out.putAll zD)
  have HBP:=Lib.hid (putDd_below zD (Below.refl Z w3) (Nat.le_refl _))
  obtain ⟨zlt,z0,z1,z2,z3,z4,z5,z6⟩:=HZ3.out
  have f0:=HF3.out 0 (by omega)
  have f1:=HF3.out 1 (by omega)
  have f2:=HF3.out 2 (by omega)
  have f3:=HF3.out 3 (by omega)
  have f4:=HF3.out 4 (by omega)
  have f5:=HF3.out 5 (by omega)
  have f6:=HF3.out 6 (by omega)
  go_wp2
  change bodyPost _ _ _ _ _ (putDd w3 Z zD)
  obtain ⟨_,p0,p1,p2,p3,p4,p5,p6⟩:=HP.out
  refine bodyPost_ret (v:=.tuple #[.agg #[.int .i64 zD.Kind,.int .i64 zD.By,.int .i64 zD.No,.int .i64 zD.Seen,.int .i64 zD.At,.int .i64 zD.Many,.string zD.Text],.int .i64 c]) (by simp [results,Tryz.results79,go_sem,p0,p1,p2,p3,p4,p5,p6]) rfl ?_
  exact Or.inl ⟨H1.out,by rw [HC.out],H3.out.above HBP.out HFX.out,HM3.out.above (HBP.out.mono (Nat.le_of_eq HZW.out.symm))⟩
 ·obtain ⟨HZ3,HF3,HM3⟩:=fin h4
  have H1:=Lib.hid h1;have H3:=Lib.hid h3;have H5:=Lib.hid h5
  have hn3:∀ k,F3 k→k≠Z:=fun k hk e=>by
   rcases h5 k hk with h | h
   ·have:=HFX.out k h;omega
   ·have h6:w0.heap.size≤k:=h
    omega
  have HN3:=Lib.hid hn3
  obtain ⟨D,hD⟩:∃ D,D=s.deed ⟨1,0,0,0,a,0,t⟩:=⟨_,rfl⟩
  rw [← hD]
  have HD:=Lib.hid hD
  clear h1 h3 h4 h5 fin hD HZ0 HFZ hn3
  have HP:=Lib.hid (HZ3.out.putAll D)
  have HBP:=Lib.hid (putDd_below D (Below.refl Z w3) (Nat.le_refl _))
  have HMP:=Lib.hid (putDd_moves w3 Z D)
  obtain ⟨zlt,z0,z1,z2,z3,z4,z5,z6⟩:=HZ3.out
  have f0:=HF3.out 0 (by omega)
  have f1:=HF3.out 1 (by omega)
  have f2:=HF3.out 2 (by omega)
  have f3:=HF3.out 3 (by omega)
  have f4:=HF3.out 4 (by omega)
  have f5:=HF3.out 5 (by omega)
  have f6:=HF3.out 6 (by omega)
  go_wp2
  change bodyPost _ _ _ _ _ (putDd w3 Z D)
  obtain ⟨_,p0,p1,p2,p3,p4,p5,p6⟩:=HP.out
  refine bodyPost_ret (v:=.tuple #[.agg #[.int .i64 D.Kind,.int .i64 D.By,.int .i64 D.No,.int .i64 D.Seen,.int .i64 D.At,.int .i64 D.Many,.string D.Text],.int .i64 0]) (by simp [results,Tryz.results79,go_sem,p0,p1,p2,p3,p4,p5,p6]) rfl ?_
  refine Or.inr ⟨H1.out,by rw [HD.out],F3,H3.out.moves HMP.out (fun k hk e=>HN3.out k hk e),HM3.out.above (HBP.out.mono (Nat.le_of_eq HZW.out.symm)),fun k hk=>?_⟩
  rcases H5.out k hk with h | h
  ·exact .inl h
  ·refine .inr ?_
   have h6:w0.heap.size≤k:=h
   have:=HZW.out
   omega
set_option maxRecDepth 100000 in
set_option maxHeartbeats 800000 in
theorem WTake_c {w:World} {base:Nat} {F:Nat→Prop} {g:Nat} {s:WrV} (h:WrAt w base F g s) (hG:∀ c∈s.L,i64ok c.Gone) (hl:s.L.length≤1000) (hos:s.os.length≤1000000) (hns:s.ns≤s.os.length) (a n:Int) (hdm:i64ok n) (hnx:0≤s.next∧s.next≤1000000) :
 Calls Tryz.prog 80 #[.pointer (some ⟨g,0,none⟩),.int .i64 a,.int .i64 n] w (WDoPost w base F g s ⟨2,0,0,0,a,n,⟨#[]⟩⟩):=by
 have hb0:=(Below.refl w.heap.size w).alloc (Nat.le_refl _) (.cells #[.int .i64 zD.Kind,.int .i64 zD.By,.int .i64 zD.No,.int .i64 zD.Seen,.int .i64 zD.At,.int .i64 zD.Many,.string zD.Text] 122)
 have HDO:=Lib.hid (WDo_c (h.later hb0) hG hl hos hns ⟨2,0,0,0,a,n,⟨#[]⟩⟩ (by show (0:Nat)≤maxLen;exact Nat.zero_le _) hdm hnx)
 have HZ0:=Lib.hid (DdAt.new w zD)
 have HFZ:=Lib.hid (show ∀ j,j < 7→(w.alloc (.cells #[.int .i64 zD.Kind,.int .i64 zD.By,.int .i64 zD.No,.int .i64 zD.Seen,.int .i64 zD.At,.int .i64 zD.Many,.string zD.Text] 122)).frozen? ⟨w.heap.size,j,none⟩=false from fun j _=>by simp)
 have HM0:=Lib.hid (Moves.of_below (F:=F) hb0)
 have HFX:=Lib.hid (show ∀ k,F k→k < w.heap.size from fun k hk=>(h.foot k hk).2)
 have hsz0:w.heap.size < (w.alloc (.cells #[.int .i64 zD.Kind,.int .i64 zD.By,.int .i64 zD.No,.int .i64 zD.Seen,.int .i64 zD.At,.int .i64 zD.Many,.string zD.Text] 122)).heap.size:=by simp
 have HBS:=Lib.hid h.base_le
 clear h hb0
 go_enter Tryz.func80,Tryz.ntmps80
 go_wp2_with fail
 generalize hw0:w.alloc _=w0
 have hw0' : w.alloc (.cells #[.int .i64 zD.Kind,.int .i64 zD.By,.int .i64 zD.No,.int .i64 zD.Seen,.int .i64 zD.At,.int .i64 zD.Many,.string zD.Text] 122)=w0:=hw0
 rw [hw0'] at HDO HZ0 HFZ HM0 hsz0
 clear hw0 hw0'
 refine HDO.out.mono ?_
 rintro e w3 hp
 obtain ⟨Z,hZ⟩:∃ Z,Z=w.heap.size:=⟨_,rfl⟩
 rw [← hZ] at HZ0 HFZ HFX hsz0 HBS ⊢
 have HZW:=Lib.hid hZ
 clear hZ HDO
 have fin:∀ (hm:Moves F w0 w3),Hid (DdAt w3 Z zD)∧Hid (∀ j,j < 7→w3.frozen? ⟨Z,j,none⟩=false)∧Hid (Moves F w w3):=fun hm=>by
  have hn:¬ F Z:=fun h=>Nat.lt_irrefl _ (HFX.out Z h)
  exact ⟨Lib.hid (HZ0.out.of_block hm.size (hm.block Z hsz0 hn)),Lib.hid fun j hj=>(hm.frozen hsz0 hn j).trans (HFZ.out j hj),Lib.hid (HM0.out.trans hm (fun _ _ k=>k))⟩
 rcases hp with ⟨h1,rfl,h3,h4⟩ | ⟨h1,rfl,F3,h3,h4,h5⟩
 ·obtain ⟨HZ3,HF3,HM3⟩:=fin h4
  have H1:=Lib.hid h1;have H3:=Lib.hid h3
  obtain ⟨c,hc⟩:∃ c,c=mayDo s.L (s.deed ⟨2,0,0,0,a,n,⟨#[]⟩⟩):=⟨_,rfl⟩
  rw [← hc]
  have HC:=Lib.hid hc
  clear h1 h3 h4 fin hc HZ0 HFZ
  have HP:=Lib.hid (HZ3.out.putAll zD)
  have HBP:=Lib.hid (putDd_below zD (Below.refl Z w3) (Nat.le_refl _))
  obtain ⟨zlt,z0,z1,z2,z3,z4,z5,z6⟩:=HZ3.out
  have f0:=HF3.out 0 (by omega)
  have f1:=HF3.out 1 (by omega)
  have f2:=HF3.out 2 (by omega)
  have f3:=HF3.out 3 (by omega)
  have f4:=HF3.out 4 (by omega)
  have f5:=HF3.out 5 (by omega)
  have f6:=HF3.out 6 (by omega)
  go_wp2
  change bodyPost _ _ _ _ _ (putDd w3 Z zD)
  obtain ⟨_,p0,p1,p2,p3,p4,p5,p6⟩:=HP.out
  refine bodyPost_ret (v:=.tuple #[.agg #[.int .i64 zD.Kind,.int .i64 zD.By,.int .i64 zD.No,.int .i64 zD.Seen,.int .i64 zD.At,.int .i64 zD.Many,.string zD.Text],.int .i64 c]) (by simp [results,Tryz.results80,go_sem,p0,p1,p2,p3,p4,p5,p6]) rfl ?_
  exact Or.inl ⟨H1.out,by rw [HC.out],H3.out.above HBP.out HFX.out,HM3.out.above (HBP.out.mono (Nat.le_of_eq HZW.out.symm))⟩
 ·obtain ⟨HZ3,HF3,HM3⟩:=fin h4
  have H1:=Lib.hid h1;have H3:=Lib.hid h3;have H5:=Lib.hid h5
  have hn3:∀ k,F3 k→k≠Z:=fun k hk e=>by
   rcases h5 k hk with h | h
   ·have:=HFX.out k h;omega
   ·have h6:w0.heap.size≤k:=h
    omega
  have HN3:=Lib.hid hn3
  obtain ⟨D,hD⟩:∃ D,D=s.deed ⟨2,0,0,0,a,n,⟨#[]⟩⟩:=⟨_,rfl⟩
  rw [← hD]
  have HD:=Lib.hid hD
  clear h1 h3 h4 h5 fin hD HZ0 HFZ hn3
  have HP:=Lib.hid (HZ3.out.putAll D)
  have HBP:=Lib.hid (putDd_below D (Below.refl Z w3) (Nat.le_refl _))
  have HMP:=Lib.hid (putDd_moves w3 Z D)
  obtain ⟨zlt,z0,z1,z2,z3,z4,z5,z6⟩:=HZ3.out
  have f0:=HF3.out 0 (by omega)
  have f1:=HF3.out 1 (by omega)
  have f2:=HF3.out 2 (by omega)
  have f3:=HF3.out 3 (by omega)
  have f4:=HF3.out 4 (by omega)
  have f5:=HF3.out 5 (by omega)
  have f6:=HF3.out 6 (by omega)
  go_wp2
  change bodyPost _ _ _ _ _ (putDd w3 Z D)
  obtain ⟨_,p0,p1,p2,p3,p4,p5,p6⟩:=HP.out
  refine bodyPost_ret (v:=.tuple #[.agg #[.int .i64 D.Kind,.int .i64 D.By,.int .i64 D.No,.int .i64 D.Seen,.int .i64 D.At,.int .i64 D.Many,.string D.Text],.int .i64 0]) (by simp [results,Tryz.results80,go_sem,p0,p1,p2,p3,p4,p5,p6]) rfl ?_
  refine Or.inr ⟨H1.out,by rw [HD.out],F3,H3.out.moves HMP.out (fun k hk e=>HN3.out k hk e),HM3.out.above (HBP.out.mono (Nat.le_of_eq HZW.out.symm)),fun k hk=>?_⟩
  rcases H5.out k hk with h | h
  ·exact .inl h
  ·refine .inr ?_
   have h6:w0.heap.size≤k:=h
   have:=HZW.out
   omega
end Go.Proofs.YtneoeokfffnonaaGreatDoor
