/- Merged: ScrDoW ScrHear. -/
import Derived.Test.YtneoeokfffnonaaGreatDoorScrW
import Derived.Deep.RegionLaw
import Derived.Test.YtneoeokfffnonaaGreatDoorWrNum
set_option linter.unusedVariables false
set_option linter.unusedSimpArgs false
namespace Go.Proofs.YtneoeokfffnonaaGreatDoor
open Go.RowKit
def ScV.deed (s:ScV) (d:Dd):Dd:={ d with By:=s.me,No:=s.next,Seen:=s.seen }
def ScV.chars (s:ScV):List Ch:=apOs s.L s.ds
def SDoPost (w:World) (base:Nat) (F:Nat→Prop) (g:Nat) (s:ScV) (d:Dd) (e:Ending) (w' : World):Prop:=
 (mayDo s.chars (s.deed d)≠0∧e=.returned (.tuple #[.agg #[.int .i64 zD.Kind,.int .i64 zD.By,.int .i64 zD.No,.int .i64 zD.Seen,.int .i64 zD.At,.int .i64 zD.Many,.string zD.Text],.int .i64 (mayDo s.chars (s.deed d))])∧ScrAt w' base F g s∧Moves F w w')∨
 (mayDo s.chars (s.deed d)=0∧e=.returned (.tuple #[.agg #[.int .i64 (s.deed d).Kind,.int .i64 (s.deed d).By,.int .i64 (s.deed d).No,.int .i64 (s.deed d).Seen,.int .i64 (s.deed d).At,.int .i64 (s.deed d).Many,.string (s.deed d).Text],.int .i64 0])∧∃ F',ScrAt w' base F' g { s with ds:=s.ds++[s.deed d],next:=s.next+1 }∧Moves F w w'∧Grows F w F')
theorem ScrAt.grown {w5 w6:World} {base:Nat} {F:Nat→Prop} {g:Nat} {s:ScV} {D:Dd} {a oa a6:Option Addr} {cap ocap cap6:Nat} (h:ScrAt w5 base F g s)
 (r0:w5.cell? ⟨g,3,none⟩=some (.slice a s.L.length cap)) (r1:w5.cell? ⟨g,4,none⟩=some (.slice oa s.ds.length ocap)) (r2:OwnRow w5 base 125 7 a s.L.length cap (flat s.L))
 (r4:∀ k,ownB a cap=some k→F k∧k≠g) (r5:∀ k,ownB oa ocap=some k→F k∧k≠g∧ownB a cap≠some k)
 (hrow6:OwnRow w6 base 122 7 a6 (s.ds.length+1) cap6 (flatD s.ds++D.cells)) (hgr:w5.grownBy w6 (ownB oa ocap)) (hnew:∀ k,ownB a6 cap6=some k→ownB oa ocap=some k∨w5.heap.size≤k) :
 ScrAt (w6.setCell ⟨g,4,none⟩ (.slice a6 (s.ds.length+1) cap6)) base (fun k=>F k∨ownB a6 cap6=some k) g { s with ds:=s.ds++[D] }:=by
 have hm:Moves (fun k=>ownB oa ocap=some k) w5 w6:=Moves.of_grown hgr fun k hk=>hk
 have hg:¬ ownB oa ocap=some g:=fun e=>(r5 g e).2.1 rfl
 have hc:∀ o,w6.cell? ⟨g,o,none⟩=w5.cell? ⟨g,o,none⟩:=fun o=>hm.cell h.lt hg o
 have hs:∀ o,o≠4→(w6.setCell ⟨g,4,none⟩ (.slice a6 (s.ds.length+1) cap6)).cell? ⟨g,o,none⟩=w5.cell? ⟨g,o,none⟩:=fun o ho=>(World.cell?_setCell_other _ _ _ _ (fun e=>ho (by cases e;rfl))).trans (hc o)
 have h6g:∀ k,ownB a6 cap6=some k→k≠g:=fun k hk e=>by
  rcases hnew k hk with h1 | h1
  ·exact (r5 k h1).2.1 e
  ·have:=h.lt;omega
 have h6a:∀ k,ownB a6 cap6=some k→ownB a cap≠some k:=fun k hk e=>by
  rcases hnew k hk with h1 | h1
  ·exact (r5 k h1).2.2 e
  ·have:=(r2.base_le k e).2;omega
 refine ⟨by simpa using Nat.lt_of_lt_of_le h.lt hm.size,.inl h.fg,fun k hk=>?_,fun o ho=>by rw [World.frozen?_setCell];exact (hm.frozen h.lt hg o).trans (h.fz o ho),
  (hs 0 (by omega)).trans h.c0,(hs 1 (by omega)).trans h.c1,(hs 2 (by omega)).trans h.c2,(hs 5 (by omega)).trans h.c5,
  ⟨a,cap,a6,cap6,(hs 3 (by omega)).trans r0,?_,?_,?_,fun k hk=>⟨.inl (r4 k hk).1,(r4 k hk).2⟩,fun k hk=>⟨.inr hk,h6g k hk,h6a k hk⟩⟩⟩
 ·simp only [World.size_setCell]
  rcases hk with hk | hk
  ·exact ⟨(h.foot k hk).1,Nat.lt_of_lt_of_le (h.foot k hk).2 hm.size⟩
  ·exact hrow6.base_le k hk
 ·show (w6.setCell _ _).cell? ⟨g,4,none⟩=some (.slice a6 (s.ds++[D]).length cap6)
  rw [List.length_append]
  exact World.cell?_setCell_same _ _ _ ((hc 4).trans r1)
 ·exact (r2.moves hm fun k hk e=>(r5 k e).2.2 hk).setCell _ _ fun k hk=>(r4 k hk).2
 ·show OwnRow _ base _ 7 a6 (s.ds++[D]).length cap6 (flatD (s.ds++[D]))
  rw [List.length_append,flatD_append]
  have:flatD [D]=D.cells:=by simp [flatD]
  rw [this]
  exact hrow6.setCell _ _ h6g
theorem apOs_gone {l:List Ch} {ds:List Dd} (h:Chain l ds) (hG:∀ c∈l,i64ok c.Gone):∀ c∈apOs l ds,i64ok c.Gone:=by
 induction ds generalizing l with
 | nil=>exact hG
 | cons o os ih=>
  refine ih h.2 ?_
  have:=doF_gone l o 1073741824 hG
  rw [apO_doF h.1] at this;exact this
theorem apOs_len {l:List Ch} {ds:List Dd} (h:Chain l ds) (hl:l.length≤1000):(apOs l ds).length≤1000:=by
 induction ds generalizing l with
 | nil=>exact hl
 | cons o os ih=>
  refine ih h.2 ?_
  have:=doF_len l o 1073741824
  rw [apO_doF h.1] at this;exact Nat.le_trans this (by omega)
set_option maxRecDepth 100000 in
set_option maxHeartbeats 800000 in
theorem SDo_c {w:World} {base:Nat} {F:Nat→Prop} {g:Nat} {s:ScV} (h:ScrAt w base F g s) (hc:Chain s.L s.ds) (hG:∀ c∈s.L,i64ok c.Gone) (hl:s.L.length≤1000) (hd:s.ds.length≤1000000) (d:Dd) (hdt:d.Text.size≤maxLen) (hnx:0≤s.next∧s.next≤1000000) :
 Calls Tryz.prog 98 #[.pointer (some ⟨g,0,none⟩),.agg #[.int .i64 d.Kind,.int .i64 d.By,.int .i64 d.No,.int .i64 d.Seen,.int .i64 d.At,.int .i64 d.Many,.string d.Text]] w (SDoPost w base F g s d):=by
 have hb0:=((Below.refl w.heap.size w).alloc (Nat.le_refl _) (.cells #[.int .i64 d.Kind,.int .i64 d.By,.int .i64 d.No,.int .i64 d.Seen,.int .i64 d.At,.int .i64 d.Many,.string d.Text] 122)).alloc (by simp) (.cells #[.int .i64 zD.Kind,.int .i64 zD.By,.int .i64 zD.No,.int .i64 zD.Seen,.int .i64 zD.At,.int .i64 zD.Many,.string zD.Text] 122)
 have HA0:=Lib.hid (h.later hb0)
 have HD0:=Lib.hid (show DdAt ((w.alloc (.cells #[.int .i64 d.Kind,.int .i64 d.By,.int .i64 d.No,.int .i64 d.Seen,.int .i64 d.At,.int .i64 d.Many,.string d.Text] 122)).alloc (.cells #[.int .i64 zD.Kind,.int .i64 zD.By,.int .i64 zD.No,.int .i64 zD.Seen,.int .i64 zD.At,.int .i64 zD.Many,.string zD.Text] 122)) w.heap.size d from (DdAt.new w d).later ((Below.refl _ _).alloc (Nat.le_refl _) _))
 have HZ0:=Lib.hid (show DdAt ((w.alloc (.cells #[.int .i64 d.Kind,.int .i64 d.By,.int .i64 d.No,.int .i64 d.Seen,.int .i64 d.At,.int .i64 d.Many,.string d.Text] 122)).alloc (.cells #[.int .i64 zD.Kind,.int .i64 zD.By,.int .i64 zD.No,.int .i64 zD.Seen,.int .i64 zD.At,.int .i64 zD.Many,.string zD.Text] 122)) (w.heap.size+1) zD from by
  have:=DdAt.new (w.alloc (.cells #[.int .i64 d.Kind,.int .i64 d.By,.int .i64 d.No,.int .i64 d.Seen,.int .i64 d.At,.int .i64 d.Many,.string d.Text] 122)) zD
  simpa using this)
 have HFD:=Lib.hid (show ∀ j,j < 7→((w.alloc (.cells #[.int .i64 d.Kind,.int .i64 d.By,.int .i64 d.No,.int .i64 d.Seen,.int .i64 d.At,.int .i64 d.Many,.string d.Text] 122)).alloc (.cells #[.int .i64 zD.Kind,.int .i64 zD.By,.int .i64 zD.No,.int .i64 zD.Seen,.int .i64 zD.At,.int .i64 zD.Many,.string zD.Text] 122)).frozen? ⟨w.heap.size,j,none⟩=false from fun j _=>by
  rw [((Below.refl (w.alloc (.cells #[.int .i64 d.Kind,.int .i64 d.By,.int .i64 d.No,.int .i64 d.Seen,.int .i64 d.At,.int .i64 d.Many,.string d.Text] 122)).heap.size (w.alloc (.cells #[.int .i64 d.Kind,.int .i64 d.By,.int .i64 d.No,.int .i64 d.Seen,.int .i64 d.At,.int .i64 d.Many,.string d.Text] 122))).alloc (Nat.le_refl _) (.cells #[.int .i64 zD.Kind,.int .i64 zD.By,.int .i64 zD.No,.int .i64 zD.Seen,.int .i64 zD.At,.int .i64 zD.Many,.string zD.Text] 122)).frozen (p:=⟨w.heap.size,j,none⟩) (by simp),World.frozen?_alloc_new])
 have HFZ:=Lib.hid (show ∀ j,j < 7→((w.alloc (.cells #[.int .i64 d.Kind,.int .i64 d.By,.int .i64 d.No,.int .i64 d.Seen,.int .i64 d.At,.int .i64 d.Many,.string d.Text] 122)).alloc (.cells #[.int .i64 zD.Kind,.int .i64 zD.By,.int .i64 zD.No,.int .i64 zD.Seen,.int .i64 zD.At,.int .i64 zD.Many,.string zD.Text] 122)).frozen? ⟨w.heap.size+1,j,none⟩=false from fun j _=>by
  have e:w.heap.size+1=(w.alloc (.cells #[.int .i64 d.Kind,.int .i64 d.By,.int .i64 d.No,.int .i64 d.Seen,.int .i64 d.At,.int .i64 d.Many,.string d.Text] 122)).heap.size:=by simp
  rw [e,World.frozen?_alloc_new])
 have HM0:=Lib.hid (Moves.of_below (F:=F) hb0)
 have HFX:=Lib.hid (show ∀ k,F k→k < w.heap.size from fun k hk=>(h.foot k hk).2)
 have hbs:=h.base_le
 have HFG:=Lib.hid h.fg
 have HCH:=Lib.hid hc
 have HG:=Lib.hid hG
 have HDT:=Lib.hid hdt
 clear h hb0 hc hG hdt
 go_enter Tryz.func98,Tryz.ntmps98
 go_upto_region 1 with fail
 generalize hw0:(w.alloc _).alloc _=w0
 have hw0' : (w.alloc (.cells #[.int .i64 d.Kind,.int .i64 d.By,.int .i64 d.No,.int .i64 d.Seen,.int .i64 d.At,.int .i64 d.Many,.string d.Text] 122)).alloc (.cells #[.int .i64 zD.Kind,.int .i64 zD.By,.int .i64 zD.No,.int .i64 zD.Seen,.int .i64 zD.At,.int .i64 zD.Many,.string zD.Text] 122)=w0:=hw0
 rw [hw0'] at HA0 HD0 HZ0 HFD HFZ HM0
 clear hw0 hw0'
 obtain ⟨X,hX⟩:∃ X,X=w.heap.size:=⟨_,rfl⟩
 obtain ⟨Z,hZ⟩:∃ Z,Z=w.heap.size+1:=⟨_,rfl⟩
 have hXZ:X < Z:=by omega
 have hXB:base≤X:=by omega
 rw [← hZ] at HZ0 HFZ ⊢
 rw [← hX] at HD0 HFD HFX ⊢
 have HXW:=Lib.hid hX
 clear hX hZ
 have c0:=HA0.out.c0
 have c1:=HA0.out.c1
 have c2:=HA0.out.c2
 obtain ⟨dlt,d0,d1,d2,d3,d4,d5,d6⟩:=HD0.out
 have f1:=HFD.out 1 (by omega)
 have f2:=HFD.out 2 (by omega)
 have f3:=HFD.out 3 (by omega)
 have HD1:=Lib.hid ((((HD0.out.q1 s.me).q2 s.next).q3 s.seen).later (below_drew _ _))
 have HB1:=Lib.hid (((((Below.refl X w0).setCell (p:=⟨X,1,none⟩) (Nat.le_refl _) (.int .i64 s.me)).setCell (p:=⟨X,2,none⟩) (Nat.le_refl _) (.int .i64 s.next)).setCell (p:=⟨X,3,none⟩) (Nat.le_refl _) (.int .i64 s.seen)).trans (below_drew _ _))
 have HZ1:=Lib.hid (show DdAt (((w0.setCell ⟨X,1,none⟩ (.int .i64 s.me)).setCell ⟨X,2,none⟩ (.int .i64 s.next)).setCell ⟨X,3,none⟩ (.int .i64 s.seen)).drew Z zD from by
  refine HZ0.out.of_block (by simp [World.drew]) ?_
  show (((w0.setCell ⟨X,1,none⟩ (.int .i64 s.me)).setCell ⟨X,2,none⟩ (.int .i64 s.next)).setCell ⟨X,3,none⟩ (.int .i64 s.seen)).heap[Z]? = _
  rw [Below.heap_setCell _ _ _ _ (by simp;omega),Below.heap_setCell _ _ _ _ (by simp;omega),Below.heap_setCell _ _ _ _ (by simp;omega)])
 have HFZ1:=Lib.hid (fun j (hj:j < 7)=>show (((w0.setCell ⟨X,1,none⟩ (.int .i64 s.me)).setCell ⟨X,2,none⟩ (.int .i64 s.next)).setCell ⟨X,3,none⟩ (.int .i64 s.seen)).drew.frozen? ⟨Z,j,none⟩=false from by
  show (((w0.setCell ⟨X,1,none⟩ (.int .i64 s.me)).setCell ⟨X,2,none⟩ (.int .i64 s.next)).setCell ⟨X,3,none⟩ (.int .i64 s.seen)).frozen? ⟨Z,j,none⟩=false
  rw [World.frozen?_setCell,World.frozen?_setCell,World.frozen?_setCell];exact HFZ.out j hj)
 have hgX:g < X:=HFX.out g HFG.out
 have hgne:(g=X)=False:=by simp;omega
 have hgne2:(X=g)=False:=by simp;omega
 go_region
 clear hgne hgne2
 go_upto_region 2 with fail
 generalize (((w0.setCell ⟨X,1,none⟩ (.int .i64 s.me)).setCell ⟨X,2,none⟩ (.int .i64 s.next)).setCell ⟨X,3,none⟩ (.int .i64 s.seen)).drew=w1 at *
 have HA1:=Lib.hid (HA0.out.above HB1.out HFX.out)
 have HM1:=Lib.hid (HM0.out.above (HB1.out.mono (Nat.le_of_eq HXW.out.symm)))
 clear c0 c1 c2 d0 d1 d2 d3 d4 d5 d6 f1 f2 f3 HA0 HD0 HZ0 HFD HFZ HM0 HB1 dlt
 obtain ⟨D,hD⟩:∃ D,D=s.deed d:=⟨_,rfl⟩
 have HDD1:=Lib.hid (show DdAt w1 X D from by rw [hD];exact HD1.out)
 have HDE:=Lib.hid hD
 have HDT2:=Lib.hid (show D.Text.size≤maxLen from by rw [hD];exact HDT.out)
 clear hD HD1
 obtain ⟨dlt,d0,d1,d2,d3,d4,d5,d6⟩:=HDD1.out
 have D0:=later_cell d0
 have D1:=later_cell d1
 have D2:=later_cell d2
 have D3:=later_cell d3
 have D4:=later_cell d4
 have D5:=later_cell d5
 have D6:=later_cell d6
 clear d0 d1 d2 d3 d4 d5 d6
 have hL:∀ q:Lt w1,Later w1 q.v:=fun q=>q.h
 refine wp_region_mix [1,3] [0,2,1,3,4,5,6,7,8] (by kernel_rfl) (by kernel_rfl) ?_
 iterate 2 (refine wpMix_step rfl (fun K hK=>?_);go_simp;refine hK _ _ ?_;clear hK K)
 refine wpMix_step rfl (fun K hK=>?_)
 go_simp
 intro p
 refine (SChars_c (HA1.out.later (hL p)) HCH.out HG.out hl hd).mono ?_
 rintro e w2 ⟨aC,capC,rfl,hsC,hnC,hbC⟩
 refine ⟨_,rfl,hbC,hK _ _ ?_⟩
 clear hK K
 have hl2:Later w1 w2:=(hL p).trans hbC
 have HSC:=Lib.hid hsC;have HNC:=Lib.hid hnC
 clear hsC hnC hbC p hL
 have HGC:=Lib.hid (apOs_gone HCH.out HG.out)
 have HLC:=Lib.hid (apOs_len HCH.out hl)
 refine wpMix_step rfl (fun K hK=>?_)
 go_simp
 intro p
 refine (RDo_c aC capC (apOs s.L s.ds) D 1073741824 p.v (HSC.out.below p.h) HNC.out (by have:=HLC.out;omega) HDT2.out HGC.out).mono ?_
 rintro e w3 ⟨a3,cap3,rfl,ho3,hb3⟩
 rw [doF_code]
 refine ⟨_,rfl,hb3,hK _ _ ?_⟩
 clear hK K ho3
 have hl3:Later w1 w3:=(hl2.trans p.h).trans hb3
 clear hl2 hb3 p HSC HNC HGC HLC D0 D1 D2 D3 D4 D5 D6
 generalize (doF (apOs s.L s.ds) D 1073741824).1.length=n3
 iterate 5 (refine wpMix_step rfl (fun K hK=>?_);go_simp;refine hK _ _ ?_;clear hK K)
 refine wpMix_nil ?_
 intro w4 hL4
 have hl4:Later w1 w4:=hl3.trans hL4
 have HA4:=Lib.hid (HA1.out.later hl4)
 have HD4:=Lib.hid (HDD1.out.later hl4)
 have HZ4:=Lib.hid (HZ1.out.later hl4)
 have HFZ4:=Lib.hid (fun j (hj:j < 7)=>(Below.frozen hl4 (p:=⟨Z,j,none⟩) HZ1.out.lt).trans (HFZ1.out j hj))
 have HM4:=Lib.hid (HM1.out.trans (Moves.of_below (F:=F) hl4) (fun _ _ k=>k))
 clear hl3 hl4 hL4 HA1 HDD1 HZ1 HFZ1 HM1
 by_cases hmd:mayDo (apOs s.L s.ds) D=0
 case neg=>
  have hneB:(mayDo (apOs s.L s.ds) D !=0)=true:=by simpa using hmd
  have HMD:=Lib.hid (show mayDo s.chars (s.deed d)≠0 from by rw [← HDE.out];exact hmd)
  have HME:=Lib.hid (show mayDo s.chars (s.deed d)=mayDo (apOs s.L s.ds) D from by rw [← HDE.out];rfl)
  clear hmd
  generalize mayDo (apOs s.L s.ds) D=code at *
  have HP:=Lib.hid (HZ4.out.putAll zD)
  have HBP:=Lib.hid (putDd_below zD (Below.refl Z w4) (Nat.le_refl _))
  obtain ⟨zlt,z0,z1,z2,z3,z4,z5,z6⟩:=HZ4.out
  have f0:=HFZ4.out 0 (by omega)
  have f1:=HFZ4.out 1 (by omega)
  have f2:=HFZ4.out 2 (by omega)
  have f3:=HFZ4.out 3 (by omega)
  have f4:=HFZ4.out 4 (by omega)
  have f5:=HFZ4.out 5 (by omega)
  have f6:=HFZ4.out 6 (by omega)
  go_wp2
  change bodyPost _ _ _ _ _ (putDd w4 Z zD)
  obtain ⟨_,p0,p1,p2,p3,p4,p5,p6⟩:=HP.out
  refine bodyPost_ret (v:=.tuple #[.agg #[.int .i64 zD.Kind,.int .i64 zD.By,.int .i64 zD.No,.int .i64 zD.Seen,.int .i64 zD.At,.int .i64 zD.Many,.string zD.Text],.int .i64 code]) (by simp [results,Tryz.results98,go_sem,p0,p1,p2,p3,p4,p5,p6]) rfl ?_
  refine Or.inl ⟨HMD.out,by rw [HME.out],HA4.out.above HBP.out (fun k hk=>by have:=HFX.out k hk;omega),HM4.out.above (HBP.out.mono ?_)⟩
  have:=HXW.out;omega
 have hneB:(mayDo (apOs s.L s.ds) D !=0)=false:=by simpa using hmd
 have HMD:=Lib.hid (show mayDo s.chars (s.deed d)=0 from by rw [← HDE.out];exact hmd)
 rw [hmd]
 clear hmd hneB
 obtain ⟨a,cap,oa,ocap,r0,r1,r2,r3,r4,r5⟩:=HA4.out.rows
 have k0:=r1
 have kf:=HA4.out.fz 4 (by omega)
 have hglt:=HA4.out.lt
 go_upto_region 5 with fail
 have HRow:=Lib.hid r3
 have HR5:=Lib.hid r5
 have HR4:=Lib.hid r4
 have HR2:=Lib.hid r2
 have HR0:=Lib.hid r0
 obtain ⟨dlt,d0,d1,d2,d3,d4,d5,d6⟩:=HD4.out
 have hbs:base≤w4.heap.size:=HA4.out.base_le
 have HAd:=Lib.hid HA4.out.drew
 have HRd:=Lib.hid HRow.out.drew
 have HR2d:=Lib.hid HR2.out.drew
 have HDd:=Lib.hid (HD4.out.later (below_drew w4 w4.heap.size))
 have HZd:=Lib.hid (HZ4.out.later (below_drew w4 w4.heap.size))
 have HMd:=Lib.hid (HM4.out.trans (Moves.of_below (F:=F) (below_drew w4 w4.heap.size)) (fun _ _ k=>k))
 have HKd:=Lib.hid (show w4.drew.cell? ⟨g,4,none⟩=some (.slice oa s.ds.length ocap)∧w4.drew.frozen? ⟨g,4,none⟩=false from ⟨k0,kf⟩)
 have HFZd:=Lib.hid (fun j (hj:j < 7)=>show w4.drew.frozen? ⟨Z,j,none⟩=false from HFZ4.out j hj)
 have hXlt:X < w4.heap.size:=dlt
 have hZlt:Z < w4.heap.size:=HZ4.out.lt
 have hbs:base≤w4.drew.heap.size:=hbs
 clear HRow HA4 HD4 HZ4 HFZ4 HM4 HR2 r0 r2 r3 r4 r5
 have hngX:¬ ownB oa ocap=some X:=fun e=>by have:=HFX.out _ (HR5.out _ e).1;omega
 have hngZ:¬ ownB oa ocap=some Z:=fun e=>by have:=HFX.out _ (HR5.out _ e).1;omega
 have HG0:=Lib.hid (show ∀ w6,w4.drew.grownBy w6 (ownB oa ocap)→w6.cell? ⟨g,4,none⟩=some (.slice oa s.ds.length ocap)∧w6.frozen? ⟨g,4,none⟩=false∧DdAt w6 X D∧DdAt w6 Z zD∧(∀ j,j < 7→w6.frozen? ⟨Z,j,none⟩=false) from fun w6 hg6=>by
  have hm6:Moves (fun k=>ownB oa ocap=some k) w4.drew w6:=Moves.of_grown hg6 fun k hk=>hk
  have hn:¬ ownB oa ocap=some g:=fun e=>(HR5.out g e).2.1 rfl
  exact ⟨(hm6.cell hglt hn 4).trans HKd.out.1,(hm6.frozen hglt hn 4).trans HKd.out.2,HDd.out.of_block hm6.size (hm6.block _ hXlt hngX),HZd.out.of_block hm6.size (hm6.block _ hZlt hngZ),fun j hj=>(hm6.frozen hZlt hngZ j).trans (HFZd.out j hj)⟩)
 obtain ⟨iT,zT,hiT,hzT,hsT,hbT,hzsT,hbpT⟩:=ti_Deed
 have hds:(w4.drew.alloc (.cells (Dd.cells D).toArray 122)).heap.size=w4.drew.heap.size+1:=by rw [World.size_alloc]
 have hbsA:base≤(w4.drew.alloc (.cells (Dd.cells D).toArray 122)).heap.size:=by omega
 obtain ⟨a6,cap6,w6,hrun,hown6,hg6',hn6'⟩:=run_append_row2 (P:=Tryz.prog) (w4.drew.alloc (.cells (Dd.cells D).toArray 122)) base 60 60 122 iT zT 7 64 Tryz.underlying60 hiT hzT hsT hbT hzsT oa s.ds.length ocap _ (HRd.out.alloc _)
  (some ⟨w4.drew.heap.size,0,none⟩) 1 1 (Dd.cells D) rfl (.inr ⟨_,rfl,fun j u hu=>by rw [Addr.add_lit,Nat.zero_add,World.cell?_alloc_new];simpa using hu⟩) (Dd.cells_one D) (by unfold maxLen;omega) (by omega) hbsA
 have hg6:w4.drew.grownBy w6 (ownB oa ocap):=⟨hg6'.os,hg6'.tape,hg6'.output,by have:=hg6'.size;omega,fun k hk hne=>(hg6'.block k (by omega) hne).trans (Below.heap_alloc _ _ _ hk)⟩
 have hn6:∀ k,ownB a6 cap6=some k→ownB oa ocap=some k∨w4.drew.heap.size≤k:=fun k hk=>by rcases hn6' k hk with h | h;exact .inl h;exact .inr (by omega)
 have kg1:∀ o,(w4.alloc o).cell? ⟨g,4,none⟩=some (.slice oa s.ds.length ocap):=fun o=>((Below.refl w4.heap.size w4).alloc (Nat.le_refl _) o |>.cell (p:=⟨g,4,none⟩) hglt).trans k0
 have kg:=kg1 (.cells #[.int .i64 D.Kind,.int .i64 D.By,.int .i64 D.No,.int .i64 D.Seen,.int .i64 D.At,.int .i64 D.Many,.string D.Text] 122)
 clear hds kg1 hn6' hg6' hbsA hiT hzT hsT hbT hzsT hbpT r1
 have HRUN:=Lib.hid hrun
 clear hrun
 obtain ⟨kc6,kf6,kdd6,kzz6,kfz6⟩:=HG0.out w6 hg6
 have HDD6:=Lib.hid kdd6
 have HZZ6:=Lib.hid kzz6
 have HFZ6:=Lib.hid kfz6
 have HL7:=Lib.hid (ScrAt.grown (D:=D) HAd.out HR0.out HKd.out.1 HR2d.out HR4.out HR5.out hown6 hg6 hn6)
 have HM6:=Lib.hid (HMd.out.trans (Moves.of_grown (F:=fun k=>ownB oa ocap=some k) hg6 fun k hk=>hk) (fun k _ hk=>(HR5.out k hk).1))
 have HM7:=Lib.hid (HM6.out.trans (Moves.setCell w6 ⟨g,4,none⟩ (.slice a6 (s.ds.length+1) cap6) HFG.out) (fun _ _ k=>k))
 have HDD7:=Lib.hid (HDD6.out.of_block (w':=w6.setCell ⟨g,4,none⟩ (.slice a6 (s.ds.length+1) cap6)) (by simp) (Below.heap_setCell w6 ⟨g,4,none⟩ _ _ (fun e=>by simp at e;omega)))
 have HZZ7:=Lib.hid (HZZ6.out.of_block (w':=w6.setCell ⟨g,4,none⟩ (.slice a6 (s.ds.length+1) cap6)) (by simp) (Below.heap_setCell w6 ⟨g,4,none⟩ _ _ (fun e=>by simp at e;omega)))
 have HFZ7:=Lib.hid (fun j (hj:j < 7)=>show (w6.setCell ⟨g,4,none⟩ (.slice a6 (s.ds.length+1) cap6)).frozen? ⟨Z,j,none⟩=false from (World.frozen?_setCell _ _ _ _).trans (HFZ6.out j hj))
 have hwX:w.heap.size≤w4.drew.heap.size:=HMd.out.size
 have HGR:=Lib.hid (show Grows F w (fun k=>F k∨ownB a6 cap6=some k) from fun k hk=>by
  rcases hk with hk | hk
  ·exact .inl hk
  ·rcases hn6 k hk with h | h
   ·exact .inl (HR5.out k h).1
   ·exact .inr (Nat.le_trans hwX h))
 have h6Z:∀ k,ownB a6 cap6=some k→k≠Z:=fun k hk e=>by
  rcases hn6 k hk with h | h
  ·exact hngZ (e ▸ h)
  ·rw [e] at h;exact absurd hZlt (Nat.not_lt.2 h)
 have H6Z:=Lib.hid h6Z
 clear hown6 hg6 hn6 kdd6 kzz6 kfz6 HDD6 HZZ6 HFZ6 HM6 HMd HKd HDd HZd HFZd HRd HR2d HAd HG0 h6Z
 go_region_law (refine step_known HRUN.out rfl _ _ rfl rfl rfl ?_)
 all_goals
  go_upto_region 6 with fail
  generalize w6.setCell ⟨g,4,none⟩ (.slice a6 (s.ds.length+1) cap6)=w7 at *
  clear d0 d1 d2 d3 d4 d5 d6 dlt k0 kf kg kc6 kf6 HRUN
  have c2:=HL7.out.c2
  have f2:=HL7.out.fz 2 (by omega)
  have hinc:IntKind.i64.wrap (s.next+1)=s.next+1:=by rw [IntKind.wrap_i64];omega
  have HL8:=Lib.hid (HL7.out.setNext (s.next+1))
  have hgF:∀ k,F k∨ownB a6 cap6=some k→k≠Z:=fun k hk e=>by
   rcases hk with h | h
   ·have:=HFX.out k h;omega
   ·exact H6Z.out k h e
  have HGF:=Lib.hid hgF
  have HDD8:=Lib.hid (HDD7.out.of_block (w':=w7.setCell ⟨g,2,none⟩ (.int .i64 (s.next+1))) (by simp) (Below.heap_setCell w7 ⟨g,2,none⟩ _ _ (fun e=>by simp at e;omega)))
  have HZZ8:=Lib.hid (HZZ7.out.of_block (w':=w7.setCell ⟨g,2,none⟩ (.int .i64 (s.next+1))) (by simp) (Below.heap_setCell w7 ⟨g,2,none⟩ _ _ (fun e=>by simp at e;omega)))
  have HFZ8:=Lib.hid (fun j (hj:j < 7)=>show (w7.setCell ⟨g,2,none⟩ (.int .i64 (s.next+1))).frozen? ⟨Z,j,none⟩=false from (World.frozen?_setCell _ _ _ _).trans (HFZ7.out j hj))
  have HM8:=Lib.hid (HM7.out.trans (Moves.setCell w7 ⟨g,2,none⟩ (.int .i64 (s.next+1)) HFG.out) (fun _ _ k=>k))
  clear HL7 HDD7 HZZ7 HFZ7 HM7 hgF
  go_upto_region 7 with fail
  generalize w7.setCell ⟨g,2,none⟩ (.int .i64 (s.next+1))=w8 at *
  clear c2 f2 hinc
  have HP:=Lib.hid (HZZ8.out.putAll D)
  have HBP:=Lib.hid (putDd_below D (Below.refl Z w8) (Nat.le_refl _))
  have HMP:=Lib.hid (putDd_moves w8 Z D)
  obtain ⟨dlt,d0,d1,d2,d3,d4,d5,d6⟩:=HDD8.out
  obtain ⟨zlt,z0,z1,z2,z3,z4,z5,z6⟩:=HZZ8.out
  have f0:=HFZ8.out 0 (by omega)
  have f1:=HFZ8.out 1 (by omega)
  have f2:=HFZ8.out 2 (by omega)
  have f3:=HFZ8.out 3 (by omega)
  have f4:=HFZ8.out 4 (by omega)
  have f5:=HFZ8.out 5 (by omega)
  have f6:=HFZ8.out 6 (by omega)
  go_wp2
  change bodyPost _ _ _ _ _ (putDd w8 Z D)
  obtain ⟨_,p0,p1,p2,p3,p4,p5,p6⟩:=HP.out
  refine bodyPost_ret (v:=.tuple #[.agg #[.int .i64 D.Kind,.int .i64 D.By,.int .i64 D.No,.int .i64 D.Seen,.int .i64 D.At,.int .i64 D.Many,.string D.Text],.int .i64 0]) (by simp [results,Tryz.results98,go_sem,p0,p1,p2,p3,p4,p5,p6]) rfl ?_
  refine Or.inr (And.intro HMD.out (And.intro (by rw [HDE.out]) (Exists.intro (fun k=>F k∨ownB a6 cap6=some k) (And.intro ?_ (And.intro ?_ HGR.out)))))
  ·have h8:=HL8.out.moves HMP.out (fun k hk e=>HGF.out k hk e)
   rw [HDE.out] at h8 ⊢
   exact h8
  ·refine HM8.out.above (HBP.out.mono ?_)
   have:=HXW.out;omega
end Go.Proofs.YtneoeokfffnonaaGreatDoor
namespace Go.Proofs.YtneoeokfffnonaaGreatDoor
open Go.RowKit
theorem chain_gone:∀ (ds:List Dd) (l:List Ch),Chain l ds→(∀ c∈l,i64ok c.Gone)→∀ c∈apOs l ds,i64ok c.Gone:=by
 intro ds
 induction ds with
 | nil=>intro l _ h;exact h
 | cons o os ih=>
  intro l h hG
  refine ih (apO l o) h.2 ?_
  have:=doF_gone l o 1073741824 hG
  rw [doF_ap h.1 (by omega)] at this;exact this
def SHearPost (w:World) (base:Nat) (F:Nat→Prop) (g:Nat) (s:ScV) (d:Dd) (e:Ending) (w' : World):Prop:=
 (d.By≠s.me∧e=.returned (.int .i64 (doF (apOs s.L s.ds) d (s.seen+1)).2)∧Moves F w w'∧((doF (apOs s.L s.ds) d (s.seen+1)).2≠0∧ScrAt w' base F g s∨(doF (apOs s.L s.ds) d (s.seen+1)).2=0∧∃ F',ScrAt w' base F' g { s with L:=(doF s.L d (s.seen+1)).1,seen:=s.seen+1 }∧Grows F w F'))∨
 (d.By=s.me∧(∀ o,s.ds.head? = some o→o≠d)∧e=.returned (.int .i64 12)∧Moves F w w'∧ScrAt w' base F g s)∨
 (d.By=s.me∧∃ os,s.ds=d :: os∧e=.returned (.int .i64 0)∧Moves F w w'∧∃ F',ScrAt w' base F' g { s with L:=(doF s.L d (s.seen+1)).1,ds:=os,sent:=if 0 < s.sent then s.sent - 1 else s.sent,seen:=s.seen+1 }∧Grows F w F')
set_option maxRecDepth 100000 in
set_option maxHeartbeats 2000000 in
theorem SHear_c {w:World} {base:Nat} {F:Nat→Prop} {g:Nat} {s:ScV} (h:ScrAt w base F g s) (hc:Chain s.L s.ds) (hG:∀ c∈s.L,i64ok c.Gone) (hl:s.L.length≤200) (hos:s.ds.length≤1000000) (hsn:0≤s.seen∧s.seen≤1000000) (hse:0≤s.sent∧s.sent≤1000000) (d:Dd) (hdt:d.Text.size≤maxLen) :
 Calls Tryz.prog 102 #[.pointer (some ⟨g,0,none⟩),.agg #[.int .i64 d.Kind,.int .i64 d.By,.int .i64 d.No,.int .i64 d.Seen,.int .i64 d.At,.int .i64 d.Many,.string d.Text]] w (SHearPost w base F g s d):=by
 have hb0:=(Below.refl w.heap.size w).alloc (Nat.le_refl _) (.cells #[.int .i64 d.Kind,.int .i64 d.By,.int .i64 d.No,.int .i64 d.Seen,.int .i64 d.At,.int .i64 d.Many,.string d.Text] 122)
 have HA0:=Lib.hid (h.later hb0)
 have HD0:=Lib.hid (DdAt.new w d)
 have HM0:=Lib.hid (Moves.of_below (F:=F) hb0)
 have HNF:=Lib.hid (show ¬ F w.heap.size from fun hf=>Nat.lt_irrefl _ (h.foot _ hf).2)
 have HFX:=Lib.hid (show ∀ k,F k→k < w.heap.size from fun k hk=>(h.foot k hk).2)
 have HFG:=Lib.hid h.fg
 have HG:=Lib.hid hG
 have HGC:=Lib.hid (chain_gone _ _ hc hG)
 have hcl:(apOs s.L s.ds).length≤200:=chain_small hc hl
 have HC:=Lib.hid hc
 have HDT:=Lib.hid hdt
 have hbs:=h.base_le
 have hinc:IntKind.i64.wrap (s.seen+1)=s.seen+1:=by rw [IntKind.wrap_i64];omega
 clear h hb0 hG hdt hc
 go_enter Tryz.func102,Tryz.ntmps102
 have c1:=HA0.out.c1
 go_upto_region 2 with fail
 clear c1
 generalize hw0:w.alloc _=w0
 have hw0' : w.alloc (.cells #[.int .i64 d.Kind,.int .i64 d.By,.int .i64 d.No,.int .i64 d.Seen,.int .i64 d.At,.int .i64 d.Many,.string d.Text] 122)=w0:=hw0
 rw [hw0'] at HA0 HD0 HM0
 clear hw0 hw0'
 obtain ⟨X,hX⟩:∃ X,X=w.heap.size:=⟨_,rfl⟩
 rw [← hX] at HD0 HNF HFX ⊢
 have hXB:base≤X:=by omega
 have HXW:=Lib.hid hX
 have hXl:X < w0.heap.size:=HD0.out.lt
 clear hX
 obtain ⟨N,hN⟩:∃ N,N=s.seen+1:=⟨_,rfl⟩
 have HNE:=Lib.hid hN
 have hN1:1≤N:=by omega
 rw [← hN]
 clear hN hinc
 have c0:=HA0.out.c0
 obtain ⟨_,_,d1,_,_,_,_,_⟩:=HD0.out
 by_cases hown:d.By=s.me
 case neg=>
  have HOW:=Lib.hid hown
  have hneB:(d.By !=s.me)=true:=by simpa using hown
  have hneD:decide (d.By=s.me)=false:=decide_eq_false hown
  clear hown
  go_quiet (fail)
  have hL1:Later w0 (w0.drewN nq):=bl_drewN (Below.refl _ _) nq
  generalize w0.drewN nq=w1 at *
  have HA1:=Lib.hid (HA0.out.later hL1)
  have HD1:=Lib.hid (HD0.out.later hL1)
  have HM1:=Lib.hid (HM0.out.trans (Moves.of_below (F:=F) hL1) (fun _ _ k=>k))
  clear hL1 c0 d1 HA0 HD0 HM0 hneB hneD hXl
  obtain ⟨dlt,d0,d1,d2,d3,d4,d5,d6⟩:=HD1.out
  have D0:=later_cell d0
  have D1:=later_cell d1
  have D2:=later_cell d2
  have D3:=later_cell d3
  have D4:=later_cell d4
  have D5:=later_cell d5
  have D6:=later_cell d6
  clear d0 d1 d2 d3 d4 d5 d6
  have hL:∀ q:Lt w1,Later w1 q.v:=fun q=>q.h
  go_upto_region 3 with fail
  refine wp_region_mix [1,4] [0,2,3,1,4,5,6,7,8,9] (by kernel_rfl) (by kernel_rfl) ?_
  iterate 3 (refine wpMix_step rfl (fun K hK=>?_);go_simp;refine hK _ _ ?_;clear hK K)
  refine wpMix_step rfl (fun K hK=>?_)
  go_simp
  intro p
  refine (SChars_c (HA1.out.later (hL p)) HC.out HG.out (by omega) hos).mono ?_
  rintro e w2 ⟨a2,cap2,rfl,hs2,hn2,hb2⟩
  refine ⟨_,rfl,hb2,hK _ _ ?_⟩
  clear hK K
  have hl2:Later w1 w2:=(hL p).trans hb2
  have HS2:=Lib.hid hs2;have HN2:=Lib.hid hn2
  clear hs2 hn2 hb2 p hL D0 D1 D2 D3 D4 D5 D6
  refine wpMix_step rfl (fun K hK=>?_)
  go_simp
  intro p
  refine (RDo_c a2 cap2 (apOs s.L s.ds) d N p.v (HS2.out.below p.h) HN2.out (by omega) HDT.out HGC.out).mono ?_
  rintro e w3 ⟨a3,cap3,rfl,ho3,hb3⟩
  refine ⟨_,rfl,hb3,hK _ _ ?_⟩
  clear hK K
  have hl3:Later w1 w3:=(hl2.trans p.h).trans hb3
  clear ho3 hb3 p hl2 HS2 HN2
  iterate 5 (refine wpMix_step rfl (fun K hK=>?_);go_simp;refine hK _ _ ?_;clear hK K)
  refine wpMix_nil ?_
  intro w4 hL4
  have hl4:Below w1.heap.size w1 w4:=hl3.trans hL4
  have HA4:=Lib.hid (HA1.out.later hl4)
  have HD4:=Lib.hid (HD1.out.later hl4)
  have HM4:=Lib.hid (HM1.out.trans (Moves.of_below (F:=F) hl4) (fun _ _ k=>k))
  have hbs4:base≤w4.heap.size:=HA4.out.base_le
  clear hl3 hL4 hl4 HA1 HD1 HM1 dlt
  generalize (doF (apOs s.L s.ds) d N).1.length=len3 at *
  obtain ⟨code,hcode⟩:∃ code,code=(doF (apOs s.L s.ds) d N).2:=⟨_,rfl⟩
  rw [← hcode]
  have HCO:=Lib.hid hcode
  clear hcode
  by_cases hc:code=0
  ·subst hc
   clear hcl
   go_upto_region 6 with fail
   go_cut [] (fun wx=>∃ F6:Nat→Prop,Hid (ScrAt wx base F6 g { s with L:=(doF s.L d N).1 })∧Hid (Moves F w wx)∧Hid (Grows F w F6))
   case first=>
    obtain ⟨_,d0,d1,d2,d3,d4,d5,d6⟩:=HD4.out
    have D0:=later_cell d0
    have D1:=later_cell d1
    have D2:=later_cell d2
    have D3:=later_cell d3
    have D4:=later_cell d4
    have D5:=later_cell d5
    have D6:=later_cell d6
    obtain ⟨a,cap,oa2,ocap2,r0,r1,r2,r3,r4,r5⟩:=HA4.out.rows
    have R0:=later_cell r0
    have HSL:=Lib.hid r2.slCh
    have HNC:=Lib.hid r2.nilcap
    clear d0 d1 d2 d3 d4 d5 d6 r0 r1 r2 r3 r4 r5
    have hL:∀ q:Lt w4,Later w4 q.v:=fun q=>q.h
    refine MG.wp_region_mixf [7] [13] (.ops [0,1,2,3,4,5,6,7,8,9,11,12] (.fork 10 (.ops [13] .nil) 13 (.ops [10] .nil))) (by kernel_rfl) (by kernel_rfl) ?_
    iterate 7 (refine MG.wpMixF_step rfl (fun K hK=>?_);go_simp;refine hK _ _ ?_;clear hK K)
    refine MG.wpMixF_step rfl (fun K hK=>?_)
    go_simp
    intro p
    refine (RDo_c a cap s.L d N p.v (HSL.out.below p.h) HNC.out (by omega) HDT.out HG.out).mono ?_
    rintro e w5 ⟨a5,cap5,rfl,ho5,hb5⟩
    refine ⟨_,rfl,hb5,hK _ _ ?_⟩
    clear hK K
    have hl5:Later w4 w5:=(hL p).trans hb5
    have HO5:=Lib.hid (ho5.mono (show w4.heap.size≤p.v.heap.size from (hL p).size))
    clear ho5 hb5 p hL D0 D1 D2 D3 D4 D5 D6 R0 HSL HNC
    iterate 4 (refine MG.wpMixF_step rfl (fun K hK=>?_);go_simp;refine hK _ _ ?_;clear hK K)
    have HWX:=Lib.hid (show w.heap.size≤w4.heap.size from HM4.out.size)
    have HSTO:=Lib.hid (fun (p:World) (h5:Later w5 p) (w6:World) (h6:Later (p.setCell ⟨g,3,none⟩ (.slice a5 (doF s.L d N).1.length cap5)) w6)=>show ∃ F6:Nat→Prop,Hid (ScrAt w6 base F6 g { s with L:=(doF s.L d N).1 })∧Hid (Moves F w w6)∧Hid (Grows F w F6) from by
     have hnF:∀ k,ownB a5 cap5=some k→¬ F k:=fun k hk hf=>by
      have h1:=(HO5.out.base_le k hk).1;have h2:=(HA4.out.foot k hf).2;omega
     have hE:=(HA4.out.later (hl5.trans h5)).setList a5 cap5 (doF s.L d N).1 ((HO5.out.below h5).mono hbs4) hnF
     have hM:=(HM4.out.trans (Moves.of_below (F:=F) (hl5.trans h5)) (fun _ _ k=>k)).trans (Moves.setCell p ⟨g,3,none⟩ (.slice a5 (doF s.L d N).1.length cap5) HFG.out) (fun _ _ k=>k)
     refine ⟨fun k=>F k∨ownB a5 cap5=some k,Lib.hid (hE.later h6),Lib.hid (hM.trans (Moves.of_below (F:=F) h6) (fun _ _ k=>k)),Lib.hid fun k hk=>?_⟩
     rcases hk with hk | hk
     ·exact .inl hk
     ·exact .inr (Nat.le_trans HWX.out (HO5.out.base_le k hk).1))
    have HCL:=Lib.hid (fun (p:World) (h5:Later w5 p)=>show (∃ v,p.cell? ⟨g,3,none⟩=some v)∧p.frozen? ⟨g,3,none⟩=false from by
     have h1:=HA4.out.later (hl5.trans h5)
     obtain ⟨_,_,_,_,hc,_⟩:=h1.rows
     exact ⟨⟨_,hc⟩,h1.fz 3 (by omega)⟩)
    clear HO5 HA4 HD4 HM4 hl5
    refine MG.wpMixF_fork ?_ ?_
    ·refine MG.wpCut_step rfl (fun K hK=>?_)
     go_simp
     intro p
     refine hK _ _ ?_
     clear hK K
     have hp5:=p.h
     generalize p.v=w5b at *
     refine MG.wpMixF_step rfl (fun K hK=>?_)
     have HCLp:=Lib.hid (fun (p:Lt w5b)=>HCL.out p.v (Later.trans hp5 p.h))
     have HST5:=Lib.hid (fun (p:Lt w5b)=>HSTO.out p.v (Later.trans hp5 p.h))
     clear hp5 HSTO HCL
     go_simp
     intro p
     obtain ⟨⟨v3,hcell⟩,hfz⟩:=HCLp.out p
     go_simp
     refine hK _ _ ?_
     clear hK K hcell hfz HCLp
     refine MG.wpMixF_nil ?_
     intro w6 hL6
     have HST6:=Lib.hid (HST5.out p w6 hL6)
     clear HST5 hL6 p
     go_wp2
     go_meet
     exact HST6.out
    ·refine MG.wpCut_step rfl (fun K hK=>?_)
     have HCLp:=Lib.hid (fun (p:Lt w5)=>HCL.out p.v p.h)
     have HST5:=Lib.hid (fun (p:Lt w5)=>HSTO.out p.v p.h)
     clear HSTO HCL
     go_simp
     intro p
     obtain ⟨⟨v3,hcell⟩,hfz⟩:=HCLp.out p
     go_simp
     refine hK _ _ ?_
     clear hK K hcell hfz HCLp
     have HST6:=Lib.hid (fun w6 h6=>HST5.out p w6 h6)
     clear HST5
     generalize p.v.setCell ⟨g,3,none⟩ (.slice a5 (doF s.L d N).1.length cap5)=w5c at *
     clear p
     iterate 1 (refine MG.wpMixF_step rfl (fun K hK=>?_);go_simp;refine hK _ _ ?_;clear hK K)
     refine MG.wpMixF_nil ?_
     intro w6 hL6
     have HST7:=Lib.hid (HST6.out w6 hL6)
     clear HST6 hL6
     go_wp2
     go_meet
     exact HST7.out
   case rest=>
    obtain ⟨F6,HE6,HM6,HGR⟩:=hcut
    clear HA4 HD4 HM4
    generalize wc=w6 at *
    have c1:=HE6.out.c1
    have f1:=HE6.out.fz 1 (by omega)
    have HE7:=Lib.hid (HE6.out.setSeen N)
    have HM7:=Lib.hid (HM6.out.trans (Moves.setCell w6 ⟨g,1,none⟩ (.int .i64 N) HFG.out) (fun _ _ k=>k))
    go_wp2
    go_ret
    refine Or.inl ⟨HOW.out,?_,HM7.out,Or.inr ⟨?_,_,?_,HGR.out⟩⟩
    ·rw [← HNE.out,← HCO.out];rfl
    ·rw [← HNE.out];exact HCO.out.symm
    ·rw [← HNE.out];exact HE7.out
  ·have hcB:(code !=0)=true:=by simpa using hc
   have hcD:decide (code=0)=false:=decide_eq_false hc
   have HCN:=Lib.hid hc
   clear hc
   go_wp2
   go_ret
   refine Or.inl ⟨HOW.out,?_,HM4.out,Or.inl ⟨?_,HA4.out⟩⟩
   ·rw [← HNE.out,← HCO.out];rfl
   ·rw [← HNE.out,← HCO.out];exact HCN.out
 case pos=>
  have HOW:=Lib.hid hown
  rw [hown] at d1
  clear hown hcl
  go_quiet (fail)
  have hL1:Later w0 (w0.drewN nq):=bl_drewN (Below.refl _ _) nq
  generalize w0.drewN nq=w1 at *
  have HA1:=Lib.hid (HA0.out.later hL1)
  have HD1:=Lib.hid (HD0.out.later hL1)
  have HM1:=Lib.hid (HM0.out.trans (Moves.of_below (F:=F) hL1) (fun _ _ k=>k))
  clear hL1 c0 d1 HA0 HD0 HM0 hXl
  obtain ⟨dlt,d0,d1,d2,d3,d4,d5,d6⟩:=HD1.out
  obtain ⟨a,cap,oa,ocap,r0,r1,r2,r3,r4,r5⟩:=HA1.out.rows
  clear r0 r2 r4 r5
  cases hds:s.ds with
  | nil=>
   have HNO:=Lib.hid (show ∀ o,s.ds.head? = some o→o≠d from fun o ho=>by rw [hds] at ho;cases ho)
   have c4:w1.cell? ⟨g,4,none⟩=some (.slice oa 0 ocap):=by rw [hds] at r1;exact r1
   clear r1 r3 hds
   go_upto_region 9 with fail
   go_quiet (fail)
   have hL2:Later w1 (w1.drewN nq):=bl_drewN (Below.refl _ _) nq
   generalize w1.drewN nq=w2 at *
   have HA2:=Lib.hid (HA1.out.later hL2)
   have HM2:=Lib.hid (HM1.out.trans (Moves.of_below (F:=F) hL2) (fun _ _ k=>k))
   clear hL2 HA1 HD1 HM1 c4 d0 d1 d2 d3 d4 d5 d6 dlt
   go_wp2
   go_ret
   exact Or.inr (Or.inl ⟨HOW.out,HNO.out,rfl,HM2.out,HA2.out⟩)
  | cons e0 es=>
   have HDS:=Lib.hid hds
   obtain ⟨bb,off,eoa,q0,q1,q2,q3,q4,q5,q6⟩:=r3.slDd.nth (show 0 < s.ds.length from by rw [hds];simp)
   subst eoa
   simp only [Nat.zero_mul,Nat.add_zero] at q0 q1 q2 q3 q4 q5 q6
   have e00:s.ds[0]'(by rw [hds];simp)=e0:=by simp only [hds,List.getElem_cons_zero]
   rw [e00] at q0 q1 q2 q3 q4 q5 q6
   have hgd:=guard_DeedW
   have hneq:=neq_Deed e0 d
   obtain ⟨nn,hnn⟩:∃ nn,nn=s.ds.length:=⟨_,rfl⟩
   have hnn1:nn=es.length+1:=by rw [hnn,hds];rfl
   have hnnS:nn≤1000000:=by rw [hnn];exact hos
   rw [← hnn] at r1
   have hoc:nn≤ocap:=by rw [hnn];exact r3.le
   have HN1:=Lib.hid hnn1
   have HNN:=Lib.hid hnn
   have hlpos:(0:Int) < (nn:Int):=by omega
   have hlp0:0 < nn:=by omega
   have hlne:((nn:Int)==0)=false:=by rw [beq_eq_false_iff_ne];omega
   have hlnd:decide ((nn:Int)=0)=false:=decide_eq_false (by omega)
   clear hnn hnn1 hds e00 r3 hos
   go_upto_region 9 with fail
   by_cases hde:e0=d
   ·have HDE:=Lib.hid hde
    have hdeB:decide (e0=d)=true:=decide_eq_true hde
    clear hde
    go_quiet (fail)
    have hL2:Later w1 (w1.drewN nq):=bl_drewN (Below.refl _ _) nq
    generalize w1.drewN nq=w2 at *
    have HA2:=Lib.hid (HA1.out.later hL2)
    have HM2:=Lib.hid (HM1.out.trans (Moves.of_below (F:=F) hL2) (fun _ _ k=>k))
    have HD2:=Lib.hid (HD1.out.later hL2)
    clear hL2 HA1 HD1 HM1 r1 d0 d1 d2 d3 d4 d5 d6 dlt q0 q1 q2 q3 q4 q5 q6 hneq hgd hdeB
    have hbs2:base≤w2.heap.size:=HA2.out.base_le
    go_upto_region 11 with fail
    go_cut [] (fun wx=>∃ F6:Nat→Prop,Hid (ScrAt wx base F6 g { s with L:=(doF s.L d N).1 })∧Hid (Moves F w wx)∧Hid (Grows F w F6))
    case first=>
     obtain ⟨_,d0,d1,d2,d3,d4,d5,d6⟩:=HD2.out
     have D0:=later_cell d0
     have D1:=later_cell d1
     have D2:=later_cell d2
     have D3:=later_cell d3
     have D4:=later_cell d4
     have D5:=later_cell d5
     have D6:=later_cell d6
     obtain ⟨a,cap,oa2,ocap2,r0,r1,r2,r3,r4,r5⟩:=HA2.out.rows
     have R0:=later_cell r0
     have HSL:=Lib.hid r2.slCh
     have HNC:=Lib.hid r2.nilcap
     clear d0 d1 d2 d3 d4 d5 d6 r0 r1 r2 r3 r4 r5
     have hL:∀ q:Lt w2,Later w2 q.v:=fun q=>q.h
     refine MG.wp_region_mixf [7] [13] (.ops [0,1,2,3,4,5,6,7,8,9,11,12] (.fork 10 (.ops [13] .nil) 13 (.ops [10] .nil))) (by kernel_rfl) (by kernel_rfl) ?_
     iterate 7 (refine MG.wpMixF_step rfl (fun K hK=>?_);go_simp;refine hK _ _ ?_;clear hK K)
     refine MG.wpMixF_step rfl (fun K hK=>?_)
     go_simp
     intro p
     refine (RDo_c a cap s.L d N p.v (HSL.out.below p.h) HNC.out (by omega) HDT.out HG.out).mono ?_
     rintro e w5 ⟨a5,cap5,rfl,ho5,hb5⟩
     refine ⟨_,rfl,hb5,hK _ _ ?_⟩
     clear hK K
     have hl5:Later w2 w5:=(hL p).trans hb5
     have HO5:=Lib.hid (ho5.mono (show w2.heap.size≤p.v.heap.size from (hL p).size))
     clear ho5 hb5 p hL D0 D1 D2 D3 D4 D5 D6 R0 HSL HNC
     iterate 4 (refine MG.wpMixF_step rfl (fun K hK=>?_);go_simp;refine hK _ _ ?_;clear hK K)
     have HWX:=Lib.hid (show w.heap.size≤w2.heap.size from HM2.out.size)
     have HSTO:=Lib.hid (fun (p:World) (h5:Later w5 p) (w6:World) (h6:Later (p.setCell ⟨g,3,none⟩ (.slice a5 (doF s.L d N).1.length cap5)) w6)=>show ∃ F6:Nat→Prop,Hid (ScrAt w6 base F6 g { s with L:=(doF s.L d N).1 })∧Hid (Moves F w w6)∧Hid (Grows F w F6) from by
      have hnF:∀ k,ownB a5 cap5=some k→¬ F k:=fun k hk hf=>by
       have h1:=(HO5.out.base_le k hk).1;have h2:=(HA2.out.foot k hf).2;omega
      have hE:=(HA2.out.later (hl5.trans h5)).setList a5 cap5 (doF s.L d N).1 ((HO5.out.below h5).mono hbs2) hnF
      have hM:=(HM2.out.trans (Moves.of_below (F:=F) (hl5.trans h5)) (fun _ _ k=>k)).trans (Moves.setCell p ⟨g,3,none⟩ (.slice a5 (doF s.L d N).1.length cap5) HFG.out) (fun _ _ k=>k)
      refine ⟨fun k=>F k∨ownB a5 cap5=some k,Lib.hid (hE.later h6),Lib.hid (hM.trans (Moves.of_below (F:=F) h6) (fun _ _ k=>k)),Lib.hid fun k hk=>?_⟩
      rcases hk with hk | hk
      ·exact .inl hk
      ·exact .inr (Nat.le_trans HWX.out (HO5.out.base_le k hk).1))
     have HCL:=Lib.hid (fun (p:World) (h5:Later w5 p)=>show (∃ v,p.cell? ⟨g,3,none⟩=some v)∧p.frozen? ⟨g,3,none⟩=false from by
      have h1:=HA2.out.later (hl5.trans h5)
      obtain ⟨_,_,_,_,hc,_⟩:=h1.rows
      exact ⟨⟨_,hc⟩,h1.fz 3 (by omega)⟩)
     clear HO5 HA2 HD2 HM2 hl5
     refine MG.wpMixF_fork ?_ ?_
     ·refine MG.wpCut_step rfl (fun K hK=>?_)
      go_simp
      intro p
      refine hK _ _ ?_
      clear hK K
      have hp5:=p.h
      generalize p.v=w5b at *
      refine MG.wpMixF_step rfl (fun K hK=>?_)
      have HCLp:=Lib.hid (fun (p:Lt w5b)=>HCL.out p.v (Later.trans hp5 p.h))
      have HST5:=Lib.hid (fun (p:Lt w5b)=>HSTO.out p.v (Later.trans hp5 p.h))
      clear hp5 HSTO HCL
      go_simp
      intro p
      obtain ⟨⟨v3,hcell⟩,hfz⟩:=HCLp.out p
      go_simp
      refine hK _ _ ?_
      clear hK K hcell hfz HCLp
      refine MG.wpMixF_nil ?_
      intro w6 hL6
      have HST6:=Lib.hid (HST5.out p w6 hL6)
      clear HST5 hL6 p
      go_wp2
      go_meet
      exact HST6.out
     ·refine MG.wpCut_step rfl (fun K hK=>?_)
      have HCLp:=Lib.hid (fun (p:Lt w5)=>HCL.out p.v p.h)
      have HST5:=Lib.hid (fun (p:Lt w5)=>HSTO.out p.v p.h)
      clear HSTO HCL
      go_simp
      intro p
      obtain ⟨⟨v3,hcell⟩,hfz⟩:=HCLp.out p
      go_simp
      refine hK _ _ ?_
      clear hK K hcell hfz HCLp
      have HST6:=Lib.hid (fun w6 h6=>HST5.out p w6 h6)
      clear HST5
      generalize p.v.setCell ⟨g,3,none⟩ (.slice a5 (doF s.L d N).1.length cap5)=w5c at *
      clear p
      iterate 1 (refine MG.wpMixF_step rfl (fun K hK=>?_);go_simp;refine hK _ _ ?_;clear hK K)
      refine MG.wpMixF_nil ?_
      intro w6 hL6
      have HST7:=Lib.hid (HST6.out w6 hL6)
      clear HST6 hL6
      go_wp2
      go_meet
      exact HST7.out
    case rest=>
     obtain ⟨F6,HE6,HM6,HGR⟩:=hcut
     clear HA2 HD2 HM2
     generalize wc=w6 at *
     obtain ⟨_,_,oa3,ocap3,_,r1o,_,r3,_,r5⟩:=HE6.out.rows
     have r1:w6.cell? ⟨g,4,none⟩=some (.slice oa3 nn ocap3):=by rw [HNN.out];exact r1o
     have f4:=HE6.out.fz 4 (by omega)
     have hoc3:nn≤ocap3:=by rw [HNN.out];exact r3.le
     have r3' : OwnRow w6 base 122 7 oa3 s.ds.length ocap3 (flatD s.ds):=r3
     rw [HDS.out] at r3'
     obtain ⟨b3,off3,eoa,hb3,hlt3,hcell3⟩:=r3'.cell (by rw [flatD_length];simp)
     subst eoa
     have HCE:=Lib.hid (show ∀ j u,(flatD es)[j]? = some u→w6.cell? ((⟨b3,off3+7,none⟩:Addr).add j)=some u from fun j u hu=>by
      have:=hcell3 (7+j) u (by rw [flatD_cons,List.getElem?_append_right (by show 7≤7+j;omega)];show (flatD es)[7+j - 7]? = _;rw [Nat.add_sub_cancel_left];exact hu)
      rw [Addr.add_lit,Nat.add_assoc];exact this)
     have hsz6:base≤w6.heap.size:=HE6.out.base_le
     have HNL:=Lib.hid (show nn - 1=es.length from by rw [HN1.out];rfl)
     have hbig:(0+(nn - 1)) * 64≤140737488355328:=by omega
     clear r1o r3 r3' r5 hcell3 hb3
     by_cases hc1:ocap3=1
     ·subst hc1
      have hnn2:nn=1:=by omega
      have HES:=Lib.hid (show es=[] from List.eq_nil_of_length_eq_zero (by have:=HN1.out;omega))
      subst hnn2
      go_wp2_with (at_builtin;refine wpList_append_row _ rfl (.tmp 79) (.tmp 84) 60 rfl w6.heap.size 122 7 64 Tryz.underlying60 ti_Deed none 0 0 [] rfl (OwnRow.nil _ _ _ _ _) (some ⟨b3,off3,none⟩) 0 0 [] rfl rfl (.inl rfl) (fun u hu=>by cases hu) (by omega) (Nat.le_refl _) ?_)
      intro a7 cap7 w7 hown7 hg7 hx7 hy7
      clear hx7 hy7
      have hb7:Below w6.heap.size w6 w7:=below_grownBy hg7 (Nat.le_refl _) (fun k hk=>by simp [ownB] at hk)
      have HO7:=Lib.hid (show OwnRow w7 w6.heap.size 122 7 a7 ([]:List Dd).length cap7 (flatD []) from by simpa [flatD] using hown7)
      have HE7:=Lib.hid (HE6.out.later hb7)
      have HM7:=Lib.hid (HM6.out.trans (Moves.of_below (F:=F) hb7) (fun _ _ k=>k))
      have r1:=(hb7.cell (p:=⟨g,4,none⟩) HE6.out.lt).trans r1
      have f4:=(hb7.frozen (p:=⟨g,4,none⟩) HE6.out.lt).trans f4
      have HE8:=Lib.hid (HE7.out.setOpen a7 cap7 [] (HO7.out.mono hsz6) (fun k hk hf=>by
       have h1:=(HO7.out.base_le k hk).1;have h2:=(HE6.out.foot k hf).2;omega))
      have HM8:=Lib.hid (HM7.out.trans (Moves.setCell w7 ⟨g,4,none⟩ (.slice a7 0 cap7) HFG.out) (fun _ _ k=>k))
      have hwx:w.heap.size≤w6.heap.size:=HM6.out.size
      have HG8:=Lib.hid (show Grows F w (fun k=>F6 k∨ownB a7 cap7=some k) from fun k hk=>by
       rcases hk with hk | hk
       ·exact HGR.out k hk
       ·exact .inr (Nat.le_trans hwx (HO7.out.base_le k hk).1))
      clear hown7 hg7 hb7 HE6 HE7 HM6 HM7 HO7 HGR HCE hwx hlt3 hoc3 hbig
      go_upto_region 14 with fail
      clear r1 f4
      generalize w7.setCell ⟨g,4,none⟩ (.slice a7 0 cap7)=w8 at *
      have c5:w8.cell? ⟨g,5,none⟩=some (.int .i64 s.sent):=HE8.out.c5
      have f5:=HE8.out.fz 5 (by omega)
      have c1:w8.cell? ⟨g,1,none⟩=some (.int .i64 s.seen):=HE8.out.c1
      have f1:=HE8.out.fz 1 (by omega)
      have HDL:=Lib.hid (show s.ds=d :: [] from by rw [HDS.out,HES.out,HDE.out])
      by_cases hs0:0 < s.sent
      ·have hs0B:decide (0 < s.sent)=true:=decide_eq_true hs0
       have hdec:IntKind.i64.wrap (s.sent - 1)=s.sent - 1:=by rw [IntKind.wrap_i64];omega
       have HE9:=Lib.hid ((HE8.out.setSent (s.sent - 1)).setSeen N)
       have HM9:=Lib.hid ((HM8.out.trans (Moves.setCell w8 ⟨g,5,none⟩ (.int .i64 (s.sent - 1)) HFG.out) (fun _ _ k=>k)).trans (Moves.setCell _ ⟨g,1,none⟩ (.int .i64 N) HFG.out) (fun _ _ k=>k))
       have HSE:=Lib.hid (show (if 0 < s.sent then s.sent - 1 else s.sent)=s.sent - 1 from if_pos hs0)
       clear HE8 HM8
       go_wp2
       go_ret
       refine Or.inr (Or.inr ⟨HOW.out,[],HDL.out,rfl,HM9.out,_,?_,HG8.out⟩)
       rw [HSE.out,← HNE.out];exact HE9.out
      ·have hs0B:decide (0 < s.sent)=false:=decide_eq_false hs0
       have HE9:=Lib.hid (HE8.out.setSeen N)
       have HM9:=Lib.hid (HM8.out.trans (Moves.setCell w8 ⟨g,1,none⟩ (.int .i64 N) HFG.out) (fun _ _ k=>k))
       have HSE:=Lib.hid (show (if 0 < s.sent then s.sent - 1 else s.sent)=s.sent from if_neg hs0)
       clear HE8 HM8
       go_wp2
       go_ret
       refine Or.inr (Or.inr ⟨HOW.out,[],HDL.out,rfl,HM9.out,_,?_,HG8.out⟩)
       rw [HSE.out,← HNE.out];exact HE9.out
     ·have hcs:ocap3 - 1≠0:=by omega
      have hcs2:¬ ocap3≤1:=by omega
      have hcs3:1 < ocap3:=by omega
      have hcs4:(1:Int) < (ocap3:Int):=by omega
      have h1n:(1:Int)≤(nn:Int):=by omega
      go_wp2_with (at_builtin;refine wpList_append_row _ rfl (.tmp 79) (.tmp 84) 60 rfl w6.heap.size 122 7 64 Tryz.underlying60 ti_Deed none 0 0 [] rfl (OwnRow.nil _ _ _ _ _) (some ⟨b3,off3+7,none⟩) (nn - 1) (ocap3 - 1) (flatD es) rfl (by rw [flatD_length,HNL.out]) (.inr ⟨_,rfl,HCE.out⟩) (flatD_one es) hbig (Nat.le_refl _) ?_)
      intro a7 cap7 w7 hown7 hg7 hx7
      clear hx7
      have hb7:Below w6.heap.size w6 w7:=below_grownBy hg7 (Nat.le_refl _) (fun k hk=>by simp [ownB] at hk)
      have HO7:=Lib.hid (show OwnRow w7 w6.heap.size 122 7 a7 (nn - 1) cap7 (flatD es) from by simpa using hown7)
      have HE7:=Lib.hid (HE6.out.later hb7)
      have HM7:=Lib.hid (HM6.out.trans (Moves.of_below (F:=F) hb7) (fun _ _ k=>k))
      have r1:=(hb7.cell (p:=⟨g,4,none⟩) HE6.out.lt).trans r1
      have f4:=(hb7.frozen (p:=⟨g,4,none⟩) HE6.out.lt).trans f4
      have HE8:=Lib.hid (show ScrAt (w7.setCell ⟨g,4,none⟩ (.slice a7 (nn - 1) cap7)) base (fun k=>F6 k∨ownB a7 cap7=some k) g { s with L:=(doF s.L d N).1,ds:=es } from by
       rw [HNL.out]
       exact HE7.out.setOpen a7 cap7 es (by rw [← HNL.out];exact HO7.out.mono hsz6) (fun k hk hf=>by
        have h1:=(HO7.out.base_le k hk).1;have h2:=(HE6.out.foot k hf).2;omega))
      have HM8:=Lib.hid (HM7.out.trans (Moves.setCell w7 ⟨g,4,none⟩ (.slice a7 (nn - 1) cap7) HFG.out) (fun _ _ k=>k))
      have hwx:w.heap.size≤w6.heap.size:=HM6.out.size
      have HG8:=Lib.hid (show Grows F w (fun k=>F6 k∨ownB a7 cap7=some k) from fun k hk=>by
       rcases hk with hk | hk
       ·exact HGR.out k hk
       ·exact .inr (Nat.le_trans hwx (HO7.out.base_le k hk).1))
      clear hown7 hg7 hb7 HE6 HE7 HM6 HM7 HO7 HGR HCE hwx hlt3 hoc3 hbig
      go_upto_region 14 with fail
      clear r1 f4
      generalize w7.setCell ⟨g,4,none⟩ (.slice a7 (nn - 1) cap7)=w8 at *
      have c5:w8.cell? ⟨g,5,none⟩=some (.int .i64 s.sent):=HE8.out.c5
      have f5:=HE8.out.fz 5 (by omega)
      have c1:w8.cell? ⟨g,1,none⟩=some (.int .i64 s.seen):=HE8.out.c1
      have f1:=HE8.out.fz 1 (by omega)
      have HDL:=Lib.hid (show s.ds=d :: es from by rw [HDS.out,HDE.out])
      by_cases hs0:0 < s.sent
      ·have hs0B:decide (0 < s.sent)=true:=decide_eq_true hs0
       have hdec:IntKind.i64.wrap (s.sent - 1)=s.sent - 1:=by rw [IntKind.wrap_i64];omega
       have HE9:=Lib.hid ((HE8.out.setSent (s.sent - 1)).setSeen N)
       have HM9:=Lib.hid ((HM8.out.trans (Moves.setCell w8 ⟨g,5,none⟩ (.int .i64 (s.sent - 1)) HFG.out) (fun _ _ k=>k)).trans (Moves.setCell _ ⟨g,1,none⟩ (.int .i64 N) HFG.out) (fun _ _ k=>k))
       have HSE:=Lib.hid (show (if 0 < s.sent then s.sent - 1 else s.sent)=s.sent - 1 from if_pos hs0)
       clear HE8 HM8
       go_wp2
       go_ret
       refine Or.inr (Or.inr ⟨HOW.out,es,HDL.out,rfl,HM9.out,_,?_,HG8.out⟩)
       rw [HSE.out,← HNE.out];exact HE9.out
      ·have hs0B:decide (0 < s.sent)=false:=decide_eq_false hs0
       have HE9:=Lib.hid (HE8.out.setSeen N)
       have HM9:=Lib.hid (HM8.out.trans (Moves.setCell w8 ⟨g,1,none⟩ (.int .i64 N) HFG.out) (fun _ _ k=>k))
       have HSE:=Lib.hid (show (if 0 < s.sent then s.sent - 1 else s.sent)=s.sent from if_neg hs0)
       clear HE8 HM8
       go_wp2
       go_ret
       refine Or.inr (Or.inr ⟨HOW.out,es,HDL.out,rfl,HM9.out,_,?_,HG8.out⟩)
       rw [HSE.out,← HNE.out];exact HE9.out
   ·have hdeB:decide (e0=d)=false:=decide_eq_false hde
    have HNO:=Lib.hid (show ∀ o,s.ds.head? = some o→o≠d from fun o ho=>by
     rw [HDS.out] at ho;simp at ho;subst ho;exact hde)
    clear hde
    go_quiet (fail)
    have hL2:Later w1 (w1.drewN nq):=bl_drewN (Below.refl _ _) nq
    generalize w1.drewN nq=w2 at *
    have HA2:=Lib.hid (HA1.out.later hL2)
    have HM2:=Lib.hid (HM1.out.trans (Moves.of_below (F:=F) hL2) (fun _ _ k=>k))
    clear hL2 HA1 HD1 HM1 r1 d0 d1 d2 d3 d4 d5 d6 dlt q0 q1 q2 q3 q4 q5 q6 hneq hgd
    go_wp2
    go_ret
    exact Or.inr (Or.inl ⟨HOW.out,HNO.out,rfl,HM2.out,HA2.out⟩)
end Go.Proofs.YtneoeokfffnonaaGreatDoor
set_option linter.unusedVariables false
set_option linter.unusedSimpArgs false
namespace Go.Proofs.YtneoeokfffnonaaGreatDoor
open Go.RowKit
def leastD (ds:List Dd) (n:Nat) (seen:Int):Int:=match ds.drop n with
 | []=>seen
 | u :: _=>u.Seen
theorem leastD_at (ds:List Dd) (n:Nat) (seen:Int) (h:n < ds.length):leastD ds n seen=ds[n].Seen:=by
 unfold leastD;rw [List.drop_eq_getElem_cons h]
theorem leastD_end (ds:List Dd) (n:Nat) (seen:Int) (h:ds.length≤n):leastD ds n seen=seen:=by
 unfold leastD;rw [List.drop_of_length_le h]
section
variable {w:World} {base:Nat} {F:Nat→Prop} {g:Nat} {s:ScV}
theorem SLeast_c (h:ScrAt w base F g s) (n:Nat) (hn:s.sent=n) (hd:s.ds.length≤1000000) :
 Calls Tryz.prog 104 #[.pointer (some ⟨g,0,none⟩)] w fun e w'=>e=.returned (.int .i64 (leastD s.ds n s.seen))∧Below w.heap.size w w':=by
 obtain ⟨a,cap,oa,ocap,r0,r1,r2,r3,r4,r5⟩:=h.rows
 have HSD:=Lib.hid r3.slDd
 have hglt:=h.lt
 have c5:=h.c5
 rw [hn] at c5
 have c1:=h.c1
 clear r0 r2 r3 r4 r5 h hn
 go_enter Tryz.func104,Tryz.ntmps104
 by_cases hlt:n < s.ds.length
 ·obtain ⟨bb,off,rfl,hq⟩:=HSD.out.nth hlt
  have HLE:=Lib.hid (leastD_at s.ds n s.seen hlt)
  have hlt' : (n:Int) < s.ds.length:=by omega
  have hn0:(0:Int)≤(n:Int):=by omega
  have hltB:decide ((n:Int) < (s.ds.length:Int))=true:=decide_eq_true hlt'
  generalize s.ds[n]=d at *
  have HQ:=Lib.hid hq
  clear hq
  go_upto_region 1 with fail
  go_quiet (fail)
  have hL1:Later w (w.drewN nq):=bl_drewN (Below.refl _ _) nq
  generalize w.drewN nq=w1 at *
  have r1:=(hL1.cell (p:=⟨g,4,none⟩) hglt).trans r1
  have c5:=(hL1.cell (p:=⟨g,5,none⟩) hglt).trans c5
  have q3:=(HQ.out.below hL1 HQ.out.lt).2.2.2.1
  clear c1
  go_upto_region 2 with fail
  go_quiet (fail)
  have hL2:Later w1 (w1.drewN nq):=bl_drewN (Below.refl _ _) nq
  generalize w1.drewN nq=w2 at *
  have HL2:=Lib.hid (hL1.trans hL2)
  clear r1 c5 q3 hL1 hL2
  go_wp2
  go_ret
  exact ⟨by rw [HLE.out];rfl,HL2.out⟩
 ·have HLE:=Lib.hid (leastD_end s.ds n s.seen (by omega))
  have hltB:decide ((n:Int) < (s.ds.length:Int))=false:=decide_eq_false (by omega)
  go_upto_region 1 with fail
  go_quiet (fail)
  have hL1:Later w (w.drewN nq):=bl_drewN (Below.refl _ _) nq
  generalize w.drewN nq=w1 at *
  have c1:=(hL1.cell (p:=⟨g,1,none⟩) hglt).trans c1
  clear r1 c5
  go_wp2
  go_ret
  exact ⟨by rw [HLE.out];rfl,hL1⟩
set_option maxRecDepth 100000 in
theorem ScText_c (h:ScrAt w base F g s) (hc:Chain s.L s.ds) (hG:∀ c∈s.L,i64ok c.Gone) (hl:s.L.length≤1000) (hd:s.ds.length≤1000000) :
 Calls Tryz.prog 36 #[.pointer (some ⟨g,0,none⟩)] w fun e w'=>e=.returned (.string (strOfNums (viewN s.seen s.me (apOs s.L s.ds))))∧Below w.heap.size w w':=by
 have HA:=Lib.hid h
 have c0:=h.c0
 have c1:=h.c1
 have HC:=Lib.hid hc
 have HG:=Lib.hid hG
 have HGC:=Lib.hid (apOs_gone hc hG)
 clear h hc hG
 have C0:=later_cell c0
 have C1:=later_cell c1
 clear c0 c1
 have hL:∀ q:Lt w,Later w q.v:=fun q=>q.h
 go_enter Tryz.func36,Tryz.ntmps36
 go_upto_region 1 with fail
 refine wp_region_mix [1] [0,2,3,4,5,6,7,8,9,1,10,11] (by kernel_rfl) (by kernel_rfl) ?_
 iterate 9 (refine wpMix_step rfl (fun K hK=>?_);go_simp;refine hK _ _ ?_;clear hK K)
 refine wpMix_step rfl (fun K hK=>?_)
 go_simp
 intro p
 refine (SChars_c (HA.out.later (hL p)) HC.out HG.out hl hd).mono ?_
 rintro e w2 ⟨aC,capC,rfl,hsC,hnC,hbC⟩
 refine ⟨_,rfl,hbC,hK _ _ ?_⟩
 clear hK K
 have hl2:Later w w2:=(hL p).trans hbC
 have HSC:=Lib.hid hsC
 clear hsC hnC hbC p hL C0 C1
 refine wpMix_step rfl (fun K hK=>?_)
 go_simp
 refine ⟨_,fun p=>quietM p (ViewOf_c aC capC (apOs s.L s.ds) s.seen s.me p.v (HSC.out.below p.h) HGC.out),hK _ _ ?_⟩
 clear hK K
 refine wpMix_step rfl (fun K hK=>?_)
 go_simp
 refine hK _ _ ?_
 clear hK K
 refine wpMix_nil ?_
 intro w4 hL4
 have hl4:Below w.heap.size w w4:=hl2.trans hL4
 clear hL4 hl2
 go_wp2
 go_ret
 exact ⟨rfl,hl4⟩
end
end Go.Proofs.YtneoeokfffnonaaGreatDoor
