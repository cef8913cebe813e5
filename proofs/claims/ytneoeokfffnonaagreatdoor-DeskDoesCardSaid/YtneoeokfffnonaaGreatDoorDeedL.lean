/- The walks of a deed's line. -/
import Derived.Test.YtneoeokfffnonaaGreatDoorDeedW
set_option linter.unusedVariables false
set_option linter.unusedSimpArgs false
namespace Go.Proofs.YtneoeokfffnonaaGreatDoor
open Go.RowKit Go
theorem itoa_len (n:Int) (h0:0≤n) (h1:n≤1000):(Lib.itoa n).length≤4:=by
 rw [itoa_nat n h0]
 have:∀ u:Nat,u≤1000→(Lib.decDigits u).length≤4:=by
  intro u hu
  rw [Lib.decDigits];split
  ·simp
  ·rw [Lib.decDigits];split
   ·simp
   ·rw [Lib.decDigits];split
    ·simp
    ·rw [Lib.decDigits];split
     ·simp
     ·omega
 exact this _ (by omega)
theorem text_len {d:Dd} (h:deedFault d=0):d.Text.size≤20:=by
 rcases (deedFault_zero h).2.2.2.2.2.2.2 with ⟨_,_,h1⟩ | ⟨_,_,_,h1⟩
 ·have:=(textOk_size h1).2;omega
 ·omega
theorem last_len {d:Dd} (h:deedFault d=0):(lastB d).length≤20:=by
 obtain ⟨_,_,_,_,_,_,_,_,hk⟩:=fault_facts h
 unfold lastB
 split
 ·have:=itoa_len d.Many (by omega) (by omega);omega
 ·have:=text_len h;have e:d.Text.data.size=d.Text.size:=rfl;simp;omega
theorem lineB_le {d:Dd} (h:deedFault d=0):(lineB d).length≤60:=by
 obtain ⟨a1,a2,b1,b2,c1,c2,e1,e2,hk⟩:=fault_facts h
 have h1:=itoa_len d.By a1 (by omega)
 have h2:=itoa_len d.No b1 (by omega)
 have h3:=itoa_len d.Seen c1 (by omega)
 have h4:=itoa_len d.At e1 (by omega)
 have h5:=last_len h
 have h6:(kindB d).length≤4:=by unfold kindB;split <;> decide
 unfold lineB
 simp only [List.length_append,List.length_cons]
 omega
theorem line_join (d:Dd) (xs:List ByteArray) (hx:xs.map (·.data.toList)=[kindB d,Lib.itoa d.By,Lib.itoa d.No,Lib.itoa d.Seen,Lib.itoa d.At,lastB d]):Lib.join (xs.map (·.data.toList)) (⟨#[32]⟩:ByteArray).data.toList=lineB d:=by
 rw [hx];exact join_line d
structure SBox (w:World) (Y:Nat) (xs:List ByteArray):Prop where
 lt:Y < w.heap.size
 c:∀ (j:Nat) x,xs[j]? = some x→w.cell? ⟨Y,j,none⟩=some (.string x)
 fz:∀ j,w.frozen? ⟨Y,j,none⟩=false
theorem SBox.new (w:World) (xs:List ByteArray) (vs:Array Value) (ty:TypeId) (hv:vs=(xs.map Value.string).toArray):SBox (w.alloc (.cells vs ty)) w.heap.size xs:=
 ⟨by simp,fun j x hx=>by rw [World.cell?_alloc_new,hv];simp [hx],fun j=>by simp⟩
theorem SBox.later {w w' : World} {Y:Nat} {xs:List ByteArray} (h:SBox w Y xs) (hl:Below w.heap.size w w'):SBox w' Y xs:=
 ⟨Nat.lt_of_lt_of_le h.lt hl.size,fun j x hx=>(hl.cell (p:=⟨Y,j,none⟩) h.lt).trans (h.c j x hx),fun j=>(hl.frozen (p:=⟨Y,j,none⟩) h.lt).trans (h.fz j)⟩
theorem SBox.set {w:World} {Y:Nat} {xs:List ByteArray} (h:SBox w Y xs) (i:Nat) (hi:i < xs.length) (v:ByteArray):SBox (w.setCell ⟨Y,i,none⟩ (.string v)) Y (xs.set i v):=by
 refine ⟨by simpa using h.lt,fun j x hx=>?_,fun j=>by rw [World.frozen?_setCell];exact h.fz j⟩
 by_cases e:j=i
 ·subst e
  rw [List.getElem?_set_self hi] at hx
  cases hx
  exact World.cell?_setCell_same _ _ _ (h.c j _ (List.getElem?_eq_getElem hi))
 ·rw [List.getElem?_set_ne (fun x=>e x.symm)] at hx
  rw [World.cell?_setCell_other _ _ _ _ (fun x=>e (by cases x;rfl))]
  exact h.c j x hx
set_option maxRecDepth 100000 in
set_option maxHeartbeats 1000000 in
theorem Line_c (d:Dd) (w:World) (hd:d.ok) (hk:LibK w) :
 Calls Tryz.prog 89 #[.agg #[.int .i64 d.Kind,.int .i64 d.By,.int .i64 d.No,.int .i64 d.Seen,.int .i64 d.At,.int .i64 d.Many,.string d.Text]] w fun e w'=>e=.returned (.tuple #[.string ⟨(lineF d).1.toArray⟩,.int .i64 (lineF d).2])∧Below w.heap.size w w':=by
 have hb0:=(Below.refl w.heap.size w).alloc (Nat.le_refl _) (.cells #[.int .i64 d.Kind,.int .i64 d.By,.int .i64 d.No,.int .i64 d.Seen,.int .i64 d.At,.int .i64 d.Many,.string d.Text] 122)
 have HB0:=Lib.hid hb0
 have HX0:=Lib.hid (DdAt.new w d)
 have HK0:=Lib.hid (hk.later hb0)
 have HD:=Lib.hid hd
 clear hk hd hb0
 go_enter Tryz.func89,Tryz.ntmps89
 go_upto_region 1 with fail
 generalize hw0:w.alloc _=w0
 have hw0' : w.alloc (.cells #[.int .i64 d.Kind,.int .i64 d.By,.int .i64 d.No,.int .i64 d.Seen,.int .i64 d.At,.int .i64 d.Many,.string d.Text] 122)=w0:=hw0
 rw [hw0'] at HB0 HX0 HK0
 clear hw0 hw0'
 generalize w.heap.size=X at HX0 ⊢
 obtain ⟨hXl,x0,x1,x2,x3,x4,x5,x6⟩:=HX0.out
 go_wp2_with fail
 refine (DCheck_c d w0 HD.out.2.2.2.2.2.2).mono ?_
 rintro e w1 ⟨rfl,hb1⟩
 have HB1:=Lib.hid (HB0.out.trans (hb1.mono HB0.out.size))
 have HX1:=Lib.hid (HX0.out.later hb1)
 have HK1:=Lib.hid (HK0.out.later hb1)
 clear hb1 HB0 HX0 HK0 x0 x1 x2 x3 x4 x5 x6
 by_cases hf:deedFault d=0
 case neg=>
  have HR:=Lib.hid (show lineF d=([],deedFault d) from by unfold lineF;rw [if_neg hf])
  have hfB:decide (deedFault d=0)=false:=decide_eq_false hf
  have hfN:(deedFault d !=0)=true:=by simpa using hf
  clear hf
  generalize deedFault d=c at *
  go_wp2
  go_ret2
  exact ⟨by rw [HR.out];rfl,HB1.out⟩
 have HF:=Lib.hid hf
 have HR:=Lib.hid (show lineF d=(lineB d,0) from by unfold lineF;rw [if_pos hf])
 obtain ⟨a1,a2,b1,b2,c1,c2,e1,e2,hkd⟩:=fault_facts hf
 have HN:=Lib.hid (show i64ok d.By∧i64ok d.No∧i64ok d.Seen∧i64ok d.At∧i64ok d.Many from by unfold i64ok;omega)
 rw [hf]
 clear hf a1 a2 b1 b2 c1 c2 e1 e2
 obtain ⟨_,x0,x1,x2,x3,x4,x5,x6⟩:=HX1.out
 go_upto_region 4 with fail
 have X1:=later_cell x1
 have X2:=later_cell x2
 have X3:=later_cell x3
 have X4:=later_cell x4
 have X6:=later_cell x6
 have hL:∀ q:Lt w1,Later w1 q.v:=fun q=>q.h
 clear x0 x1 x2 x3 x4 x5 x6
 refine wp_region_x [14] [] [0,1,2,3,4,5,6,7,8,9,10,11,12,13,14,15] (by kernel_rfl) (by kernel_rfl) ?_
 iterate 2 (refine wpX_step rfl (fun K hK=>?_);go_simp;refine hK _ _ ?_;clear hK K)
 refine wpX_step rfl (fun K hK=>?_)
 go_simp
 refine ⟨_,fun p=>quietM p (dnum_c d.By HN.out.1 p.v (HK1.out.later (hL p))),hK _ _ ?_⟩
 clear hK K
 iterate 2 (refine wpX_step rfl (fun K hK=>?_);go_simp;refine hK _ _ ?_;clear hK K)
 refine wpX_step rfl (fun K hK=>?_)
 go_simp
 refine ⟨_,fun p=>quietM p (dnum_c d.No HN.out.2.1 p.v (HK1.out.later (hL p))),hK _ _ ?_⟩
 clear hK K
 iterate 2 (refine wpX_step rfl (fun K hK=>?_);go_simp;refine hK _ _ ?_;clear hK K)
 refine wpX_step rfl (fun K hK=>?_)
 go_simp
 refine ⟨_,fun p=>quietM p (dnum_c d.Seen HN.out.2.2.1 p.v (HK1.out.later (hL p))),hK _ _ ?_⟩
 clear hK K
 iterate 2 (refine wpX_step rfl (fun K hK=>?_);go_simp;refine hK _ _ ?_;clear hK K)
 refine wpX_step rfl (fun K hK=>?_)
 go_simp
 refine ⟨_,fun p=>quietM p (dnum_c d.At HN.out.2.2.2.1 p.v (HK1.out.later (hL p))),hK _ _ ?_⟩
 clear hK K
 iterate 2 (refine wpX_step rfl (fun K hK=>?_);go_simp;refine hK _ _ ?_;clear hK K)
 refine wpX_step rfl (fun K hK=>?_)
 go_simp
 intro p
 refine hK _ _ ?_
 clear hK K
 generalize hw2:p.v.alloc _=w2
 have hw2' : p.v.alloc (.cells #[.string ⟨#[112,117,116]⟩,.string ⟨(Lib.itoa d.By).toArray⟩,.string ⟨(Lib.itoa d.No).toArray⟩,.string ⟨(Lib.itoa d.Seen).toArray⟩,.string ⟨(Lib.itoa d.At).toArray⟩,.string d.Text] 9)=w2:=hw2
 have hb2:Later p.v w2:=by rw [← hw2'];exact (Below.refl p.v.heap.size p.v).alloc (Nat.le_refl _) _
 have HY2:=Lib.hid (show SBox w2 p.v.heap.size [⟨#[112,117,116]⟩,⟨(Lib.itoa d.By).toArray⟩,⟨(Lib.itoa d.No).toArray⟩,⟨(Lib.itoa d.Seen).toArray⟩,⟨(Lib.itoa d.At).toArray⟩,d.Text] from by
  rw [← hw2'];exact SBox.new p.v _ _ _ rfl)
 have hl2:Later w1 w2:=(hL p).trans hb2
 have HYB:=Lib.hid (show w.heap.size≤p.v.heap.size from Nat.le_trans HB1.out.size (hL p).size)
 generalize p.v.heap.size=Y at HY2 HYB ⊢
 clear hw2 hw2' hb2 hL X1 X2 X3 X4 X6 p
 iterate 1 (refine wpX_step rfl (fun K hK=>?_);go_simp;refine hK _ _ ?_;clear hK K)
 refine wpX_nil ?_
 intro w3 hL3
 have HY3:=Lib.hid (HY2.out.later hL3)
 have hl3:Later w1 w3:=hl2.trans hL3
 have HX3:=Lib.hid (HX1.out.later hl3)
 have HB3:=Lib.hid (HB1.out.trans (hl3.mono HB1.out.size))
 have HK3:=Lib.hid (HK1.out.later hl3)
 clear hl2 hl3 hL3 HY2 HX1 HB1 HK1
 obtain ⟨_,x0,x1,x2,x3,x4,x5,x6⟩:=HX3.out
 have HLL:=Lib.hid (lineB_le HF.out)
 rcases hkd with ⟨k1,_⟩ | ⟨k1,_,_,_⟩
 ·have hXS:=Lib.hid (show ([⟨#[112,117,116]⟩,⟨(Lib.itoa d.By).toArray⟩,⟨(Lib.itoa d.No).toArray⟩,⟨(Lib.itoa d.Seen).toArray⟩,⟨(Lib.itoa d.At).toArray⟩,d.Text]:List ByteArray).map (·.data.toList)=[kindB d,Lib.itoa d.By,Lib.itoa d.No,Lib.itoa d.Seen,Lib.itoa d.At,lastB d] from by
   have e1:kindB d=putB:=by unfold kindB;rw [if_neg (by omega)]
   have e2:lastB d=d.Text.data.toList:=by unfold lastB;rw [if_neg (by omega)]
   rw [e1,e2];simp [putB])
  have HJ:=Lib.hid (Tryz.strings_Join Y 0 6 _ ⟨#[32]⟩ w3 (fun j x hx=>by rw [Nat.zero_add];exact HY3.out.c j x hx) HY3.out.lt (by simp) (by simp) (by rw [line_join d _ hXS.out];have:=HLL.out;omega))
  rw [line_join d _ hXS.out] at HJ
  rw [k1] at x0
  clear hXS k1
  go_wp2_with fail
  refine HJ.out.mono ?_
  rintro e w4 ⟨rfl,hb4⟩
  have HB4:=Lib.hid (HB3.out.trans (hb4.mono HB3.out.size))
  clear hb4 HJ
  go_wp2
  go_ret2
  exact ⟨by rw [HR.out];rfl,HB4.out⟩
 ·have HK2:=Lib.hid k1
  rw [k1] at x0
  clear k1
  go_wp2_with fail
  refine (dnum_c d.Many HN.out.2.2.2.2 w3 HK3.out).mono ?_
  rintro e w4 ⟨rfl,hb4⟩
  have HY4:=Lib.hid (HY3.out.later hb4)
  have HB4:=Lib.hid (HB3.out.trans (hb4.mono HB3.out.size))
  have y0:=HY4.out.c 0 _ rfl
  have y5:=HY4.out.c 5 _ rfl
  have f0:=HY4.out.fz 0
  have f5:=HY4.out.fz 5
  have HY5:=Lib.hid (HY4.out.set 0 (by simp) ⟨#[116,97,107,101]⟩)
  have y5':=HY5.out.c 5 _ rfl
  have f5':=HY5.out.fz 5
  have HY6:=Lib.hid (HY5.out.set 5 (by simp) ⟨(Lib.itoa d.Many).toArray⟩)
  clear hb4 x0 x1 x2 x3 x4 x5 x6 HX3 HY3
  go_upto_region 7 with fail
  have HB6:=Lib.hid (show Below w.heap.size w ((w4.setCell ⟨Y,0,none⟩ (.string ⟨#[116,97,107,101]⟩)).setCell ⟨Y,5,none⟩ (.string ⟨(Lib.itoa d.Many).toArray⟩)) from (HB4.out.setCell HYB.out _).setCell HYB.out _)
  have HY7:=Lib.hid (show SBox ((w4.setCell ⟨Y,0,none⟩ (.string ⟨#[116,97,107,101]⟩)).setCell ⟨Y,5,none⟩ (.string ⟨(Lib.itoa d.Many).toArray⟩)) Y [⟨#[116,97,107,101]⟩,⟨(Lib.itoa d.By).toArray⟩,⟨(Lib.itoa d.No).toArray⟩,⟨(Lib.itoa d.Seen).toArray⟩,⟨(Lib.itoa d.At).toArray⟩,⟨(Lib.itoa d.Many).toArray⟩] from HY6.out)
  generalize World.setCell (World.setCell w4 _ _) _ _=w6 at HB6 HY7 ⊢
  clear HY4 HY5 HY6 HB4 y0 y5 f0 f5 y5' f5' HB3
  have hXS:=Lib.hid (show ([⟨#[116,97,107,101]⟩,⟨(Lib.itoa d.By).toArray⟩,⟨(Lib.itoa d.No).toArray⟩,⟨(Lib.itoa d.Seen).toArray⟩,⟨(Lib.itoa d.At).toArray⟩,⟨(Lib.itoa d.Many).toArray⟩]:List ByteArray).map (·.data.toList)=[kindB d,Lib.itoa d.By,Lib.itoa d.No,Lib.itoa d.Seen,Lib.itoa d.At,lastB d] from by
   have e1:kindB d=takeB:=by unfold kindB;rw [if_pos HK2.out]
   have e2:lastB d=Lib.itoa d.Many:=by unfold lastB;rw [if_pos HK2.out]
   rw [e1,e2];simp [takeB])
  have HJ:=Lib.hid (Tryz.strings_Join Y 0 6 _ ⟨#[32]⟩ w6 (fun j x hx=>by rw [Nat.zero_add];exact HY7.out.c j x hx) HY7.out.lt (by simp) (by simp) (by rw [line_join d _ hXS.out];have:=HLL.out;omega))
  rw [line_join d _ hXS.out] at HJ
  clear hXS
  go_wp2_with fail
  refine HJ.out.mono ?_
  rintro e w7 ⟨rfl,hb7⟩
  have HB7:=Lib.hid (HB6.out.trans (hb7.mono HB6.out.size))
  clear hb7 HJ
  go_wp2
  go_ret2
  exact ⟨by rw [HR.out];rfl,HB7.out⟩
end Go.Proofs.YtneoeokfffnonaaGreatDoor
