/- The walk of the document's line of a deed. -/
import Derived.Test.YtneoeokfffnonaaGreatDoorDeedL
import Derived.Test.YtneoeokfffnonaaGreatDoorRefW
set_option linter.unusedVariables false
set_option linter.unusedSimpArgs false
namespace Go.Proofs.YtneoeokfffnonaaGreatDoor
open Go.RowKit Go
set_option maxRecDepth 100000 in
set_option maxHeartbeats 1000000 in
theorem LineOf_c (d:Dd) (w:World) (hd:d.ok) (hk:LibK w) :
 Calls Tryz.prog 66 #[.agg #[.int .i64 d.Kind,.int .i64 d.By,.int .i64 d.No,.int .i64 d.Seen,.int .i64 d.At,.int .i64 d.Many,.string d.Text]] w fun e w'=>e=.returned (.tuple #[.string ⟨(lineF d).1.toArray⟩,.int .i64 (lineF d).2])∧Below w.heap.size w w':=by
 have hb0:=(Below.refl w.heap.size w).alloc (Nat.le_refl _) (.cells #[.int .i64 d.Kind,.int .i64 d.By,.int .i64 d.No,.int .i64 d.Seen,.int .i64 d.At,.int .i64 d.Many,.string d.Text] 122)
 have HB0:=Lib.hid hb0
 have HX0:=Lib.hid (DdAt.new w d)
 have HK0:=Lib.hid (hk.later hb0)
 have HD:=Lib.hid hd
 clear hk hd hb0
 go_enter Tryz.func66,Tryz.ntmps66
 go_upto_region 1 with fail
 generalize hw0:w.alloc _=w0
 have hw0' : w.alloc (.cells #[.int .i64 d.Kind,.int .i64 d.By,.int .i64 d.No,.int .i64 d.Seen,.int .i64 d.At,.int .i64 d.Many,.string d.Text] 122)=w0:=hw0
 rw [hw0'] at HB0 HX0 HK0
 clear hw0 hw0'
 generalize w.heap.size=X at HX0 ⊢
 obtain ⟨hXl,x0,x1,x2,x3,x4,x5,x6⟩:=HX0.out
 go_wp2_with fail
 refine (DeedFault_c d w0 HD.out.2.2.2.2.2.2).mono ?_
 rintro e w1 ⟨rfl,hb1⟩
 have HB1:=Lib.hid (HB0.out.trans (hb1.mono HB0.out.size))
 have HX1:=Lib.hid (HX0.out.later hb1)
 have HK1:=Lib.hid (HK0.out.later hb1)
 clear hb1 HB0 HX0 HK0 x0 x1 x2 x3 x4 x5 x6
 by_cases hf:deedFault d=0
 case neg=>
  have HR:=Lib.hid (show lineF d=([],deedFault d) from by unfold lineF;rw [if_neg hf])
  have hfB:decide (deedFault d=0)=false:=decide_eq_false hf
  have hfN:(deedFault d !=0)=true:=by simpa using hf
  clear hf
  generalize deedFault d=c at *
  go_wp2
  go_ret2
  exact ⟨by rw [HR.out];rfl,HB1.out⟩
 have HF:=Lib.hid hf
 have HR:=Lib.hid (show lineF d=(lineB d,0) from by unfold lineF;rw [if_pos hf])
 obtain ⟨a1,a2,b1,b2,c1,c2,e1,e2,hkd⟩:=fault_facts hf
 have HN:=Lib.hid (show i64ok d.By∧i64ok d.No∧i64ok d.Seen∧i64ok d.At∧i64ok d.Many from by unfold i64ok;omega)
 have HLN:=Lib.hid (show (Lib.itoa d.By).length≤4∧(Lib.itoa d.No).length≤4∧(Lib.itoa d.Seen).length≤4∧(Lib.itoa d.At).length≤4 from ⟨itoa_len _ a1 (by omega),itoa_len _ b1 (by omega),itoa_len _ c1 (by omega),itoa_len _ e1 (by omega)⟩)
 rw [hf]
 clear hf a1 a2 b1 b2 c1 c2 e1 e2
 obtain ⟨_,x0,x1,x2,x3,x4,x5,x6⟩:=HX1.out
 go_upto_region 4 with fail
 have X1:=later_cell x1
 have X2:=later_cell x2
 have X3:=later_cell x3
 have X4:=later_cell x4
 have hL:∀ q:Lt w1,Later w1 q.v:=fun q=>q.h
 clear x0 x1 x2 x3 x4 x5 x6
 refine wp_region_x [] [] [0,1,2,3,4,5,6,7,8,9,10,11,12,13,14,15,16,17,18,19,20] (by kernel_rfl) (by kernel_rfl) ?_
 iterate 2 (refine wpX_step rfl (fun K hK=>?_);go_simp;refine hK _ _ ?_;clear hK K)
 refine wpX_step rfl (fun K hK=>?_)
 go_simp
 refine ⟨_,fun p=>quietM p (rnum_c d.By HN.out.1 p.v (HK1.out.later (hL p))),hK _ _ ?_⟩
 clear hK K
 (refine wpX_step rfl (fun K hK=>?_);go_simp;refine ⟨.string ⟨(32 :: Lib.itoa d.By).toArray⟩,fun p=>?_,hK _ _ ?_⟩;(rw [if_neg (by have:=HLN.out;first | omega | (simp only [List.length_append,List.length_cons,List.length_nil];omega))];exact ⟨rfl,congrArg Value.string (ba_ext (by simp))⟩);clear hK K)
 (refine wpX_step rfl (fun K hK=>?_);go_simp;refine ⟨.string ⟨(32 :: Lib.itoa d.By++[32]).toArray⟩,fun p=>?_,hK _ _ ?_⟩;(rw [if_neg (by have:=HLN.out;first | omega | (simp only [List.length_append,List.length_cons,List.length_nil];omega))];exact ⟨rfl,congrArg Value.string (ba_ext (by simp))⟩);clear hK K)
 iterate 2 (refine wpX_step rfl (fun K hK=>?_);go_simp;refine hK _ _ ?_;clear hK K)
 refine wpX_step rfl (fun K hK=>?_)
 go_simp
 refine ⟨_,fun p=>quietM p (rnum_c d.No HN.out.2.1 p.v (HK1.out.later (hL p))),hK _ _ ?_⟩
 clear hK K
 (refine wpX_step rfl (fun K hK=>?_);go_simp;refine ⟨.string ⟨(32 :: Lib.itoa d.By++[32]++Lib.itoa d.No).toArray⟩,fun p=>?_,hK _ _ ?_⟩;(rw [if_neg (by have:=HLN.out;first | omega | (simp only [List.length_append,List.length_cons,List.length_nil];omega))];exact ⟨rfl,congrArg Value.string (ba_ext (by simp))⟩);clear hK K)
 (refine wpX_step rfl (fun K hK=>?_);go_simp;refine ⟨.string ⟨(32 :: Lib.itoa d.By++[32]++Lib.itoa d.No++[32]).toArray⟩,fun p=>?_,hK _ _ ?_⟩;(rw [if_neg (by have:=HLN.out;first | omega | (simp only [List.length_append,List.length_cons,List.length_nil];omega))];exact ⟨rfl,congrArg Value.string (ba_ext (by simp))⟩);clear hK K)
 iterate 2 (refine wpX_step rfl (fun K hK=>?_);go_simp;refine hK _ _ ?_;clear hK K)
 refine wpX_step rfl (fun K hK=>?_)
 go_simp
 refine ⟨_,fun p=>quietM p (rnum_c d.Seen HN.out.2.2.1 p.v (HK1.out.later (hL p))),hK _ _ ?_⟩
 clear hK K
 (refine wpX_step rfl (fun K hK=>?_);go_simp;refine ⟨.string ⟨(32 :: Lib.itoa d.By++[32]++Lib.itoa d.No++[32]++Lib.itoa d.Seen).toArray⟩,fun p=>?_,hK _ _ ?_⟩;(rw [if_neg (by have:=HLN.out;first | omega | (simp only [List.length_append,List.length_cons,List.length_nil];omega))];exact ⟨rfl,congrArg Value.string (ba_ext (by simp))⟩);clear hK K)
 (refine wpX_step rfl (fun K hK=>?_);go_simp;refine ⟨.string ⟨(32 :: Lib.itoa d.By++[32]++Lib.itoa d.No++[32]++Lib.itoa d.Seen++[32]).toArray⟩,fun p=>?_,hK _ _ ?_⟩;(rw [if_neg (by have:=HLN.out;first | omega | (simp only [List.length_append,List.length_cons,List.length_nil];omega))];exact ⟨rfl,congrArg Value.string (ba_ext (by simp))⟩);clear hK K)
 iterate 2 (refine wpX_step rfl (fun K hK=>?_);go_simp;refine hK _ _ ?_;clear hK K)
 refine wpX_step rfl (fun K hK=>?_)
 go_simp
 refine ⟨_,fun p=>quietM p (rnum_c d.At HN.out.2.2.2.1 p.v (HK1.out.later (hL p))),hK _ _ ?_⟩
 clear hK K
 (refine wpX_step rfl (fun K hK=>?_);go_simp;refine ⟨.string ⟨(32 :: Lib.itoa d.By++[32]++Lib.itoa d.No++[32]++Lib.itoa d.Seen++[32]++Lib.itoa d.At).toArray⟩,fun p=>?_,hK _ _ ?_⟩;(rw [if_neg (by have:=HLN.out;first | omega | (simp only [List.length_append,List.length_cons,List.length_nil];omega))];exact ⟨rfl,congrArg Value.string (ba_ext (by simp))⟩);clear hK K)
 (refine wpX_step rfl (fun K hK=>?_);go_simp;refine ⟨.string ⟨(32 :: Lib.itoa d.By++[32]++Lib.itoa d.No++[32]++Lib.itoa d.Seen++[32]++Lib.itoa d.At++[32]).toArray⟩,fun p=>?_,hK _ _ ?_⟩;(rw [if_neg (by have:=HLN.out;first | omega | (simp only [List.length_append,List.length_cons,List.length_nil];omega))];exact ⟨rfl,congrArg Value.string (ba_ext (by simp))⟩);clear hK K)
 iterate 1 (refine wpX_step rfl (fun K hK=>?_);go_simp;refine hK _ _ ?_;clear hK K)
 refine wpX_nil ?_
 intro w3 hl3
 have HX3:=Lib.hid (HX1.out.later hl3)
 have HB3:=Lib.hid (HB1.out.trans (hl3.mono HB1.out.size))
 have HK3:=Lib.hid (HK1.out.later hl3)
 clear hl3 HX1 HB1 HK1 X1 X2 X3 X4 hL
 obtain ⟨_,x0,x1,x2,x3,x4,x5,x6⟩:=HX3.out
 obtain ⟨T,hT⟩:∃ T:Str,T=32 :: (Lib.itoa d.By++32 :: (Lib.itoa d.No++32 :: (Lib.itoa d.Seen++32 :: (Lib.itoa d.At++[32])))):=⟨_,rfl⟩
 have hTL:T.length≤30:=by have:=HLN.out;rw [hT];simp only [List.length_append,List.length_cons,List.length_nil];omega
 rw [← hT]
 have HT:=Lib.hid hT
 clear hT
 have HTL:=Lib.hid (text_len HF.out)
 have HML:=Lib.hid (show (d.Kind=2→(Lib.itoa d.Many).length≤4) from fun h=>by
  obtain ⟨_,_,_,_,_,_,_,_,hk⟩:=fault_facts HF.out
  exact itoa_len _ (by omega) (by omega))
 rcases hkd with ⟨k1,_⟩ | ⟨k1,_,_,_⟩
 ·have HE:=Lib.hid (show kindB d=putB∧lastB d=d.Text.data.toList from ⟨by unfold kindB;rw [if_neg (by omega)],by unfold lastB;rw [if_neg (by omega)]⟩)
  rw [k1] at x0
  clear k1
  go_wp2
  ·exfalso;have:=HTL.out;omega
  go_ret2
  refine ⟨?_,HB3.out⟩
  rw [HR.out]
  have e9:(⟨(lineB d).toArray⟩:ByteArray)=(⟨#[112,117,116]⟩:ByteArray)++⟨T.toArray⟩++d.Text:=ba_ext (by unfold lineB;rw [HE.out.1,HE.out.2,HT.out];simp [putB])
  rw [e9]
  rfl
 ·have HE:=Lib.hid (show kindB d=takeB∧lastB d=Lib.itoa d.Many from ⟨by unfold kindB;rw [if_pos k1],by unfold lastB;rw [if_pos k1]⟩)
  have HM4:=Lib.hid (HML.out k1)
  rw [k1] at x0
  clear k1
  go_wp2_with fail
  refine (rnum_c d.Many HN.out.2.2.2.2 w3 HK3.out).mono ?_
  rintro e w4 ⟨rfl,hb4⟩
  have HB4:=Lib.hid (HB3.out.trans (hb4.mono HB3.out.size))
  clear hb4
  go_wp2
  ·exfalso;have:=HM4.out;omega
  go_ret2
  refine ⟨?_,HB4.out⟩
  rw [HR.out]
  have e9:(⟨(lineB d).toArray⟩:ByteArray)=(⟨#[116,97,107,101]⟩:ByteArray)++⟨T.toArray⟩++⟨(Lib.itoa d.Many).toArray⟩:=ba_ext (by unfold lineB;rw [HE.out.1,HE.out.2,HT.out];simp [takeB])
  rw [e9]
  rfl
end Go.Proofs.YtneoeokfffnonaaGreatDoor
