/- The walk of the Book's Take. -/
import Derived.Test.YtneoeokfffnonaaGreatDoorBookW
import Derived.Deep.RegionLaw
set_option linter.unusedVariables false
set_option linter.unusedSimpArgs false
namespace Go.Proofs.YtneoeokfffnonaaGreatDoor
open Go.RowKit
def BTakePost (w:World) (base:Nat) (F:Nat→Prop) (g:Nat) (m:LogM) (d:Dd) (e:Ending) (w' : World):Prop:=
 e=.returned (.tuple #[.int .i64 (m.takeF d).2.1,.int .i64 (m.takeF d).2.2])∧∃ F',BookAt w' base F' g (m.takeF d).1∧Moves F w w'∧Grows F w F'
theorem bl_drewB (w:World):Below w.heap.size w w.drew:=⟨rfl,rfl,rfl,Nat.le_refl _,fun _ _=>rfl⟩
theorem BTakePost.same {w w' : World} {base:Nat} {F:Nat→Prop} {g:Nat} {m:LogM} {d:Dd} {c:Int} (hT:m.takeF d=(m,0,c)) (hA:BookAt w' base F g m) (hb:Below w.heap.size w w'):BTakePost w base F g m d (.returned (.tuple #[.int .i64 0,.int .i64 c])) w':=by
 refine ⟨by rw [hT],F,by rw [hT];exact hA,Moves.of_below hb,fun k hk=>.inl hk⟩
structure BSkel (w:World) (g:Nat) (S:Nat→St):Prop where
 lt:g < w.heap.size
 fz:∀ o,o < 13→w.frozen? ⟨g,o,none⟩=false
 here:∀ j,j < 4→w.cell? ⟨g,1+j,none⟩=some (.bool (S j).here)
 last:∀ j,j < 4→w.cell? ⟨g,5+j,none⟩=some (.int .i64 (S j).last)
 seen:∀ j,j < 4→w.cell? ⟨g,9+j,none⟩=some (.int .i64 (S j).seen)
theorem BookAt.skel {w:World} {base:Nat} {F:Nat→Prop} {g:Nat} {m:LogM} (h:BookAt w base F g m):BSkel w g m.S:=⟨h.lt,h.fz,h.here,h.last,h.seen⟩
theorem BSkel.moves {w w' : World} {g:Nat} {S:Nat→St} (h:BSkel w g S) {G:Nat→Prop} (hm:Moves G w w') (hd:¬ G g):BSkel w' g S:=by
 have hc:∀ o,w'.cell? ⟨g,o,none⟩=w.cell? ⟨g,o,none⟩:=fun o=>hm.cell h.lt hd o
 exact ⟨Nat.lt_of_lt_of_le h.lt hm.size,fun o ho=>(hm.frozen h.lt hd o).trans (h.fz o ho),fun j hj=>(hc _).trans (h.here j hj),fun j hj=>(hc _).trans (h.last j hj),fun j hj=>(hc _).trans (h.seen j hj)⟩
theorem BSkel.store {w:World} {g:Nat} {S:Nat→St} (h:BSkel w g S) (v:Value):BSkel (w.setCell ⟨g,0,none⟩ v) g S:=by
 have ho:∀ o,1≤o→(w.setCell ⟨g,0,none⟩ v).cell? ⟨g,o,none⟩=w.cell? ⟨g,o,none⟩:=fun o ho=>World.cell?_setCell_other _ _ _ _ (fun e=>by cases e;omega)
 exact ⟨by simpa using h.lt,fun o ho=>by rw [World.frozen?_setCell];exact h.fz o ho,fun j hj=>(ho _ (by omega)).trans (h.here j hj),fun j hj=>(ho _ (by omega)).trans (h.last j hj),fun j hj=>(ho _ (by omega)).trans (h.seen j hj)⟩
theorem BookAt.taken {w5 w6:World} {base:Nat} {F:Nat→Prop} {g:Nat} {m:LogM} {d:Dd} {a a6:Option Addr} {cap cap6:Nat} {v0:Value} (hs:BSkel w5 g m.S) (hFg:F g) (hF:∀ k,F k→base≤k∧k < w5.heap.size)
 (ha:∀ k,ownB a cap=some k→F k∧k≠g) (hrow6:OwnRow w6 base 122 7 a6 (m.L.length+1) cap6 (flatD m.L++d.cells)) (hgr:w5.grownBy w6 (ownB a cap))
 (hnew:∀ k,ownB a6 cap6=some k→ownB a cap=some k∨w5.heap.size≤k) (hc0:w6.cell? ⟨g,0,none⟩=some v0) :
 BookAt (w6.setCell ⟨g,0,none⟩ (.slice a6 (m.L.length+1) cap6)) base (fun k=>k=g∨ownB a6 cap6=some k) g ⟨m.L++[d],m.S⟩:=by
 have hmv:Moves (fun k=>ownB a cap=some k) w5 w6:=Moves.of_grown hgr fun k hk=>hk
 have hs6:=(hs.moves hmv fun e=>(ha g e).2 rfl).store (.slice a6 (m.L.length+1) cap6)
 have h6:=hrow6.base_le
 have hgB:=(hF g hFg).2
 have h6g:∀ k,ownB a6 cap6=some k→k≠g:=fun k hk e=>by
  rcases hnew k hk with h | h
  ·exact (ha k h).2 e
  ·omega
 refine ⟨hs6.lt,.inl rfl,fun k hk=>?_,hs6.fz,⟨a6,cap6,?_,?_,fun k hk=>⟨.inr hk,h6g k hk⟩⟩,hs6.here,hs6.last,hs6.seen⟩
 ·simp only [World.size_setCell]
  rcases hk with rfl | hk
  ·have:=(hF k hFg).1;have:=hs6.lt;simp at this;omega
  ·have:=h6 k hk;omega
 ·show (w6.setCell _ _).cell? ⟨g,0,none⟩=some (.slice a6 (m.L++[d]).length cap6)
  rw [List.length_append]
  exact World.cell?_setCell_same _ _ _ hc0
 ·show OwnRow _ base _ 7 a6 (m.L++[d]).length cap6 (flatD (m.L++[d]))
  rw [List.length_append,flatD_append]
  have:flatD [d]=d.cells:=by simp [flatD]
  rw [this]
  exact hrow6.setCell _ _ h6g
theorem RDo_any (a:Option Addr) (cap:Nat) (l:List Ch) (d:Dd) (number:Int) (n:Nat) (hn:l.length=n) (R:List Ch × Int) (hR:doF l d number=R) (w:World) (hs:SlCh w a cap l) (hnil:a=none→cap=0) (hsz:l.length * 56≤140737488355328) (ht:d.Text.size≤maxLen) (hG:∀ c∈l,i64ok c.Gone) :
 Calls Tryz.prog 107 #[.slice a n cap,.agg #[.int .i64 d.Kind,.int .i64 d.By,.int .i64 d.No,.int .i64 d.Seen,.int .i64 d.At,.int .i64 d.Many,.string d.Text],.int .i64 number] w fun e w'=>∃ a' cap',e=.returned (.tuple #[.slice a' R.1.length cap',.int .i64 R.2])∧
  OwnRow w' w.heap.size 125 7 a' R.1.length cap' (flat R.1)∧Below w.heap.size w w':=by
 subst hn;subst hR;exact RDo_c a cap l d number w hs hnil hsz ht hG
theorem LogM.Ok.gone_okB {m:LogM} (h:m.Ok):∀ c∈m.chars,i64ok c.Gone:=by
 intro c hc
 have hm:=h.lok.made m.L.length (Nat.le_refl _)
 rw [pre_len] at hm
 have:=bad1_false (hm.good c hc).b1
 unfold i64ok;omega
set_option maxRecDepth 100000 in
set_option maxHeartbeats 4000000 in
theorem BTake_i {w:World} {base:Nat} {F:Nat→Prop} {g:Nat} {m:LogM} (h:BookAt w base F g m) (ho:m.Ok) (d:Dd) (hd:d.Text.size≤maxLen) (hdn:i64ok d.No) (i:Nat) (hi:i < 4) {b:Int} (hbi:b=i) (hby:d.By=b) (hx:m.hereF d.By=true) :
 Calls Tryz.prog 100 #[.pointer (some ⟨g,0,none⟩),.agg #[.int .i64 d.Kind,.int .i64 d.By,.int .i64 d.No,.int .i64 d.Seen,.int .i64 d.At,.int .i64 d.Many,.string d.Text]] w (BTakePost w base F g m d):=by
 have HX:Hid (m.hereF b=true):=Lib.hid (by rw [hby] at hx;exact hx)
 have hb0:=(Below.refl w.heap.size w).alloc (Nat.le_refl _) (.cells #[.int .i64 d.Kind,.int .i64 d.By,.int .i64 d.No,.int .i64 d.Seen,.int .i64 d.At,.int .i64 d.Many,.string d.Text] 122)
 have hd0:=DdAt.new w d
 have ha0:=h.later hb0
 have HA0:=Lib.hid ha0
 have HTS:=Lib.hid hd
 have HOK:=Lib.hid ho
 have hlen:=ho.len
 obtain ⟨hl0,hl1⟩:=ho.last_le i hi
 have hn2:IntKind.i64.wrap ((m.L.length:Int)+1)=(m.L.length:Int)+1:=by rw [IntKind.wrap_i64];omega
 have HS:m.seat d.By=m.S i:=by rw [hby,hbi];rfl
 have hbg:=(h.foot g h.fg).1
 have hglt:=h.lt
 have HFG:=Lib.hid h.fg
 have HFB:=Lib.hid h.foot
 have HBY:=Lib.hid hby
 have HDN:=Lib.hid hdn
 have HT:=Lib.hid (show m.takeF d=if d.No=(m.S i).last+1 then (if d.Seen < (m.S i).seen∨(m.L.length:Int) < d.Seen then (m,0,8) else if m.L.length=120 then (m,0,9) else if (doF m.chars d ((m.L.length:Int)+1)).2=0 then (⟨m.L++[d],upd m.S i ⟨(m.S i).here,d.No,d.Seen⟩⟩,(m.L.length:Int)+1,0) else (m,0,(doF m.chars d ((m.L.length:Int)+1)).2)) else (m,0,7) by
  have hn:d.By.toNat=i:=by rw [hby,hbi];rfl
  unfold LogM.takeF LogM.seat;rw [hn,if_pos hx])
 obtain ⟨o,hO⟩:∃ o,o=5+i:=⟨_,rfl⟩
 obtain ⟨p,hP⟩:∃ p,p=9+i:=⟨_,rfl⟩
 obtain ⟨st,hst⟩:∃ st:World→World,∀ w7,st w7=(w7.setCell ⟨g,o,none⟩ (.int .i64 d.No)).drew:=⟨_,fun _=>rfl⟩
 have HST:=Lib.hid hst
 have HI:=Lib.hid hi
 have HPP:=Lib.hid hP
 have HFZ:=Lib.hid (show ∀ (w' : World) (F' : Nat→Prop) (m' : LogM),BookAt w' base F' g m'→w'.frozen? ⟨g,o,none⟩=false∧w'.frozen? ⟨g,p,none⟩=false from fun _ _ _ h=>⟨h.fz o (by omega),h.fz p (by omega)⟩)
 have HLA:=Lib.hid (show ∀ (w' : World) (F' : Nat→Prop) (m' : LogM),BookAt w' base F' g m'→(m'.S i).last=(m.S i).last→w'.cell? ⟨g,o,none⟩=some (.int .i64 (m.S i).last) from fun _ _ _ h e=>by rw [hO,← e];exact h.last i hi)
 have HSA:=Lib.hid (show ∀ (w' : World) (F' : Nat→Prop) (m' : LogM),BookAt w' base F' g m'→(m'.S i).seen=(m.S i).seen→w'.cell? ⟨g,p,none⟩=some (.int .i64 (m.S i).seen) from fun _ _ _ h e=>by rw [hP,← e];exact h.seen i hi)
 have HLO:=Lib.hid (show ∀ (w' : World) (F' : Nat→Prop) (m' : LogM),BookAt w' base F' g m'→BookAt (st w') base F' g { m' with S:=upd m'.S i ⟨(m'.S i).here,d.No,(m'.S i).seen⟩ } from fun _ _ _ h=>by rw [hst];exact (h.setLast i hi o hO d.No).drew)
 have HMO:=Lib.hid (show ∀ w7,Moves F w w7→Moves F w (st w7) from fun w7 h=>by rw [hst];exact (h.trans (Moves.setCell w7 ⟨g,o,none⟩ (.int .i64 d.No) HFG.out) (fun _ _ k=>k)).trans (Moves.drew _) (fun _ _ k=>k))
 have HMP:=Lib.hid (show ∀ w7,Moves F w w7→∀ v,Moves F w (w7.setCell ⟨g,p,none⟩ v) from fun w7 h v=>h.trans (Moves.setCell w7 ⟨g,p,none⟩ v HFG.out) (fun _ _ k=>k))
 have HDO:=Lib.hid (show ∀ w7,DdAt w7 w.heap.size d→DdAt (st w7) w.heap.size d from fun w7 h=>by rw [hst];exact h.of_block (by simp [World.drew]) (Below.heap_setCell w7 ⟨g,o,none⟩ _ _ (fun e=>by simp at e;omega)))
 have HXO:=Lib.hid (show ∀ (w7:World) x,w7.cell? ⟨g,0,none⟩=some x→(st w7).cell? ⟨g,0,none⟩=some x from fun w7 x h=>by rw [hst];exact (World.cell?_setCell_other _ _ _ _ (fun e=>by cases e;omega)).trans h)
 have hb:(b=0∧o=5∧p=9)∨(b=1∧o=6∧p=10)∨(b=2∧o=7∧p=11)∨(b=3∧o=8∧p=12):=by omega
 clear h ho hd hx HS hby hdn hbi hi hO hP hst
 rcases hb with ⟨rfl,rfl,rfl⟩ | ⟨rfl,rfl,rfl⟩ | ⟨rfl,rfl,rfl⟩ | ⟨rfl,rfl,rfl⟩
 all_goals
  go_enter Tryz.func100,Tryz.ntmps100
  go_upto_region 1 with fail
  generalize hw0:w.alloc (.cells #[.int .i64 d.Kind,.int .i64 d.By,.int .i64 d.No,.int .i64 d.Seen,.int .i64 d.At,.int .i64 d.Many,.string d.Text] 122)=w0 at *
  clear hw0
  obtain ⟨dlt,d0,d1,d2,d3,d4,d5,d6⟩:=hd0
  rw [HBY.out] at d1
  go_wp2_with (go_at_call 143;refine (BHere_b HA0.out _ true HX.out).mono ?_;rintro e w0 ⟨rfl,rfl⟩)
  have HD0:=Lib.hid (show DdAt w0 w.heap.size d from ⟨dlt,d0,by rw [HBY.out];exact d1,d2,d3,d4,d5,d6⟩)
  have HB0:=Lib.hid hb0
  have c2:=HLA.out _ _ _ HA0.out rfl
  clear dlt d0 d4 d5 d6 hb0
  by_cases h1:d.No=(m.S i).last+1
  case neg=>
   have HT2:=Lib.hid (HT.out.trans (if_neg h1))
   by_cases h1b:d.No < 1
   ·cases hne:(IntKind.i64.wrap (d.No - 1) !=(m.S i).last)
    ·have h1c:decide (d.No < 1)=true:=decide_eq_true h1b
     clear HT h1 h1b
     go_upto_region 3 with fail
     go_quiet (fail)
     go_wp2
     go_ret2
     exact BTakePost.same HT2.out (HA0.out.later (bl_drewN (Below.refl _ _) _)) (bl_drewN HB0.out _)
    ·clear HT h1 h1b
     go_upto_region 3 with fail
     go_quiet (fail)
     go_wp2
     go_ret2
     exact BTakePost.same HT2.out (HA0.out.later (bl_drewN (Below.refl _ _) _)) (bl_drewN HB0.out _)
   ·have hne:(IntKind.i64.wrap (d.No - 1) !=(m.S i).last)=true:=by
     have:=HDN.out;unfold i64ok at this
     rw [show IntKind.i64.wrap (d.No - 1)=d.No - 1 by rw [IntKind.wrap_i64];omega]
     simp only [bne_iff_ne,ne_eq];omega
    clear HT h1 h1b
    go_upto_region 3 with fail
    go_quiet (fail)
    go_wp2
    go_ret2
    exact BTakePost.same HT2.out (HA0.out.later (bl_drewN (Below.refl _ _) _)) (bl_drewN HB0.out _)
  have hne:(IntKind.i64.wrap (d.No - 1) !=(m.S i).last)=false:=by
   rw [show IntKind.i64.wrap (d.No - 1)=d.No - 1 by rw [IntKind.wrap_i64];omega]
   simp only [bne_eq_false_iff_eq];omega
  have h1c:decide (d.No < 1)=false:=decide_eq_false (by omega)
  have HT2:=Lib.hid (HT.out.trans (if_pos h1))
  have HNo:=Lib.hid h1
  clear HT h1
  go_upto_region 3 with fail
  go_quiet (fail)
  have hL1:Later w0 (w0.drewN nq):=bl_drewN (Below.refl _ _) nq
  clear c2 d1 d2 d3
  generalize w0.drewN nq=w1 at *
  have HA1:=Lib.hid (HA0.out.later hL1)
  have HD1:=Lib.hid (HD0.out.later hL1)
  have HB1:=Lib.hid (HB0.out.trans (Below.mono hL1 HB0.out.size))
  clear hL1 HA0 HD0 HB0 hne h1c
  obtain ⟨a,cap,r0,r2,r4⟩:=HA1.out.rows
  have c3:=HSA.out _ _ _ HA1.out rfl
  obtain ⟨dlt,d0,d1,d2,d3,d4,d5,d6⟩:=HD1.out
  rw [HBY.out] at d1
  clear r2 r4 d0 d2 d4 d5 d6
  by_cases h2:d.Seen < (m.S i).seen
  case pos=>
   have h2B:decide (d.Seen < (m.S i).seen)=true:=by simpa using h2
   have HT3:=Lib.hid (HT2.out.trans (if_pos (.inl h2)))
   clear HT2 h2
   go_upto_region 5 with fail
   go_quiet (fail)
   go_wp2
   go_ret2
   exact BTakePost.same HT3.out (HA1.out.later (bl_drewN (Below.refl _ _) _)) (bl_drewN HB1.out _)
  have h2B:decide (d.Seen < (m.S i).seen)=false:=by simpa using h2
  by_cases h3:(m.L.length:Int) < d.Seen
  case pos=>
   have h3B:decide ((m.L.length:Int) < d.Seen)=true:=by simpa using h3
   have HT3:=Lib.hid (HT2.out.trans (if_pos (.inr h3)))
   clear HT2 h2 h3
   go_upto_region 5 with fail
   go_quiet (fail)
   go_wp2
   go_ret2
   exact BTakePost.same HT3.out (HA1.out.later (bl_drewN (Below.refl _ _) _)) (bl_drewN HB1.out _)
  have h3B:decide ((m.L.length:Int) < d.Seen)=false:=by simpa using h3
  have HT3:=Lib.hid (HT2.out.trans (if_neg (by omega)))
  clear HT2 h2 h3
  go_upto_region 5 with fail
  go_quiet (fail)
  have hL2:Later w1 (w1.drewN nq):=bl_drewN (Below.refl _ _) nq
  clear r0 d1 d3 dlt c3
  generalize w1.drewN nq=w2 at *
  have HA2:=Lib.hid (HA1.out.later hL2)
  have HD2:=Lib.hid (HD1.out.later hL2)
  have HB2:=Lib.hid (HB1.out.trans (Below.mono hL2 HB1.out.size))
  clear hL2 HA1 HD1 HB1 h2B h3B
  obtain ⟨a,cap,r0,r2,r4⟩:=HA2.out.rows
  clear r2 r4
  by_cases h4:m.L.length=120
  case pos=>
   have HT4:=Lib.hid (HT3.out.trans (if_pos h4))
   have h4B:decide ((120:Int)≤(m.L.length:Int))=true:=decide_eq_true (by omega)
   clear HT3 h4
   go_wp2
   go_ret2
   exact BTakePost.same HT4.out HA2.out HB2.out
  have h4B:decide ((120:Int)≤(m.L.length:Int))=false:=decide_eq_false (by omega)
  have HT4:=Lib.hid (HT3.out.trans (if_neg h4))
  clear HT3 h4
  obtain ⟨R,hR⟩:∃ R,doF m.chars d ((m.L.length:Int)+1)=R:=⟨_,rfl⟩
  have HR:=Lib.hid hR
  rw [hR] at HT4
  have hcl:=HOK.out.chars_len
  have HCLN:=Lib.hid hcl
  have HGK:=Lib.hid HOK.out.gone_okB
  obtain ⟨CL,hCL⟩:∃ CL,m.chars.length=CL:=⟨_,rfl⟩
  have HCL:=Lib.hid hCL
  have hCH:∀ W,Later w2 W→Calls Tryz.prog 38 #[.pointer (some ⟨g,0,none⟩)] W fun e w'=>∃ a' cap',e=.returned (.slice a' CL cap')∧
   OwnRow w' W.heap.size 125 7 a' m.chars.length cap' (flat m.chars)∧Below W.heap.size W w':=fun W hW=>by
   rw [← HCL.out];exact BChars_c (HA2.out.later hW) HOK.out
  have HCH:=Lib.hid hCH
  clear hCH hR hcl hCL
  obtain ⟨dlt,d0,d1,d2,d3,d4,d5,d6⟩:=HD2.out
  have e0:=later_cell r0
  have D0:=later_cell d0
  have D1:=later_cell d1
  have D2:=later_cell d2
  have D3:=later_cell d3
  have D4:=later_cell d4
  have D5:=later_cell d5
  have D6:=later_cell d6
  clear d1 d2 d3 d4 d5 d6 dlt d0
  have hL:∀ q:Lt w2,Later w2 q.v:=fun q=>q.h
  go_upto_region 9 with fail
  clear r0
  refine wp_region_mix [1,9] [0,2,3,4,5,6,7,8,1,9,10,11,12,13,14] (by kernel_rfl) (by kernel_rfl) ?_
  iterate 8 (refine wpMix_step rfl (fun K hK=>?_);go_simp;refine hK _ _ ?_;clear hK K)
  refine wpMix_step rfl (fun K hK=>?_)
  go_simp
  intro p
  refine (HCH.out p.v (hL p)).mono ?_
  rintro e w3 ⟨aC,capC,rfl,hoC,hbC⟩
  refine ⟨_,rfl,hbC,hK _ _ ?_⟩
  clear hK K
  have hl3:Later w2 w3:=(hL p).trans hbC
  have HOC:=Lib.hid (hoC.mono (Nat.zero_le _))
  clear hoC hbC p hL
  refine wpMix_step rfl (fun K hK=>?_)
  go_simp
  intro p
  have HOCp:=HOC.out.below p.h
  refine (RDo_any aC capC m.chars d _ CL HCL.out R HR.out p.v HOCp.slCh HOCp.nilcap (by have:=HCLN.out;omega) HTS.out HGK.out).mono ?_
  rintro e w4 ⟨a3,cap3,rfl,ho4x,hb4⟩
  refine ⟨_,rfl,hb4,hK _ _ ?_⟩
  clear hK K HOCp
  have hl4:Later w2 w4:=(hl3.trans p.h).trans hb4
  clear hl3 hb4 ho4x p HOC e0 D0 D1 D2 D3 D4 D5 D6
  iterate 5 (refine wpMix_step rfl (fun K hK=>?_);go_simp;refine hK _ _ ?_;clear hK K)
  refine wpMix_nil ?_
  intro w5 hL5
  have hl5:Later w2 w5:=hl4.trans hL5
  have HA4:=Lib.hid (HA2.out.later hl5)
  have HD4:=Lib.hid (HD2.out.later hl5)
  have HB4:=Lib.hid (HB2.out.trans (Below.mono hl5 HB2.out.size))
  have HF2:=Lib.hid (fun k hk=>HA4.out.foot k hk)
  clear hl4 hl5 hL5 HA2 HD2 HB2 HCH HGK
  by_cases h5:R.2=0
  case neg=>
   have HT5:=Lib.hid (HT4.out.trans (if_neg h5))
   have h5B:(R.2 !=0)=true:=by simpa using h5
   clear HT4 h5
   go_wp2
   go_ret2
   exact BTakePost.same HT5.out HA4.out HB4.out
  have HT5:=Lib.hid (HT4.out.trans (if_pos h5))
  have h5B:(R.2 !=0)=false:=by simpa using h5
  clear HT4 h5
  obtain ⟨a,cap,r0,r2,r4⟩:=HA4.out.rows
  have k0:=r0
  have kf:=HA4.out.fz 0 (by omega)
  go_upto_region 12 with fail
  have HSk:=Lib.hid HA4.out.skel
  have HRow:=Lib.hid r2
  have HR4:=Lib.hid r4
  have HM5:=Lib.hid (Moves.of_below (F:=F) HB4.out)
  obtain ⟨dlt,d0,d1,d2,d3,d4,d5,d6⟩:=HD4.out
  have hbs:base≤w5.heap.size:=by have:=HD4.out.lt;omega
  have HSd:=Lib.hid (HSk.out.moves (G:=fun _=>False) (Moves.drew w5) (fun h=>h))
  have HRd:=Lib.hid HRow.out.drew
  have HDd:=Lib.hid (HD4.out.later (bl_drewB w5))
  have HMd:=Lib.hid (HM5.out.trans (Moves.drew (F:=F) w5) (fun _ _ k=>k))
  have HKd:=Lib.hid (show w5.drew.cell? ⟨g,0,none⟩=some (.slice a m.L.length cap)∧w5.drew.frozen? ⟨g,0,none⟩=false from ⟨k0,kf⟩)
  have hbs:base≤w5.drew.heap.size:=hbs
  clear HSk HRow HA4 HD4 HB4 HM5 r2 r4
  have HG0:=Lib.hid (show ∀ w6,w5.drew.grownBy w6 (ownB a cap)→w6.cell? ⟨g,0,none⟩=some (.slice a m.L.length cap)∧w6.frozen? ⟨g,0,none⟩=false∧DdAt w6 w.heap.size d from fun w6 hg6=>by
   have hm6:Moves (fun k=>ownB a cap=some k) w5.drew w6:=Moves.of_grown hg6 fun k hk=>hk
   have hn:¬ ownB a cap=some g:=fun e=>(HR4.out g e).2 rfl
   have hnb:¬ ownB a cap=some w.heap.size:=fun e=>by have:=(HFB.out _ (HR4.out _ e).1).2;omega
   exact ⟨(hm6.cell HSd.out.lt hn 0).trans HKd.out.1,(hm6.frozen HSd.out.lt hn 0).trans HKd.out.2,HDd.out.of_block hm6.size (hm6.block _ HDd.out.lt hnb)⟩)
  obtain ⟨iT,zT,hiT,hzT,hsT,hbT,hzsT,hbpT⟩:=ti_Deed
  have hds:(w5.drew.alloc (.cells (Dd.cells d).toArray 122)).heap.size=w5.drew.heap.size+1:=by rw [World.size_alloc]
  have hbsA:base≤(w5.drew.alloc (.cells (Dd.cells d).toArray 122)).heap.size:=by omega
  obtain ⟨a6,cap6,w6,hrun,hown6,hg6',hn6'⟩:=run_append_row2 (P:=Tryz.prog) (w5.drew.alloc (.cells (Dd.cells d).toArray 122)) base 60 60 122 iT zT 7 64 Tryz.underlying60 hiT hzT hsT hbT hzsT a m.L.length cap _ (HRd.out.alloc _)
   (some ⟨w5.drew.heap.size,0,none⟩) 1 1 (Dd.cells d) rfl (.inr ⟨_,rfl,fun j u hu=>by rw [Addr.add_lit,Nat.zero_add,World.cell?_alloc_new];simpa using hu⟩) (Dd.cells_one d) (by unfold maxLen;omega) (by omega) hbsA
  have hg6:w5.drew.grownBy w6 (ownB a cap):=⟨hg6'.os,hg6'.tape,hg6'.output,by have:=hg6'.size;omega,fun k hk hne=>(hg6'.block k (by omega) hne).trans (Below.heap_alloc _ _ _ hk)⟩
  have hn6:∀ k,ownB a6 cap6=some k→ownB a cap=some k∨w5.drew.heap.size≤k:=fun k hk=>by rcases hn6' k hk with h | h;exact .inl h;exact .inr (by omega)
  have kg1:∀ o,(w5.alloc o).cell? ⟨g,0,none⟩=some (.slice a m.L.length cap):=fun o=>((Below.refl w5.heap.size w5).alloc (Nat.le_refl _) o |>.cell (p:=⟨g,0,none⟩) HSd.out.lt).trans k0
  have kg:=kg1 (.cells #[.int .i64 d.Kind,.int .i64 d.By,.int .i64 d.No,.int .i64 d.Seen,.int .i64 d.At,.int .i64 d.Many,.string d.Text] 122)
  clear hds kg1 hn6' hg6' hbsA hiT hzT hsT hbT hzsT hbpT r0
  have HRUN:=Lib.hid hrun
  clear hrun
  obtain ⟨kc6,kf6,kdd6⟩:=HG0.out w6 hg6
  have HDD6:=Lib.hid kdd6
  have HG6:=Lib.hid hg6
  have HN6:=Lib.hid hn6
  have HL7:=Lib.hid (BookAt.taken (w5:=w5.drew) (w6:=w6) (m:=m) (d:=d) HSd.out HFG.out (fun k hk=>HF2.out k hk) HR4.out hown6 hg6 hn6 kc6)
  have HM6:Hid (Moves F w w6):=Lib.hid (HMd.out.trans (Moves.of_grown (F:=fun k=>ownB a cap=some k) HG6.out fun k hk=>hk) (fun k _ hk=>(HR4.out k hk).1))
  have HM7:=Lib.hid (HM6.out.trans (Moves.setCell w6 ⟨g,0,none⟩ (.slice a6 (m.L.length+1) cap6) HFG.out) (fun _ _ k=>k))
  have HDD7:=Lib.hid (HDD6.out.of_block (w':=w6.setCell ⟨g,0,none⟩ (.slice a6 (m.L.length+1) cap6)) (by simp) (Below.heap_setCell w6 ⟨g,0,none⟩ _ _ (fun e=>by simp at e;omega)))
  have HGR:=Lib.hid (show Grows F w (fun k=>k=g∨ownB a6 cap6=some k) from fun k hk=>by
   rcases hk with rfl | hk
   ·exact .inl HFG.out
   ·rcases HN6.out k hk with h | h
    ·exact .inl (HR4.out k h).1
    ·exact .inr (by have:=HMd.out.size;omega))
  clear hown6 hg6 hn6 kdd6 HDD6 HG6 HN6 HM6 HMd HKd HDd HRd HSd HG0
  go_region_law (refine step_known HRUN.out rfl _ _ rfl rfl rfl ?_)
  all_goals
   go_upto_region 13 with fail
   have HX7:=Lib.hid (show (w6.setCell ⟨g,0,none⟩ (.slice a6 (m.L.length+1) cap6)).cell? ⟨g,0,none⟩=some (.slice a6 (m.L.length+1) cap6) from World.cell?_setCell_same _ _ _ kc6)
   generalize w6.setCell ⟨g,0,none⟩ (.slice a6 (m.L.length+1) cap6)=w7 at *
   have f2:=(HFZ.out _ _ _ HL7.out).1
   have c2:=HLA.out _ _ _ HL7.out rfl
   obtain ⟨dlt,d0,d1,d2,d3,d4,d5,d6⟩:=HDD7.out
   rw [HBY.out] at d1
   have HL8:=Lib.hid (HLO.out _ _ _ HL7.out)
   have HM8:=Lib.hid (HMO.out _ HM7.out)
   have HD8:=Lib.hid (HDO.out _ HDD7.out)
   have HX8:=Lib.hid (HXO.out _ _ HX7.out)
   clear d0 d3 d4 d5 d6 HL7 HM7 HDD7 HX7
   go_region
   clear d1 d2 c2 f2 dlt
   go_upto_region 14 with fail
   rw [← HST.out w7]
   generalize st w7=w8 at *
   have f3:=(HFZ.out _ _ _ HL8.out).2
   have c3:=HSA.out _ _ _ HL8.out (by show (upd _ _ _ i).seen=_;rw [upd_same])
   obtain ⟨dlt,d0,d1,d2,d3,d4,d5,d6⟩:=HD8.out
   rw [HBY.out] at d1
   have x0:=HX8.out
   have HE:=Lib.hid (HL8.out.setSeen i HI.out _ HPP.out d.Seen)
   have HM9:=Lib.hid (HMP.out _ HM8.out (.int .i64 d.Seen))
   clear HL8 HM8 HD8 HX8 d0 d2 d4 d5 d6
   go_region
   go_wp2
   go_ret2
   refine ⟨by rw [HT5.out];rfl,_,?_,HM9.out.trans (Moves.drew _) (fun _ _ k=>k),HGR.out⟩
   rw [HT5.out]
   exact (HE.out.drew).congr (by simp only [upd_upd,upd_same])
theorem BTake_c {w:World} {base:Nat} {F:Nat→Prop} {g:Nat} {m:LogM} (h:BookAt w base F g m) (ho:m.Ok) (d:Dd) (hd:d.Text.size≤maxLen) (hdn:i64ok d.No) :
 Calls Tryz.prog 100 #[.pointer (some ⟨g,0,none⟩),.agg #[.int .i64 d.Kind,.int .i64 d.By,.int .i64 d.No,.int .i64 d.Seen,.int .i64 d.At,.int .i64 d.Many,.string d.Text]] w (BTakePost w base F g m d):=by
 cases hx:m.hereF d.By
 ·have HX:=Lib.hid hx
  have HT:=Lib.hid (show m.takeF d=(m,0,5) by unfold LogM.takeF;rw [hx];rfl)
  have hb0:=(Below.refl w.heap.size w).alloc (Nat.le_refl _) (.cells #[.int .i64 d.Kind,.int .i64 d.By,.int .i64 d.No,.int .i64 d.Seen,.int .i64 d.At,.int .i64 d.Many,.string d.Text] 122)
  have HA0:=Lib.hid (h.later hb0)
  have HB0:=Lib.hid hb0
  clear hx h hb0
  go_enter Tryz.func100,Tryz.ntmps100
  go_wp2_with (go_at_call 143;refine (BHere_b HA0.out _ false HX.out).mono ?_;rintro e w0 ⟨rfl,rfl⟩)
  go_ret2
  exact BTakePost.same HT.out HA0.out HB0.out
 ·rcases isWriter_cases (LogM.hereF_writer hx).1 with e | e | e | e
  ·exact BTake_i h ho d hd hdn 0 (by omega) rfl e hx
  ·exact BTake_i h ho d hd hdn 1 (by omega) rfl e hx
  ·exact BTake_i h ho d hd hdn 2 (by omega) rfl e hx
  ·exact BTake_i h ho d hd hdn 3 (by omega) rfl e hx
end Go.Proofs.YtneoeokfffnonaaGreatDoor
