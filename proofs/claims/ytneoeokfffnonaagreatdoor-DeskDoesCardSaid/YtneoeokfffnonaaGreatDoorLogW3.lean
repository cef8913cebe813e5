/- The walk of the log's Take. -/
import Derived.Test.YtneoeokfffnonaaGreatDoorLogW
import Derived.Deep.RegionLaw
set_option linter.unusedVariables false
set_option linter.unusedSimpArgs false
namespace Go.Proofs.YtneoeokfffnonaaGreatDoor
open Go.RowKit
def TakePost (w:World) (base:Nat) (F:Nat→Prop) (g:Nat) (m:LogM) (d:Dd) (e:Ending) (w' : World):Prop:=
 e=.returned (.tuple #[.int .i64 (m.takeF d).2.1,.int .i64 (m.takeF d).2.2])∧∃ F',LogAt w' base F' g (m.takeF d).1∧Moves F w w'∧Grows F w F'
theorem bl_drew' (w:World):Below w.heap.size w w.drew:=⟨rfl,rfl,rfl,Nat.le_refl _,fun _ _=>rfl⟩
theorem TakePost.same {w w' : World} {base:Nat} {F:Nat→Prop} {g:Nat} {m:LogM} {d:Dd} {c:Int} (hT:m.takeF d=(m,0,c)) (hA:LogAt w' base F g m) (hb:Below w.heap.size w w'):TakePost w base F g m d (.returned (.tuple #[.int .i64 0,.int .i64 c])) w':=by
 refine ⟨by rw [hT],F,by rw [hT];exact hA,Moves.of_below hb,fun k hk=>.inl hk⟩
structure Skel (w:World) (g:Nat) (S:Nat→St):Prop where
 lt:g < w.heap.size
 fz:∀ o,o < 14→w.frozen? ⟨g,o,none⟩=false
 here:∀ j,j < 4→w.cell? ⟨g,2+3 * j,none⟩=some (.bool (S j).here)
 last:∀ j,j < 4→w.cell? ⟨g,3+3 * j,none⟩=some (.int .i64 (S j).last)
 seen:∀ j,j < 4→w.cell? ⟨g,4+3 * j,none⟩=some (.int .i64 (S j).seen)
theorem LogAt.skel {w:World} {base:Nat} {F:Nat→Prop} {g:Nat} {m:LogM} (h:LogAt w base F g m):Skel w g m.S:=⟨h.lt,h.fz,h.here,h.last,h.seen⟩
theorem Skel.moves {w w' : World} {g:Nat} {S:Nat→St} (h:Skel w g S) {G:Nat→Prop} (hm:Moves G w w') (hd:¬ G g):Skel w' g S:=by
 have hc:∀ o,w'.cell? ⟨g,o,none⟩=w.cell? ⟨g,o,none⟩:=fun o=>hm.cell h.lt hd o
 exact ⟨Nat.lt_of_lt_of_le h.lt hm.size,fun o ho=>(hm.frozen h.lt hd o).trans (h.fz o ho),fun j hj=>(hc _).trans (h.here j hj),fun j hj=>(hc _).trans (h.last j hj),fun j hj=>(hc _).trans (h.seen j hj)⟩
theorem Skel.store {w:World} {g:Nat} {S:Nat→St} (h:Skel w g S) (i:Nat) (hi:i < 2) (v:Value):Skel (w.setCell ⟨g,i,none⟩ v) g S:=by
 have ho:∀ o,2≤o→(w.setCell ⟨g,i,none⟩ v).cell? ⟨g,o,none⟩=w.cell? ⟨g,o,none⟩:=fun o ho=>World.cell?_setCell_other _ _ _ _ (fun e=>by cases e;omega)
 exact ⟨by simpa using h.lt,fun o ho=>by rw [World.frozen?_setCell];exact h.fz o ho,fun j hj=>(ho _ (by omega)).trans (h.here j hj),fun j hj=>(ho _ (by omega)).trans (h.last j hj),fun j hj=>(ho _ (by omega)).trans (h.seen j hj)⟩
theorem LogAt.taken {w5 w6:World} {base:Nat} {F:Nat→Prop} {g:Nat} {m:LogM} {d:Dd} {a a3 a6:Option Addr} {cap cap3 cap6 B:Nat} {cs:List Ch} (hs:Skel w5 g m.S) (hFg:F g) (hF:∀ k,F k→base≤k∧k < B) (hB:B≤w5.heap.size)
 (ha:∀ k,ownB a cap=some k→F k∧k≠g) (hrow3:OwnRow w5 B 125 7 a3 cs.length cap3 (flat cs)) (hrow6:OwnRow w6 base 122 7 a6 (m.L.length+1) cap6 (flatD m.L++d.cells)) (hgr:w5.grownBy w6 (ownB a cap))
 (hnew:∀ k,ownB a6 cap6=some k→ownB a cap=some k∨w5.heap.size≤k) (S' : Nat→St) (hS:S'=m.S) (hch:(allF (m.L++[d])).1=cs) :
 LogAt (w6.setCell ⟨g,0,none⟩ (.slice a6 (m.L.length+1) cap6)) base (fun k=>k=g∨ownB a6 cap6=some k∨ownB a3 cap3=some k) g ⟨m.L++[d],S'⟩∨w6.cell? ⟨g,1,none⟩≠some (.slice a3 cs.length cap3)∨w6.cell? ⟨g,0,none⟩=none:=by
 by_cases hc1:w6.cell? ⟨g,1,none⟩=some (.slice a3 cs.length cap3)
 case neg=>exact .inr (.inl hc1)
 cases hc0:w6.cell? ⟨g,0,none⟩ with
 | none=>exact .inr (.inr rfl)
 | some v0=>
 left
 subst hS
 have hgB:=(hF g hFg).2
 have hmv:Moves (fun k=>ownB a cap=some k) w5 w6:=Moves.of_grown hgr fun k hk=>hk
 have hs6:=(hs.moves hmv fun e=>(ha g e).2 rfl).store 0 (by omega) (.slice a6 (m.L.length+1) cap6)
 have h3:=hrow3.base_le
 have h6:=hrow6.base_le
 have h3n:∀ k,ownB a3 cap3=some k→ownB a cap≠some k:=fun k hk e=>by have:=(hF k (ha k e).1).2;have:=(h3 k hk).1;omega
 have h36:∀ k,ownB a3 cap3=some k→ownB a6 cap6≠some k:=fun k hk e=>by
  rcases hnew k e with h | h
  ·exact h3n k hk h
  ·have:=(h3 k hk).2;omega
 have hr3:OwnRow w6 base 125 7 a3 cs.length cap3 (flat cs):=(hrow3.moves hmv h3n).mono (by have:=(hF g hFg).1;omega)
 have h6g:∀ k,ownB a6 cap6=some k→k≠g:=fun k hk e=>by
  rcases hnew k hk with h | h
  ·exact (ha k h).2 e
  ·omega
 refine ⟨hs6.lt,.inl rfl,fun k hk=>?_,hs6.fz,⟨a6,cap6,a3,cap3,?_,?_,?_,?_,fun k hk=>⟨.inr (.inl hk),h6g k hk⟩,fun k hk=>⟨.inr (.inr hk),fun e=>by have:=(h3 k hk).1;omega,h36 k hk⟩⟩,hs6.here,hs6.last,hs6.seen⟩
 ·simp only [World.size_setCell]
  rcases hk with rfl | hk | hk
  ·have:=(hF k hFg).1;have:=hs6.lt;simp at this;omega
  ·have:=h6 k hk;omega
  ·have:=hr3.base_le k hk;omega
 ·show (w6.setCell _ _).cell? ⟨g,0,none⟩=some (.slice a6 (m.L++[d]).length cap6)
  rw [List.length_append]
  exact World.cell?_setCell_same _ _ _ hc0
 ·show (w6.setCell _ _).cell? ⟨g,1,none⟩=some (.slice a3 (allF (m.L++[d])).1.length cap3)
  rw [hch,World.cell?_setCell_other _ _ _ _ (fun e=>by cases e)];exact hc1
 ·show OwnRow _ base _ 7 a6 (m.L++[d]).length cap6 (flatD (m.L++[d]))
  rw [List.length_append,flatD_append]
  have:flatD [d]=d.cells:=by simp [flatD]
  rw [this]
  exact hrow6.setCell _ _ h6g
 ·show OwnRow _ base _ 7 a3 (allF (m.L++[d])).1.length cap3 (flat (allF (m.L++[d])).1)
  rw [hch]
  exact hr3.setCell _ _ fun k hk e=>by have:=(h3 k hk).1;simp at e;omega
theorem Do_any (a:Option Addr) (cap:Nat) (l:List Ch) (d:Dd) (number:Int) (n:Nat) (hn:l.length=n) (R:List Ch × Int) (hR:doF l d number=R) (w:World) (hs:SlCh w a cap l) (hnil:a=none→cap=0) (hsz:l.length * 56≤140737488355328) (ht:d.Text.size≤maxLen) (hm:i64ok d.Many) (hG:∀ c∈l,i64ok c.Gone) :
 Calls Tryz.prog 138 #[.slice a n cap,.agg #[.int .i64 d.Kind,.int .i64 d.By,.int .i64 d.No,.int .i64 d.Seen,.int .i64 d.At,.int .i64 d.Many,.string d.Text],.int .i64 number] w fun e w'=>∃ a' cap',e=.returned (.tuple #[.slice a' R.1.length cap',.int .i64 R.2])∧
  OwnRow w' w.heap.size 125 7 a' R.1.length cap' (flat R.1)∧Below w.heap.size w w':=by
 subst hn;subst hR;exact Do_c a cap l d number w hs hnil hsz ht hm hG
theorem LogM.Ok.gone_ok {m:LogM} (h:m.Ok):∀ c∈m.chars,i64ok c.Gone:=by
 intro c hc
 have hm:=h.lok.made m.L.length (Nat.le_refl _)
 rw [pre_len] at hm
 have:=bad1_false (hm.good c hc).b1
 unfold i64ok;omega
set_option maxRecDepth 100000 in
set_option maxHeartbeats 4000000 in
theorem Take_i {w:World} {base:Nat} {F:Nat→Prop} {g:Nat} {m:LogM} (h:LogAt w base F g m) (ho:m.Ok) (d:Dd) (hd:d.Text.size≤maxLen) (hdm:i64ok d.Many) (i:Nat) (hi:i < 4) {b:Int} (hbi:b=i) (hby:d.By=b) (hx:m.hereF d.By=true) :
 Calls Tryz.prog 128 #[.pointer (some ⟨g,0,none⟩),.agg #[.int .i64 d.Kind,.int .i64 d.By,.int .i64 d.No,.int .i64 d.Seen,.int .i64 d.At,.int .i64 d.Many,.string d.Text]] w (TakePost w base F g m d):=by
 have HX:Hid (m.hereF b=true):=Lib.hid (by rw [hby] at hx;exact hx)
 have hb0:=(Below.refl w.heap.size w).alloc (Nat.le_refl _) (.cells #[.int .i64 d.Kind,.int .i64 d.By,.int .i64 d.No,.int .i64 d.Seen,.int .i64 d.At,.int .i64 d.Many,.string d.Text] 122)
 have hd0:=DdAt.new w d
 have ha0:=h.later hb0
 have HA0:=Lib.hid ha0
 have HTS:=Lib.hid hd
 have HDM:=Lib.hid hdm
 have HOK:=Lib.hid ho
 have hlen:=ho.len
 obtain ⟨hl0,hl1⟩:=ho.last_le i hi
 have hn:IntKind.i64.wrap ((m.S i).last+1)=(m.S i).last+1:=by rw [IntKind.wrap_i64];omega
 have hn2:IntKind.i64.wrap ((m.L.length:Int)+1)=(m.L.length:Int)+1:=by rw [IntKind.wrap_i64];omega
 have HS:m.seat d.By=m.S i:=by rw [hby,hbi];rfl
 have hbg:=(h.foot g h.fg).1
 have hglt:=h.lt
 have HFG:=Lib.hid h.fg
 have HFB:=Lib.hid h.foot
 have HBY:=Lib.hid hby
 have HT:=Lib.hid (show m.takeF d=if d.No=(m.S i).last+1 then (if d.Seen < (m.S i).seen∨(m.L.length:Int) < d.Seen then (m,0,8) else if m.L.length=120 then (m,0,9) else if (doF m.chars d ((m.L.length:Int)+1)).2=0 then (⟨m.L++[d],upd m.S i ⟨(m.S i).here,d.No,d.Seen⟩⟩,(m.L.length:Int)+1,0) else (m,0,(doF m.chars d ((m.L.length:Int)+1)).2)) else (m,0,7) by
  have hn:d.By.toNat=i:=by rw [hby,hbi];rfl
  unfold LogM.takeF LogM.seat;rw [hn,if_pos hx])
 obtain ⟨o,hO⟩:∃ o,o=3+3 * i:=⟨_,rfl⟩
 obtain ⟨p,hP⟩:∃ p,p=4+3 * i:=⟨_,rfl⟩
 have HOO:=Lib.hid hO
 have HPP:=Lib.hid hP
 have HFZ:=Lib.hid (show ∀ (w' : World) (F' : Nat→Prop) (m' : LogM),LogAt w' base F' g m'→w'.frozen? ⟨g,o,none⟩=false∧w'.frozen? ⟨g,p,none⟩=false from fun _ _ _ h=>⟨h.fz o (by omega),h.fz p (by omega)⟩)
 have HLA:=Lib.hid (show ∀ (w' : World) (F' : Nat→Prop) (m' : LogM),LogAt w' base F' g m'→m'.S=m.S→w'.cell? ⟨g,o,none⟩=some (.int .i64 (m.S i).last)∧w'.cell? ⟨g,p,none⟩=some (.int .i64 (m.S i).seen) from fun _ _ _ h e=>by rw [hO,hP,← e];exact ⟨h.last i hi,h.seen i hi⟩)
 have HMO:=Lib.hid (show ∀ w7,Moves F w w7→∀ v v',Moves F w ((w7.setCell ⟨g,o,none⟩ v).setCell ⟨g,p,none⟩ v') from fun w7 h v v'=>(h.trans (Moves.setCell w7 ⟨g,o,none⟩ v HFG.out) (fun _ _ k=>k)).trans (Moves.setCell (w7.setCell ⟨g,o,none⟩ v) ⟨g,p,none⟩ v' HFG.out) (fun _ _ k=>k))
 have hb:(b=0∧o=3∧p=4)∨(b=1∧o=6∧p=7)∨(b=2∧o=9∧p=10)∨(b=3∧o=12∧p=13):=by omega
 clear h ho hd hdm hx HS hby hbi hi hO hP
 rcases hb with ⟨rfl,rfl,rfl⟩ | ⟨rfl,rfl,rfl⟩ | ⟨rfl,rfl,rfl⟩ | ⟨rfl,rfl,rfl⟩
 all_goals
  go_enter Tryz.func128,Tryz.ntmps128
  go_upto_region 1 with fail
  generalize hw0:w.alloc (.cells #[.int .i64 d.Kind,.int .i64 d.By,.int .i64 d.No,.int .i64 d.Seen,.int .i64 d.At,.int .i64 d.Many,.string d.Text] 122)=w0 at *
  clear hw0
  obtain ⟨dlt,d0,d1,d2,d3,d4,d5,d6⟩:=hd0
  rw [HBY.out] at d1
  go_wp2_with (go_at_call 159;refine (Here_b HA0.out _ true HX.out).mono ?_;rintro e w0 ⟨rfl,rfl⟩)
  have HD0:=Lib.hid (show DdAt w0 w.heap.size d from ⟨dlt,d0,by rw [HBY.out];exact d1,d2,d3,d4,d5,d6⟩)
  obtain ⟨a,cap,ca,ccap,r0,r1,r2,r3,r4,r5⟩:=HA0.out.rows
  have c2:=(HLA.out _ _ _ HA0.out rfl).1
  have e2:=later_cell c2
  have D1:=later_cell d1
  have D2:=later_cell d2
  have hL:∀ q:Lt w0,Later w0 q.v:=fun q=>q.h
  refine wp_region_mix [] [0,1,2,3,4,5,6,7,8,9,10,11,12] (by kernel_rfl) (by kernel_rfl) ?_
  repeat (refine wpMix_step rfl (fun K hK=>?_);go_simp;refine hK _ _ ?_;clear hK K)
  refine wpMix_nil ?_
  intro w1 hL1
  have HA1:=Lib.hid (HA0.out.later hL1)
  have HD1:=Lib.hid (HD0.out.later hL1)
  have HB1:=Lib.hid (hb0.trans (Below.mono hL1 hb0.size))
  clear e2 D1 D2 hL c2 r0 r1 r2 r3 r4 r5 d0 d1 d2 d3 d4 d5 d6 dlt hb0 hL1
  by_cases h1:d.No=(m.S i).last+1
  case neg=>
   have hne:(d.No !=(m.S i).last+1)=true:=by simpa using h1
   have HT2:=Lib.hid (HT.out.trans (if_neg h1))
   clear HT h1
   go_wp2
   go_ret2
   exact TakePost.same HT2.out HA1.out HB1.out
  have hne:(d.No !=(m.S i).last+1)=false:=by simpa using h1
  have HT2:=Lib.hid (HT.out.trans (if_pos h1))
  have HNo:=Lib.hid h1
  clear HT h1
  obtain ⟨a,cap,ca,ccap,r0,r1,r2,r3,r4,r5⟩:=HA1.out.rows
  have c3:=(HLA.out _ _ _ HA1.out rfl).2
  obtain ⟨dlt,d0,d1,d2,d3,d4,d5,d6⟩:=HD1.out
  rw [HBY.out] at d1
  by_cases h2:d.Seen < (m.S i).seen
  case pos=>
   have h2B:decide (d.Seen < (m.S i).seen)=true:=by simpa using h2
   have HT3:=Lib.hid (HT2.out.trans (if_pos (.inl h2)))
   clear HT2 h2
   go_upto_region 5 with fail
   go_quiet (fail)
   go_wp2
   go_ret2
   exact TakePost.same HT3.out (HA1.out.later (bl_drewN (Below.refl _ _) _)) (bl_drewN HB1.out _)
  have h2B:decide (d.Seen < (m.S i).seen)=false:=by simpa using h2
  by_cases h3:(m.L.length:Int) < d.Seen
  case pos=>
   have h3B:decide ((m.L.length:Int) < d.Seen)=true:=by simpa using h3
   have HT3:=Lib.hid (HT2.out.trans (if_pos (.inr h3)))
   clear HT2 h2 h3
   go_upto_region 5 with fail
   go_quiet (fail)
   go_wp2
   go_ret2
   exact TakePost.same HT3.out (HA1.out.later (bl_drewN (Below.refl _ _) _)) (bl_drewN HB1.out _)
  have h3B:decide ((m.L.length:Int) < d.Seen)=false:=by simpa using h3
  have HT3:=Lib.hid (HT2.out.trans (if_neg (by omega)))
  clear HT2 h2 h3
  go_upto_region 5 with fail
  go_quiet (fail)
  have hL2:Later w1 (w1.drewN nq):=bl_drewN (Below.refl _ _) nq
  clear r0 r1 r2 r3 r4 r5 d0 d1 d2 d3 d4 d5 d6 dlt c3
  generalize w1.drewN nq=w2 at *
  have HA2:=Lib.hid (HA1.out.later hL2)
  have HD2:=Lib.hid (HD1.out.later hL2)
  have HB2:=Lib.hid (HB1.out.trans (Below.mono hL2 HB1.out.size))
  clear hL2 HA1 HD1 HB1
  obtain ⟨a,cap,ca,ccap,r0,r1,r2,r3,r4,r5⟩:=HA2.out.rows
  by_cases h4:m.L.length=120
  case pos=>
   have HT4:=Lib.hid (HT3.out.trans (if_pos h4))
   have h4B:((m.L.length:Int)==120)=true:=by simp;omega
   clear HT3 h4 r1 r2 r3 r4 r5
   go_wp2
   go_ret2
   exact TakePost.same HT4.out HA2.out HB2.out
  have h4B:((m.L.length:Int)==120)=false:=by simp;omega
  have HT4:=Lib.hid (HT3.out.trans (if_neg h4))
  clear HT3 h4
  obtain ⟨R,hR⟩:∃ R,doF m.chars d ((m.L.length:Int)+1)=R:=⟨_,rfl⟩
  have HR:=Lib.hid hR
  rw [hR] at HT4
  have hcl:=HOK.out.chars_len
  have hsC:=r3.slCh
  have HN:=Lib.hid r3.nilcap
  have HGK:=Lib.hid HOK.out.gone_ok
  obtain ⟨CL,hCL⟩:∃ CL,m.chars.length=CL:=⟨_,rfl⟩
  have HCL:=Lib.hid hCL
  rw [hCL] at r1
  have hDO:∀ W,Later w2 W→Calls Tryz.prog 138 #[.slice ca CL ccap,.agg #[.int .i64 d.Kind,.int .i64 d.By,.int .i64 d.No,.int .i64 d.Seen,.int .i64 d.At,.int .i64 d.Many,.string d.Text],.int .i64 ((m.L.length:Int)+1)] W fun e w'=>∃ a' cap',e=.returned (.tuple #[.slice a' R.1.length cap',.int .i64 R.2])∧
   OwnRow w' W.heap.size 125 7 a' R.1.length cap' (flat R.1)∧Below W.heap.size W w':=fun W hW=>
   Do_any ca ccap m.chars d _ CL HCL.out R HR.out W (hsC.below hW) HN.out (by omega) HTS.out HDM.out HGK.out
  have HDO:=Lib.hid hDO
  clear hDO hR hcl hsC hCL r2 r3 r5 r4
  obtain ⟨dlt,d0,d1,d2,d3,d4,d5,d6⟩:=HD2.out
  have e0:=later_cell r0
  have e1:=later_cell r1
  have D0:=later_cell d0
  have D1:=later_cell d1
  have D2:=later_cell d2
  have D3:=later_cell d3
  have D4:=later_cell d4
  have D5:=later_cell d5
  have D6:=later_cell d6
  clear d1 d2 d3 d4 d5 d6 dlt r1 d0
  have hL:∀ q:Lt w2,Later w2 q.v:=fun q=>q.h
  go_upto_region 9 with fail
  refine wp_region_mix [11] [0,1,2,3,4,5,6,7,8,9,10,11,12,13,14,15,16] (by kernel_rfl) (by kernel_rfl) ?_
  iterate 11 (refine wpMix_step rfl (fun K hK=>?_);go_simp;refine hK _ _ ?_;clear hK K)
  refine wpMix_step rfl (fun K hK=>?_)
  go_simp
  intro p
  refine (HDO.out p.v (hL p)).mono ?_
  rintro e w3 ⟨a3,cap3,rfl,ho3,hb3⟩
  refine ⟨_,rfl,hb3,hK _ _ ?_⟩
  clear hK K
  have hp:=hL p
  have HP2:=Lib.hid (show w2.heap.size≤p.v.heap.size from Below.size hp)
  have HB2s:=Lib.hid HB2.out.size
  have HA3:=Lib.hid ((HA2.out.later hp).later hb3)
  have HD3:=Lib.hid ((HD2.out.later hp).later hb3)
  have HB3:=Lib.hid ((HB2.out.trans (Below.mono hp HB2.out.size)).trans (hb3.mono (by have:=HP2.out;have:=HB2.out.size;omega)))
  have HO3:=Lib.hid ho3
  have HF2:=Lib.hid (fun k hk=>HA2.out.foot k hk)
  obtain ⟨B,hB⟩:∃ B,p.v.heap.size=B:=⟨_,rfl⟩
  have HBs:=Lib.hid hb3.size
  rw [hB] at HP2 HO3 HBs
  clear hB ho3 hb3 hp e0 e1 D0 D1 D2 D3 D4 D5 D6 hL HA2 HD2 HB2 r0 HDO
  iterate 5 (refine wpMix_step rfl (fun K hK=>?_);go_simp;refine hK _ _ ?_;clear hK K)
  refine wpMix_nil ?_
  intro w4 hL4
  have HA4:=Lib.hid (HA3.out.later hL4)
  have HD4:=Lib.hid (HD3.out.later hL4)
  have HB4:=Lib.hid (HB3.out.trans (Below.mono hL4 HB3.out.size))
  have HO4:=Lib.hid (HO3.out.below hL4)
  have HS4:=Lib.hid (show B≤w4.heap.size from Nat.le_trans HBs.out (Below.size hL4))
  clear hL4 HA3 HD3 HB3 HO3 HBs
  by_cases h5:R.2=0
  case neg=>
   have HT5:=Lib.hid (HT4.out.trans (if_neg h5))
   have h5B:(R.2 !=0)=true:=by simpa using h5
   clear HT4 h5
   go_wp2
   go_ret2
   exact TakePost.same HT5.out HA4.out HB4.out
  have HT5:=Lib.hid (HT4.out.trans (if_pos h5))
  have h5B:(R.2 !=0)=false:=by simpa using h5
  have HZ:=Lib.hid h5
  clear HT4 h5
  obtain ⟨a,cap,ca,ccap,r0,r1,r2,r3,r4,r5⟩:=HA4.out.rows
  have f1:=HA4.out.fz 1 (by omega)
  have f0:=HA4.out.fz 0 (by omega)
  go_upto_region 13 with fail
  have k0:(w4.setCell ⟨g,1,none⟩ (.slice a3 R.1.length cap3)).cell? ⟨g,0,none⟩=some (.slice a m.L.length cap):=by rw [World.cell?_setCell_other _ _ _ _ (fun e=>by cases e)];exact r0
  have k1:(w4.setCell ⟨g,1,none⟩ (.slice a3 R.1.length cap3)).cell? ⟨g,1,none⟩=some (.slice a3 R.1.length cap3):=World.cell?_setCell_same _ _ _ r1
  have kf:(w4.setCell ⟨g,1,none⟩ (.slice a3 R.1.length cap3)).frozen? ⟨g,0,none⟩=false:=by rw [World.frozen?_setCell];exact f0
  have HSk:=Lib.hid (HA4.out.skel.store 1 (by omega) (.slice a3 R.1.length cap3))
  have HRow:=Lib.hid (r2.setCell (w:=w4) ⟨g,1,none⟩ (.slice a3 R.1.length cap3) fun k hk=>(r4 k hk).2)
  have HO5:=Lib.hid (HO4.out.setCell ⟨g,1,none⟩ (.slice a3 R.1.length cap3) fun k hk e=>by have:=(HO4.out.base_le k hk).1;have:=HP2.out;have:=HF2.out g HFG.out;simp at e;omega)
  have HD5:=Lib.hid (HD4.out.of_block (w':=w4.setCell ⟨g,1,none⟩ (.slice a3 R.1.length cap3)) (by simp) (Below.heap_setCell w4 ⟨g,1,none⟩ _ _ (fun e=>by simp at e;omega)))
  have HM5:=Lib.hid ((Moves.of_below (F:=F) HB4.out).trans (Moves.setCell w4 ⟨g,1,none⟩ (.slice a3 R.1.length cap3) HFG.out) (fun _ _ k=>k))
  have HS5:=Lib.hid (show B≤(w4.setCell ⟨g,1,none⟩ (.slice a3 R.1.length cap3)).heap.size from by simp;exact HS4.out)
  have HR4:=Lib.hid r4
  clear r0 r1 r2 r3 r4 r5 f0 f1 HA4 HD4 HB4 HO4 HS4
  generalize w4.setCell ⟨g,1,none⟩ (.slice a3 R.1.length cap3)=w5 at *
  obtain ⟨dlt,d0,d1,d2,d3,d4,d5,d6⟩:=HD5.out
  have hbs:base≤w5.heap.size:=by have:=HD5.out.lt;omega
  have HSd:=Lib.hid (HSk.out.moves (G:=fun _=>False) (Moves.drew w5) (fun h=>h))
  have HRd:=Lib.hid HRow.out.drew
  have HOd:=Lib.hid HO5.out.drew
  have HDd:=Lib.hid (HD5.out.later (bl_drew' w5))
  have HMd:=Lib.hid (HM5.out.trans (Moves.drew (F:=F) w5) (fun _ _ k=>k))
  have HKd:=Lib.hid (show w5.drew.cell? ⟨g,0,none⟩=some (.slice a m.L.length cap)∧w5.drew.cell? ⟨g,1,none⟩=some (.slice a3 R.1.length cap3)∧w5.drew.frozen? ⟨g,0,none⟩=false from ⟨k0,k1,kf⟩)
  have HSz:=Lib.hid (show B≤w5.drew.heap.size from HS5.out)
  have hbs:base≤w5.drew.heap.size:=hbs
  clear HSk HRow HO5 HD5 HM5 HS5 k1
  have HG0:=Lib.hid (show ∀ w6,w5.drew.grownBy w6 (ownB a cap)→w6.cell? ⟨g,0,none⟩=some (.slice a m.L.length cap)∧w6.frozen? ⟨g,0,none⟩=false∧w6.cell? ⟨g,1,none⟩=some (.slice a3 R.1.length cap3)∧DdAt w6 w.heap.size d from fun w6 hg6=>by
   have hm6:Moves (fun k=>ownB a cap=some k) w5.drew w6:=Moves.of_grown hg6 fun k hk=>hk
   have hn:¬ ownB a cap=some g:=fun e=>(HR4.out g e).2 rfl
   have hnb:¬ ownB a cap=some w.heap.size:=fun e=>by have:=(HFB.out _ (HR4.out _ e).1).2;omega
   exact ⟨(hm6.cell HSd.out.lt hn 0).trans HKd.out.1,(hm6.frozen HSd.out.lt hn 0).trans HKd.out.2.2,(hm6.cell HSd.out.lt hn 1).trans HKd.out.2.1,HDd.out.of_block hm6.size (hm6.block _ HDd.out.lt hnb)⟩)
  obtain ⟨iT,zT,hiT,hzT,hsT,hbT,hzsT,hbpT⟩:=ti_Deed
  have hds:(w5.drew.alloc (.cells (Dd.cells d).toArray 122)).heap.size=w5.drew.heap.size+1:=by rw [World.size_alloc]
  have hbsA:base≤(w5.drew.alloc (.cells (Dd.cells d).toArray 122)).heap.size:=by omega
  obtain ⟨a6,cap6,w6,hrun,hown6,hg6',hn6'⟩:=run_append_row2 (P:=Tryz.prog) (w5.drew.alloc (.cells (Dd.cells d).toArray 122)) base 60 60 122 iT zT 7 64 Tryz.underlying60 hiT hzT hsT hbT hzsT a m.L.length cap _ (HRd.out.alloc _)
   (some ⟨w5.drew.heap.size,0,none⟩) 1 1 (Dd.cells d) rfl (.inr ⟨_,rfl,fun j u hu=>by rw [Addr.add_lit,Nat.zero_add,World.cell?_alloc_new];simpa using hu⟩) (Dd.cells_one d) (by unfold maxLen;omega) (by omega) hbsA
  have hg6:w5.drew.grownBy w6 (ownB a cap):=⟨hg6'.os,hg6'.tape,hg6'.output,by have:=hg6'.size;omega,fun k hk hne=>(hg6'.block k (by omega) hne).trans (Below.heap_alloc _ _ _ hk)⟩
  have hn6:∀ k,ownB a6 cap6=some k→ownB a cap=some k∨w5.drew.heap.size≤k:=fun k hk=>by rcases hn6' k hk with h | h;exact .inl h;exact .inr (by omega)
  have kg1:∀ o,(w5.alloc o).cell? ⟨g,0,none⟩=some (.slice a m.L.length cap):=fun o=>((Below.refl w5.heap.size w5).alloc (Nat.le_refl _) o |>.cell (p:=⟨g,0,none⟩) HSd.out.lt).trans k0
  have kg:=kg1 (.cells #[.int .i64 d.Kind,.int .i64 d.By,.int .i64 d.No,.int .i64 d.Seen,.int .i64 d.At,.int .i64 d.Many,.string d.Text] 122)
  clear hds kg1 hn6' hg6' hbsA hiT hzT hsT hbT hzsT hbpT
  have HRUN:=Lib.hid hrun
  clear hrun
  obtain ⟨kc6,kf6,kd6,kdd6⟩:=HG0.out w6 hg6
  have HDD6:=Lib.hid kdd6
  have HO6:=Lib.hid hown6
  have HG6:=Lib.hid hg6
  have HN6:=Lib.hid hn6
  have HKD6:=Lib.hid kd6
  have HKC6:=Lib.hid kc6
  clear hown6 hg6 hn6 kdd6 kd6
  have hch:=Lib.hid (show (allF (m.L++[d])).1=R.1 from by
   have:=LogM.take_chars HOK.out d (by rw [HT5.out])
   rw [HT5.out] at this
   exact this.trans (by rw [HR.out]))
  have HTK:=Lib.hid (LogAt.taken (w5:=w5.drew) (w6:=w6) (m:=m) (d:=d) (B:=B) HSd.out HFG.out (fun k hk=>⟨(HF2.out k hk).1,Nat.lt_of_lt_of_le (HF2.out k hk).2 HP2.out⟩) HSz.out HR4.out HOd.out HO6.out HG6.out HN6.out m.S rfl hch.out)
  have HL7:=Lib.hid (HTK.out.resolve_right (fun h=>by rcases h with h | h;exact h HKD6.out;rw [HKC6.out] at h;cases h))
  have HM6:Hid (Moves F w w6):=Lib.hid (HMd.out.trans (Moves.of_grown (F:=fun k=>ownB a cap=some k) HG6.out fun k hk=>hk) (fun k _ hk=>(HR4.out k hk).1))
  have HM7:=Lib.hid (HM6.out.trans (Moves.setCell w6 ⟨g,0,none⟩ (.slice a6 (m.L.length+1) cap6) HFG.out) (fun _ _ k=>k))
  have HDD7:=Lib.hid (HDD6.out.of_block (w':=w6.setCell ⟨g,0,none⟩ (.slice a6 (m.L.length+1) cap6)) (by simp) (Below.heap_setCell w6 ⟨g,0,none⟩ _ _ (fun e=>by simp at e;omega)))
  have k7:(w6.setCell ⟨g,0,none⟩ (.slice a6 (m.L.length+1) cap6)).cell? ⟨g,0,none⟩=some (.slice a6 (m.L.length+1) cap6):=World.cell?_setCell_same _ _ _ kc6
  have HGR:=Lib.hid (show Grows F w (fun k=>k=g∨ownB a6 cap6=some k∨ownB a3 cap3=some k) from fun k hk=>by
   rcases hk with rfl | hk | hk
   ·exact .inl HFG.out
   ·rcases HN6.out k hk with h | h
    ·exact .inl (HR4.out k h).1
    ·exact .inr (by have:=HMd.out.size;omega)
   ·exact .inr (by have:=(HOd.out.base_le k hk).1;have:=HP2.out;have:=HB2s.out;omega))
  clear HKD6 HKC6 HDD6 HO6 HG6 HN6 HTK HM6 HMd HSz HKd HDd HOd HRd HSd HG0
  go_region_law (refine step_known HRUN.out rfl _ _ rfl rfl rfl ?_)
  all_goals
   go_upto_region 14 with fail
   generalize w6.setCell ⟨g,0,none⟩ (.slice a6 (m.L.length+1) cap6)=w7 at *
   obtain ⟨c2,c3⟩:=HLA.out _ _ _ HL7.out rfl
   obtain ⟨f2,f3⟩:=HFZ.out _ _ _ HL7.out
   obtain ⟨dlt,d0,d1,d2,d3,d4,d5,d6⟩:=HDD7.out
   rw [HBY.out] at d1
   have HE:=Lib.hid ((HL7.out.setLast i _ HOO.out d.No).setSeen i _ HPP.out d.Seen)
   have HM8:=Lib.hid (HMO.out _ HM7.out)
   clear HDD7 HL7 HM7 dlt d0 d4 d5 d6
   go_region
   go_wp2
   go_ret2
   refine ⟨by rw [HT5.out];rfl,_,?_,(HM8.out _ _).trans (Moves.drew _) (fun _ _ k=>k),HGR.out⟩
   rw [HT5.out]
   exact (HE.out.drew).congr (by simp only [upd_upd,upd_same])
theorem Take_c {w:World} {base:Nat} {F:Nat→Prop} {g:Nat} {m:LogM} (h:LogAt w base F g m) (ho:m.Ok) (d:Dd) (hd:d.Text.size≤maxLen) (hdm:i64ok d.Many) :
 Calls Tryz.prog 128 #[.pointer (some ⟨g,0,none⟩),.agg #[.int .i64 d.Kind,.int .i64 d.By,.int .i64 d.No,.int .i64 d.Seen,.int .i64 d.At,.int .i64 d.Many,.string d.Text]] w (TakePost w base F g m d):=by
 cases hx:m.hereF d.By
 ·have HX:=Lib.hid hx
  have HT:=Lib.hid (show m.takeF d=(m,0,5) by unfold LogM.takeF;rw [hx];rfl)
  have hb0:=(Below.refl w.heap.size w).alloc (Nat.le_refl _) (.cells #[.int .i64 d.Kind,.int .i64 d.By,.int .i64 d.No,.int .i64 d.Seen,.int .i64 d.At,.int .i64 d.Many,.string d.Text] 122)
  have HA0:=Lib.hid (h.later hb0)
  have HB0:=Lib.hid hb0
  clear hx h hb0
  go_enter Tryz.func128,Tryz.ntmps128
  go_wp2_with (go_at_call 159;refine (Here_b HA0.out _ false HX.out).mono ?_;rintro e w0 ⟨rfl,rfl⟩)
  go_ret2
  exact TakePost.same HT.out HA0.out HB0.out
 ·rcases isWriter_cases (LogM.hereF_writer hx).1 with e | e | e | e
  ·exact Take_i h ho d hd hdm 0 (by omega) rfl e hx
  ·exact Take_i h ho d hd hdm 1 (by omega) rfl e hx
  ·exact Take_i h ho d hd hdm 2 (by omega) rfl e hx
  ·exact Take_i h ho d hd hdm 3 (by omega) rfl e hx
end Go.Proofs.YtneoeokfffnonaaGreatDoor
