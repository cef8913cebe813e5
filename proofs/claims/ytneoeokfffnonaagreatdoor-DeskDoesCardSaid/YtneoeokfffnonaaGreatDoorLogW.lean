/- Merged: LogObj LogW LogW2. -/
import Derived.Test.YtneoeokfffnonaaGreatDoorDoW
set_option linter.unusedVariables false
set_option linter.unusedSimpArgs false
namespace Go.Proofs.YtneoeokfffnonaaGreatDoor
open Go.RowKit
structure LogAt (w:World) (base:Nat) (F:Nat→Prop) (g:Nat) (m:LogM):Prop where
 lt:g < w.heap.size
 fg:F g
 foot:∀ k,F k→base≤k∧k < w.heap.size
 fz:∀ o,o < 14→w.frozen? ⟨g,o,none⟩=false
 rows:∃ a cap ca ccap,w.cell? ⟨g,0,none⟩=some (.slice a m.L.length cap)∧w.cell? ⟨g,1,none⟩=some (.slice ca m.chars.length ccap)∧
  OwnRow w base 122 7 a m.L.length cap (flatD m.L)∧OwnRow w base 125 7 ca m.chars.length ccap (flat m.chars)∧
  (∀ k,ownB a cap=some k→F k∧k≠g)∧(∀ k,ownB ca ccap=some k→F k∧k≠g∧ownB a cap≠some k)
 here:∀ j,j < 4→w.cell? ⟨g,2+3 * j,none⟩=some (.bool (m.S j).here)
 last:∀ j,j < 4→w.cell? ⟨g,3+3 * j,none⟩=some (.int .i64 (m.S j).last)
 seen:∀ j,j < 4→w.cell? ⟨g,4+3 * j,none⟩=some (.int .i64 (m.S j).seen)
section
variable {w w' : World} {base:Nat} {F:Nat→Prop} {g:Nat} {m:LogM}
theorem LogAt.moves (h:LogAt w base F g m) {G:Nat→Prop} (hm:Moves G w w') (hd:∀ k,F k→¬ G k):LogAt w' base F g m:=by
 have hc:∀ o,w'.cell? ⟨g,o,none⟩=w.cell? ⟨g,o,none⟩:=fun o=>hm.cell h.lt (hd g h.fg) o
 obtain ⟨a,cap,ca,ccap,r0,r1,r2,r3,r4,r5⟩:=h.rows
 refine ⟨Nat.lt_of_lt_of_le h.lt hm.size,h.fg,fun k hk=>⟨(h.foot k hk).1,Nat.lt_of_lt_of_le (h.foot k hk).2 hm.size⟩,fun o ho=>(hm.frozen h.lt (hd g h.fg) o).trans (h.fz o ho),
  ⟨a,cap,ca,ccap,(hc _).trans r0,(hc _).trans r1,r2.moves hm fun k hk=>hd k (r4 k hk).1,r3.moves hm fun k hk=>hd k (r5 k hk).1,r4,r5⟩,
  fun j hj=>(hc _).trans (h.here j hj),fun j hj=>(hc _).trans (h.last j hj),fun j hj=>(hc _).trans (h.seen j hj)⟩
theorem LogAt.later (h:LogAt w base F g m) (hl:Below w.heap.size w w'):LogAt w' base F g m:=by
 have hb:Moves (fun k=>w.heap.size≤k) w w':=Moves.of_below hl
 exact h.moves hb fun k hk=>by have:=(h.foot k hk).2;omega
theorem LogAt.store (h:LogAt w base F g m) (i:Nat) (hi:2≤i) (v:Value) (m' : LogM) (hL:m'.L=m.L)
 (h1:∀ j,j < 4→(if 2+3 * j=i then v=.bool (m'.S j).here else (m'.S j).here=(m.S j).here))
 (h2:∀ j,j < 4→(if 3+3 * j=i then v=.int .i64 (m'.S j).last else (m'.S j).last=(m.S j).last))
 (h3:∀ j,j < 4→(if 4+3 * j=i then v=.int .i64 (m'.S j).seen else (m'.S j).seen=(m.S j).seen)):LogAt (w.setCell ⟨g,i,none⟩ v) base F g m':=by
 obtain ⟨a,cap,ca,ccap,r0,r1,r2,r3,r4,r5⟩:=h.rows
 have hch:m'.chars=m.chars:=by unfold LogM.chars;rw [hL]
 have ho:∀ o,o≠i→(w.setCell ⟨g,i,none⟩ v).cell? ⟨g,o,none⟩=w.cell? ⟨g,o,none⟩:=fun o ho=>World.cell?_setCell_other _ _ _ _ (fun e=>ho (by cases e;rfl))
 have hs:∀ o u,o=i→w.cell? ⟨g,o,none⟩=some u→(w.setCell ⟨g,i,none⟩ v).cell? ⟨g,o,none⟩=some v:=fun o u e hu=>by subst e;exact World.cell?_setCell_same _ _ _ hu
 refine ⟨by simpa using h.lt,h.fg,fun k hk=>⟨(h.foot k hk).1,by simpa using (h.foot k hk).2⟩,fun o ho=>by rw [World.frozen?_setCell];exact h.fz o ho,
  ⟨a,cap,ca,ccap,by rw [ho 0 (by omega),hL];exact r0,by rw [ho 1 (by omega),hch];exact r1,by rw [hL];exact r2.setCell _ _ fun k hk=>(r4 k hk).2,by rw [hch];exact r3.setCell _ _ fun k hk=>(r5 k hk).2.1,r4,r5⟩,
  fun j hj=>?_,fun j hj=>?_,fun j hj=>?_⟩
 ·have:=h1 j hj
  by_cases e:2+3 * j=i
  ·rw [if_pos e] at this;rw [hs _ _ e (h.here j hj),this]
  ·rw [if_neg e] at this;rw [ho _ e,this];exact h.here j hj
 ·have:=h2 j hj
  by_cases e:3+3 * j=i
  ·rw [if_pos e] at this;rw [hs _ _ e (h.last j hj),this]
  ·rw [if_neg e] at this;rw [ho _ e,this];exact h.last j hj
 ·have:=h3 j hj
  by_cases e:4+3 * j=i
  ·rw [if_pos e] at this;rw [hs _ _ e (h.seen j hj),this]
  ·rw [if_neg e] at this;rw [ho _ e,this];exact h.seen j hj
theorem LogAt.setHere (h:LogAt w base F g m) (j:Nat) (i:Nat) (hi:i=2+3 * j) (b:Bool):LogAt (w.setCell ⟨g,i,none⟩ (.bool b)) base F g { m with S:=upd m.S j ⟨b,(m.S j).last,(m.S j).seen⟩ }:=by
 subst hi
 refine h.store _ (by omega) _ _ rfl (fun k _=>?_) (fun k _=>?_) (fun k _=>?_)
 ·by_cases e:k=j
  ·subst e;rw [if_pos rfl];simp
  ·rw [if_neg (by omega)];simp [upd_ne _ _ _ _ e]
 ·rw [if_neg (by omega)]
  by_cases e:k=j
  ·subst e;simp
  ·simp [upd_ne _ _ _ _ e]
 ·rw [if_neg (by omega)]
  by_cases e:k=j
  ·subst e;simp
  ·simp [upd_ne _ _ _ _ e]
theorem LogAt.setLast (h:LogAt w base F g m) (j:Nat) (i:Nat) (hi:i=3+3 * j) (n:Int):LogAt (w.setCell ⟨g,i,none⟩ (.int .i64 n)) base F g { m with S:=upd m.S j ⟨(m.S j).here,n,(m.S j).seen⟩ }:=by
 subst hi
 refine h.store _ (by omega) _ _ rfl (fun k _=>?_) (fun k _=>?_) (fun k _=>?_)
 ·rw [if_neg (by omega)]
  by_cases e:k=j
  ·subst e;simp
  ·simp [upd_ne _ _ _ _ e]
 ·by_cases e:k=j
  ·subst e;rw [if_pos rfl];simp
  ·rw [if_neg (by omega)];simp [upd_ne _ _ _ _ e]
 ·rw [if_neg (by omega)]
  by_cases e:k=j
  ·subst e;simp
  ·simp [upd_ne _ _ _ _ e]
theorem LogAt.setSeen (h:LogAt w base F g m) (j:Nat) (i:Nat) (hi:i=4+3 * j) (n:Int):LogAt (w.setCell ⟨g,i,none⟩ (.int .i64 n)) base F g { m with S:=upd m.S j ⟨(m.S j).here,(m.S j).last,n⟩ }:=by
 subst hi
 refine h.store _ (by omega) _ _ rfl (fun k _=>?_) (fun k _=>?_) (fun k _=>?_)
 ·rw [if_neg (by omega)]
  by_cases e:k=j
  ·subst e;simp
  ·simp [upd_ne _ _ _ _ e]
 ·rw [if_neg (by omega)]
  by_cases e:k=j
  ·subst e;simp
  ·simp [upd_ne _ _ _ _ e]
 ·by_cases e:k=j
  ·subst e;rw [if_pos rfl];simp
  ·rw [if_neg (by omega)];simp [upd_ne _ _ _ _ e]
end
theorem upd_upd (S:Nat→St) (i:Nat) (s t:St):upd (upd S i s) i t=upd S i t:=by
 funext j;unfold upd;split <;> rfl
end Go.Proofs.YtneoeokfffnonaaGreatDoor
namespace Go.Proofs.YtneoeokfffnonaaGreatDoor
open Go.RowKit
theorem Moves.drew {F:Nat→Prop} (w:World):Moves F w w.drew:=⟨rfl,rfl,rfl,Nat.le_refl _,fun _ _ _=>rfl⟩
theorem LogAt.drew {w:World} {base:Nat} {F:Nat→Prop} {g:Nat} {m:LogM} (h:LogAt w base F g m):LogAt w.drew base F g m:=h.moves (G:=fun _=>False) (Moves.drew w) (fun _ _ h=>h)
theorem LogAt.congr {w:World} {base:Nat} {F:Nat→Prop} {g:Nat} {m m' : LogM} (h:LogAt w base F g m) (e:m=m'):LogAt w base F g m':=e ▸ h
theorem LogM.Ok.last_le {m:LogM} (h:m.Ok) (j:Nat) (hj:j < 4):0≤(m.S j).last∧(m.S j).last≤120:=by
 have hw:isWriter (j:Int)=true:=by simp [isWriter];omega
 have h1:=h.last j hw
 have h2:=cntBy_le j m.L
 have h3:=cntBy_nonneg j m.L
 have h4:=h.len
 unfold LogM.seat at h1
 simp at h1
 omega
section
variable {w:World} {base:Nat} {F:Nat→Prop} {g:Nat} {m:LogM}
theorem Len_c (h:LogAt w base F g m):Calls Tryz.prog 58 #[.pointer (some ⟨g,0,none⟩)] w fun e w'=>e=.returned (.int .i64 m.L.length)∧w'=w:=by
 obtain ⟨a,cap,ca,ccap,r0,_⟩:=h.rows
 go_enter Tryz.func58,Tryz.ntmps58
 go_wp2
 go_ret
 exact ⟨rfl,rfl⟩
theorem Here_c (h:LogAt w base F g m) (x:Int):Calls Tryz.prog 159 #[.pointer (some ⟨g,0,none⟩),.int .i64 x] w fun e w'=>e=.returned (.bool (m.hereF x))∧w'=w:=by
 cases hx:isWriter x
 ·have Hf:=Lib.hid (show m.hereF x=false by unfold LogM.hereF;rw [hx];rfl)
  go_enter Tryz.func159,Tryz.ntmps159
  go_wp2_with (go_at_call 125;refine (Writer_c _ _).mono ?_;rintro e w' ⟨rfl,rfl⟩)
  go_ret
  exact ⟨by rw [Hf.out];rfl,rfl⟩
 ·have Hf:=Lib.hid (show m.hereF x=(m.S x.toNat).here by unfold LogM.hereF LogM.seat;rw [hx];rfl)
  have H0:=h.here 0 (by omega)
  have H1:=h.here 1 (by omega)
  have H2:=h.here 2 (by omega)
  have H3:=h.here 3 (by omega)
  simp only [Nat.mul_zero,Nat.mul_one,Nat.add_zero,Nat.reduceMul,Nat.reduceAdd] at H0 H1 H2 H3
  rcases isWriter_cases hx with rfl | rfl | rfl | rfl
  all_goals
   go_enter Tryz.func159,Tryz.ntmps159
   go_wp2_with (go_at_call 125;refine (Writer_c _ _).mono ?_;rintro e w' ⟨rfl,rfl⟩)
   go_ret
   exact ⟨by rw [Hf.out];rfl,rfl⟩
theorem Here_b (h:LogAt w base F g m) (x:Int) (b:Bool) (hb:m.hereF x=b):Calls Tryz.prog 159 #[.pointer (some ⟨g,0,none⟩),.int .i64 x] w fun e w'=>e=.returned (.bool b)∧w'=w:=by subst hb;exact Here_c h x
theorem Join_c (h:LogAt w base F g m) (x:Int) (ho:m.Ok):Calls Tryz.prog 122 #[.pointer (some ⟨g,0,none⟩),.int .i64 x] w fun e w'=>
 e=.returned (.tuple #[.int .i64 (m.joinF x).2.1,.int .i64 (m.joinF x).2.2])∧LogAt w' base F g (m.joinF x).1∧Moves F w w':=by
 have HL:=Lib.hid h
 cases hx:isWriter x
 ·have Hf:=Lib.hid (show m.joinF x=(m,0,1) by unfold LogM.joinF;rw [hx];rfl)
  go_enter Tryz.func122,Tryz.ntmps122
  go_wp2_with (go_at_call 125;refine (Writer_c _ _).mono ?_;rintro e w' ⟨rfl,rfl⟩)
  go_ret2
  exact ⟨by rw [Hf.out];rfl,by rw [Hf.out];exact HL.out,Moves.refl _ _⟩
 ·obtain ⟨a,cap,ca,ccap,r0,_⟩:=h.rows
  rcases isWriter_cases hx with rfl | rfl | rfl | rfl
  ·have Hf:=Lib.hid (show m.joinF 0=if (m.S 0).here then (m,0,6) else (⟨m.L,upd m.S 0 ⟨true,(m.S 0).last,m.L.length⟩⟩,(m.S 0).last+1,0) by unfold LogM.joinF LogM.seat LogM.put;rw [hx];rfl)
   have c1:w.cell? ⟨g,2,none⟩=some (.bool (m.S 0).here):=h.here 0 (by omega)
   have c2:w.cell? ⟨g,3,none⟩=some (.int .i64 (m.S 0).last):=h.last 0 (by omega)
   have c3:w.cell? ⟨g,4,none⟩=some (.int .i64 (m.S 0).seen):=h.seen 0 (by omega)
   have f1:=h.fz 2 (by omega)
   have f3:=h.fz 4 (by omega)
   obtain ⟨hl0,hl1⟩:=ho.last_le 0 (by omega)
   have hn:IntKind.i64.wrap ((m.S 0).last+1)=(m.S 0).last+1:=by rw [IntKind.wrap_i64];omega
   have HE:=Lib.hid ((((h.setHere 0 2 rfl true).setSeen 0 4 rfl m.L.length).drew).congr (show _=(⟨m.L,upd m.S 0 ⟨true,(m.S 0).last,m.L.length⟩⟩:LogM) by simp only [upd_upd,upd_same]))
   have HM:=Lib.hid (fun v v'=>((Moves.setCell w ⟨g,2,none⟩ v h.fg).trans (Moves.setCell (w.setCell ⟨g,2,none⟩ v) ⟨g,4,none⟩ v' h.fg) (fun _ _ k=>k)).trans (Moves.drew _) (fun _ _ k=>k))
   clear h ho
   cases hh:(m.S 0).here
   all_goals
    rw [hh] at c1
    go_enter Tryz.func122,Tryz.ntmps122
    go_wp2_with (go_at_call 125;refine (Writer_c _ _).mono ?_;rintro e w' ⟨rfl,rfl⟩)
   ·go_region
    go_wp2
    go_ret2
    rw [Hf.out,hh]
    exact ⟨rfl,HE.out,HM.out _ _⟩
   ·go_ret2
    rw [Hf.out,hh]
    exact ⟨rfl,HL.out,Moves.refl _ _⟩
  ·have Hf:=Lib.hid (show m.joinF 1=if (m.S 1).here then (m,0,6) else (⟨m.L,upd m.S 1 ⟨true,(m.S 1).last,m.L.length⟩⟩,(m.S 1).last+1,0) by unfold LogM.joinF LogM.seat LogM.put;rw [hx];rfl)
   have c1:w.cell? ⟨g,5,none⟩=some (.bool (m.S 1).here):=h.here 1 (by omega)
   have c2:w.cell? ⟨g,6,none⟩=some (.int .i64 (m.S 1).last):=h.last 1 (by omega)
   have c3:w.cell? ⟨g,7,none⟩=some (.int .i64 (m.S 1).seen):=h.seen 1 (by omega)
   have f1:=h.fz 5 (by omega)
   have f3:=h.fz 7 (by omega)
   obtain ⟨hl0,hl1⟩:=ho.last_le 1 (by omega)
   have hn:IntKind.i64.wrap ((m.S 1).last+1)=(m.S 1).last+1:=by rw [IntKind.wrap_i64];omega
   have HE:=Lib.hid ((((h.setHere 1 5 rfl true).setSeen 1 7 rfl m.L.length).drew).congr (show _=(⟨m.L,upd m.S 1 ⟨true,(m.S 1).last,m.L.length⟩⟩:LogM) by simp only [upd_upd,upd_same]))
   have HM:=Lib.hid (fun v v'=>((Moves.setCell w ⟨g,5,none⟩ v h.fg).trans (Moves.setCell (w.setCell ⟨g,5,none⟩ v) ⟨g,7,none⟩ v' h.fg) (fun _ _ k=>k)).trans (Moves.drew _) (fun _ _ k=>k))
   clear h ho
   cases hh:(m.S 1).here
   all_goals
    rw [hh] at c1
    go_enter Tryz.func122,Tryz.ntmps122
    go_wp2_with (go_at_call 125;refine (Writer_c _ _).mono ?_;rintro e w' ⟨rfl,rfl⟩)
   ·go_region
    go_wp2
    go_ret2
    rw [Hf.out,hh]
    exact ⟨rfl,HE.out,HM.out _ _⟩
   ·go_ret2
    rw [Hf.out,hh]
    exact ⟨rfl,HL.out,Moves.refl _ _⟩
  ·have Hf:=Lib.hid (show m.joinF 2=if (m.S 2).here then (m,0,6) else (⟨m.L,upd m.S 2 ⟨true,(m.S 2).last,m.L.length⟩⟩,(m.S 2).last+1,0) by unfold LogM.joinF LogM.seat LogM.put;rw [hx];rfl)
   have c1:w.cell? ⟨g,8,none⟩=some (.bool (m.S 2).here):=h.here 2 (by omega)
   have c2:w.cell? ⟨g,9,none⟩=some (.int .i64 (m.S 2).last):=h.last 2 (by omega)
   have c3:w.cell? ⟨g,10,none⟩=some (.int .i64 (m.S 2).seen):=h.seen 2 (by omega)
   have f1:=h.fz 8 (by omega)
   have f3:=h.fz 10 (by omega)
   obtain ⟨hl0,hl1⟩:=ho.last_le 2 (by omega)
   have hn:IntKind.i64.wrap ((m.S 2).last+1)=(m.S 2).last+1:=by rw [IntKind.wrap_i64];omega
   have HE:=Lib.hid ((((h.setHere 2 8 rfl true).setSeen 2 10 rfl m.L.length).drew).congr (show _=(⟨m.L,upd m.S 2 ⟨true,(m.S 2).last,m.L.length⟩⟩:LogM) by simp only [upd_upd,upd_same]))
   have HM:=Lib.hid (fun v v'=>((Moves.setCell w ⟨g,8,none⟩ v h.fg).trans (Moves.setCell (w.setCell ⟨g,8,none⟩ v) ⟨g,10,none⟩ v' h.fg) (fun _ _ k=>k)).trans (Moves.drew _) (fun _ _ k=>k))
   clear h ho
   cases hh:(m.S 2).here
   all_goals
    rw [hh] at c1
    go_enter Tryz.func122,Tryz.ntmps122
    go_wp2_with (go_at_call 125;refine (Writer_c _ _).mono ?_;rintro e w' ⟨rfl,rfl⟩)
   ·go_region
    go_wp2
    go_ret2
    rw [Hf.out,hh]
    exact ⟨rfl,HE.out,HM.out _ _⟩
   ·go_ret2
    rw [Hf.out,hh]
    exact ⟨rfl,HL.out,Moves.refl _ _⟩
  ·have Hf:=Lib.hid (show m.joinF 3=if (m.S 3).here then (m,0,6) else (⟨m.L,upd m.S 3 ⟨true,(m.S 3).last,m.L.length⟩⟩,(m.S 3).last+1,0) by unfold LogM.joinF LogM.seat LogM.put;rw [hx];rfl)
   have c1:w.cell? ⟨g,11,none⟩=some (.bool (m.S 3).here):=h.here 3 (by omega)
   have c2:w.cell? ⟨g,12,none⟩=some (.int .i64 (m.S 3).last):=h.last 3 (by omega)
   have c3:w.cell? ⟨g,13,none⟩=some (.int .i64 (m.S 3).seen):=h.seen 3 (by omega)
   have f1:=h.fz 11 (by omega)
   have f3:=h.fz 13 (by omega)
   obtain ⟨hl0,hl1⟩:=ho.last_le 3 (by omega)
   have hn:IntKind.i64.wrap ((m.S 3).last+1)=(m.S 3).last+1:=by rw [IntKind.wrap_i64];omega
   have HE:=Lib.hid ((((h.setHere 3 11 rfl true).setSeen 3 13 rfl m.L.length).drew).congr (show _=(⟨m.L,upd m.S 3 ⟨true,(m.S 3).last,m.L.length⟩⟩:LogM) by simp only [upd_upd,upd_same]))
   have HM:=Lib.hid (fun v v'=>((Moves.setCell w ⟨g,11,none⟩ v h.fg).trans (Moves.setCell (w.setCell ⟨g,11,none⟩ v) ⟨g,13,none⟩ v' h.fg) (fun _ _ k=>k)).trans (Moves.drew _) (fun _ _ k=>k))
   clear h ho
   cases hh:(m.S 3).here
   all_goals
    rw [hh] at c1
    go_enter Tryz.func122,Tryz.ntmps122
    go_wp2_with (go_at_call 125;refine (Writer_c _ _).mono ?_;rintro e w' ⟨rfl,rfl⟩)
   ·go_region
    go_wp2
    go_ret2
    rw [Hf.out,hh]
    exact ⟨rfl,HE.out,HM.out _ _⟩
   ·go_ret2
    rw [Hf.out,hh]
    exact ⟨rfl,HL.out,Moves.refl _ _⟩
theorem Leave_c (h:LogAt w base F g m) (x:Int):Calls Tryz.prog 134 #[.pointer (some ⟨g,0,none⟩),.int .i64 x] w fun e w'=>
 e=.returned (.int .i64 (m.leaveF x).2)∧LogAt w' base F g (m.leaveF x).1∧Moves F w w':=by
 have HL:=Lib.hid h
 cases hx:m.hereF x
 ·have Hf:=Lib.hid (show m.leaveF x=(m,5) by unfold LogM.leaveF;rw [hx];rfl)
  have HX:=Lib.hid hx
  clear hx
  go_enter Tryz.func134,Tryz.ntmps134
  go_wp2_with (go_at_call 159;refine (Here_b (by assumption) _ _ (Hid.out (by assumption))).mono ?_;rintro e w' ⟨rfl,rfl⟩)
  go_ret
  exact ⟨by rw [Hf.out];rfl,by rw [Hf.out];exact HL.out,Moves.refl _ _⟩
 ·have HX:=Lib.hid hx
  rcases isWriter_cases (LogM.hereF_writer hx).1 with rfl | rfl | rfl | rfl
  ·have Hf:=Lib.hid (show m.leaveF 0=(⟨m.L,upd m.S 0 ⟨false,(m.S 0).last,(m.S 0).seen⟩⟩,0) by unfold LogM.leaveF LogM.seat LogM.put;rw [hx];rfl)
   have c1:w.cell? ⟨g,2,none⟩=some (.bool (m.S 0).here):=h.here 0 (by omega)
   have f1:=h.fz 2 (by omega)
   have HE:=Lib.hid (h.setHere 0 2 rfl false)
   have HM:=Lib.hid (fun v=>Moves.setCell w ⟨g,2,none⟩ v h.fg)
   clear hx
   go_enter Tryz.func134,Tryz.ntmps134
   go_wp2_with (go_at_call 159;refine (Here_b (by assumption) _ _ (Hid.out (by assumption))).mono ?_;rintro e w' ⟨rfl,rfl⟩)
   go_ret
   rw [Hf.out]
   exact ⟨rfl,HE.out,HM.out _⟩
  ·have Hf:=Lib.hid (show m.leaveF 1=(⟨m.L,upd m.S 1 ⟨false,(m.S 1).last,(m.S 1).seen⟩⟩,0) by unfold LogM.leaveF LogM.seat LogM.put;rw [hx];rfl)
   have c1:w.cell? ⟨g,5,none⟩=some (.bool (m.S 1).here):=h.here 1 (by omega)
   have f1:=h.fz 5 (by omega)
   have HE:=Lib.hid (h.setHere 1 5 rfl false)
   have HM:=Lib.hid (fun v=>Moves.setCell w ⟨g,5,none⟩ v h.fg)
   clear hx
   go_enter Tryz.func134,Tryz.ntmps134
   go_wp2_with (go_at_call 159;refine (Here_b (by assumption) _ _ (Hid.out (by assumption))).mono ?_;rintro e w' ⟨rfl,rfl⟩)
   go_ret
   rw [Hf.out]
   exact ⟨rfl,HE.out,HM.out _⟩
  ·have Hf:=Lib.hid (show m.leaveF 2=(⟨m.L,upd m.S 2 ⟨false,(m.S 2).last,(m.S 2).seen⟩⟩,0) by unfold LogM.leaveF LogM.seat LogM.put;rw [hx];rfl)
   have c1:w.cell? ⟨g,8,none⟩=some (.bool (m.S 2).here):=h.here 2 (by omega)
   have f1:=h.fz 8 (by omega)
   have HE:=Lib.hid (h.setHere 2 8 rfl false)
   have HM:=Lib.hid (fun v=>Moves.setCell w ⟨g,8,none⟩ v h.fg)
   clear hx
   go_enter Tryz.func134,Tryz.ntmps134
   go_wp2_with (go_at_call 159;refine (Here_b (by assumption) _ _ (Hid.out (by assumption))).mono ?_;rintro e w' ⟨rfl,rfl⟩)
   go_ret
   rw [Hf.out]
   exact ⟨rfl,HE.out,HM.out _⟩
  ·have Hf:=Lib.hid (show m.leaveF 3=(⟨m.L,upd m.S 3 ⟨false,(m.S 3).last,(m.S 3).seen⟩⟩,0) by unfold LogM.leaveF LogM.seat LogM.put;rw [hx];rfl)
   have c1:w.cell? ⟨g,11,none⟩=some (.bool (m.S 3).here):=h.here 3 (by omega)
   have f1:=h.fz 11 (by omega)
   have HE:=Lib.hid (h.setHere 3 11 rfl false)
   have HM:=Lib.hid (fun v=>Moves.setCell w ⟨g,11,none⟩ v h.fg)
   clear hx
   go_enter Tryz.func134,Tryz.ntmps134
   go_wp2_with (go_at_call 159;refine (Here_b (by assumption) _ _ (Hid.out (by assumption))).mono ?_;rintro e w' ⟨rfl,rfl⟩)
   go_ret
   rw [Hf.out]
   exact ⟨rfl,HE.out,HM.out _⟩
theorem Says_c (h:LogAt w base F g m) (x n:Int):Calls Tryz.prog 131 #[.pointer (some ⟨g,0,none⟩),.int .i64 x,.int .i64 n] w fun e w'=>
 e=.returned (.int .i64 (m.saysF x n).2)∧LogAt w' base F g (m.saysF x n).1∧Moves F w w':=by
 have HL:=Lib.hid h
 cases hx:m.hereF x
 ·have Hf:=Lib.hid (show m.saysF x n=(m,5) by unfold LogM.saysF;rw [hx];rfl)
  have HX:=Lib.hid hx
  clear hx
  go_enter Tryz.func131,Tryz.ntmps131
  go_wp2_with (go_at_call 159;refine (Here_b (by assumption) _ _ (Hid.out (by assumption))).mono ?_;rintro e w' ⟨rfl,rfl⟩)
  go_ret
  exact ⟨by rw [Hf.out];rfl,by rw [Hf.out];exact HL.out,Moves.refl _ _⟩
 ·have HX:=Lib.hid hx
  obtain ⟨a,cap,ca,ccap,r0,_⟩:=h.rows
  rcases isWriter_cases (LogM.hereF_writer hx).1 with rfl | rfl | rfl | rfl
  ·have Hf:=Lib.hid (show m.saysF 0 n=if n < (m.S 0).seen∨(m.L.length:Int) < n then (m,8) else (⟨m.L,upd m.S 0 ⟨(m.S 0).here,(m.S 0).last,n⟩⟩,0) by unfold LogM.saysF LogM.seat LogM.put;rw [hx];rfl)
   have c3:w.cell? ⟨g,4,none⟩=some (.int .i64 (m.S 0).seen):=h.seen 0 (by omega)
   have f3:=h.fz 4 (by omega)
   have HE:=Lib.hid (h.setSeen 0 4 rfl n)
   have HM:=Lib.hid (fun v=>Moves.setCell w ⟨g,4,none⟩ v h.fg)
   clear hx
   by_cases h1:n < (m.S 0).seen
   ·have h1B:decide (n < (m.S 0).seen)=true:=by simpa using h1
    have Hf2:=Lib.hid (Hf.out.trans (if_pos (.inl h1)))
    clear Hf h1
    go_enter Tryz.func131,Tryz.ntmps131
    go_wp2_with (go_at_call 159;refine (Here_b (by assumption) _ _ (Hid.out (by assumption))).mono ?_;rintro e w' ⟨rfl,rfl⟩)
    go_ret
    rw [Hf2.out]
    exact ⟨rfl,HL.out,Moves.refl _ _⟩
   ·have h1B:decide (n < (m.S 0).seen)=false:=by simpa using h1
    by_cases h2:(m.L.length:Int) < n
    ·have h2B:decide ((m.L.length:Int) < n)=true:=by simpa using h2
     have Hf2:=Lib.hid (Hf.out.trans (if_pos (.inr h2)))
     clear Hf h1 h2
     go_enter Tryz.func131,Tryz.ntmps131
     go_wp2_with (go_at_call 159;refine (Here_b (by assumption) _ _ (Hid.out (by assumption))).mono ?_;rintro e w' ⟨rfl,rfl⟩)
     go_ret
     rw [Hf2.out]
     exact ⟨rfl,HL.out,Moves.refl _ _⟩
    ·have h2B:decide ((m.L.length:Int) < n)=false:=by simpa using h2
     have Hf2:=Lib.hid (Hf.out.trans (if_neg (by omega)))
     clear Hf h1 h2
     go_enter Tryz.func131,Tryz.ntmps131
     go_wp2_with (go_at_call 159;refine (Here_b (by assumption) _ _ (Hid.out (by assumption))).mono ?_;rintro e w' ⟨rfl,rfl⟩)
     go_ret
     rw [Hf2.out]
     exact ⟨rfl,HE.out,HM.out _⟩
  ·have Hf:=Lib.hid (show m.saysF 1 n=if n < (m.S 1).seen∨(m.L.length:Int) < n then (m,8) else (⟨m.L,upd m.S 1 ⟨(m.S 1).here,(m.S 1).last,n⟩⟩,0) by unfold LogM.saysF LogM.seat LogM.put;rw [hx];rfl)
   have c3:w.cell? ⟨g,7,none⟩=some (.int .i64 (m.S 1).seen):=h.seen 1 (by omega)
   have f3:=h.fz 7 (by omega)
   have HE:=Lib.hid (h.setSeen 1 7 rfl n)
   have HM:=Lib.hid (fun v=>Moves.setCell w ⟨g,7,none⟩ v h.fg)
   clear hx
   by_cases h1:n < (m.S 1).seen
   ·have h1B:decide (n < (m.S 1).seen)=true:=by simpa using h1
    have Hf2:=Lib.hid (Hf.out.trans (if_pos (.inl h1)))
    clear Hf h1
    go_enter Tryz.func131,Tryz.ntmps131
    go_wp2_with (go_at_call 159;refine (Here_b (by assumption) _ _ (Hid.out (by assumption))).mono ?_;rintro e w' ⟨rfl,rfl⟩)
    go_ret
    rw [Hf2.out]
    exact ⟨rfl,HL.out,Moves.refl _ _⟩
   ·have h1B:decide (n < (m.S 1).seen)=false:=by simpa using h1
    by_cases h2:(m.L.length:Int) < n
    ·have h2B:decide ((m.L.length:Int) < n)=true:=by simpa using h2
     have Hf2:=Lib.hid (Hf.out.trans (if_pos (.inr h2)))
     clear Hf h1 h2
     go_enter Tryz.func131,Tryz.ntmps131
     go_wp2_with (go_at_call 159;refine (Here_b (by assumption) _ _ (Hid.out (by assumption))).mono ?_;rintro e w' ⟨rfl,rfl⟩)
     go_ret
     rw [Hf2.out]
     exact ⟨rfl,HL.out,Moves.refl _ _⟩
    ·have h2B:decide ((m.L.length:Int) < n)=false:=by simpa using h2
     have Hf2:=Lib.hid (Hf.out.trans (if_neg (by omega)))
     clear Hf h1 h2
     go_enter Tryz.func131,Tryz.ntmps131
     go_wp2_with (go_at_call 159;refine (Here_b (by assumption) _ _ (Hid.out (by assumption))).mono ?_;rintro e w' ⟨rfl,rfl⟩)
     go_ret
     rw [Hf2.out]
     exact ⟨rfl,HE.out,HM.out _⟩
  ·have Hf:=Lib.hid (show m.saysF 2 n=if n < (m.S 2).seen∨(m.L.length:Int) < n then (m,8) else (⟨m.L,upd m.S 2 ⟨(m.S 2).here,(m.S 2).last,n⟩⟩,0) by unfold LogM.saysF LogM.seat LogM.put;rw [hx];rfl)
   have c3:w.cell? ⟨g,10,none⟩=some (.int .i64 (m.S 2).seen):=h.seen 2 (by omega)
   have f3:=h.fz 10 (by omega)
   have HE:=Lib.hid (h.setSeen 2 10 rfl n)
   have HM:=Lib.hid (fun v=>Moves.setCell w ⟨g,10,none⟩ v h.fg)
   clear hx
   by_cases h1:n < (m.S 2).seen
   ·have h1B:decide (n < (m.S 2).seen)=true:=by simpa using h1
    have Hf2:=Lib.hid (Hf.out.trans (if_pos (.inl h1)))
    clear Hf h1
    go_enter Tryz.func131,Tryz.ntmps131
    go_wp2_with (go_at_call 159;refine (Here_b (by assumption) _ _ (Hid.out (by assumption))).mono ?_;rintro e w' ⟨rfl,rfl⟩)
    go_ret
    rw [Hf2.out]
    exact ⟨rfl,HL.out,Moves.refl _ _⟩
   ·have h1B:decide (n < (m.S 2).seen)=false:=by simpa using h1
    by_cases h2:(m.L.length:Int) < n
    ·have h2B:decide ((m.L.length:Int) < n)=true:=by simpa using h2
     have Hf2:=Lib.hid (Hf.out.trans (if_pos (.inr h2)))
     clear Hf h1 h2
     go_enter Tryz.func131,Tryz.ntmps131
     go_wp2_with (go_at_call 159;refine (Here_b (by assumption) _ _ (Hid.out (by assumption))).mono ?_;rintro e w' ⟨rfl,rfl⟩)
     go_ret
     rw [Hf2.out]
     exact ⟨rfl,HL.out,Moves.refl _ _⟩
    ·have h2B:decide ((m.L.length:Int) < n)=false:=by simpa using h2
     have Hf2:=Lib.hid (Hf.out.trans (if_neg (by omega)))
     clear Hf h1 h2
     go_enter Tryz.func131,Tryz.ntmps131
     go_wp2_with (go_at_call 159;refine (Here_b (by assumption) _ _ (Hid.out (by assumption))).mono ?_;rintro e w' ⟨rfl,rfl⟩)
     go_ret
     rw [Hf2.out]
     exact ⟨rfl,HE.out,HM.out _⟩
  ·have Hf:=Lib.hid (show m.saysF 3 n=if n < (m.S 3).seen∨(m.L.length:Int) < n then (m,8) else (⟨m.L,upd m.S 3 ⟨(m.S 3).here,(m.S 3).last,n⟩⟩,0) by unfold LogM.saysF LogM.seat LogM.put;rw [hx];rfl)
   have c3:w.cell? ⟨g,13,none⟩=some (.int .i64 (m.S 3).seen):=h.seen 3 (by omega)
   have f3:=h.fz 13 (by omega)
   have HE:=Lib.hid (h.setSeen 3 13 rfl n)
   have HM:=Lib.hid (fun v=>Moves.setCell w ⟨g,13,none⟩ v h.fg)
   clear hx
   by_cases h1:n < (m.S 3).seen
   ·have h1B:decide (n < (m.S 3).seen)=true:=by simpa using h1
    have Hf2:=Lib.hid (Hf.out.trans (if_pos (.inl h1)))
    clear Hf h1
    go_enter Tryz.func131,Tryz.ntmps131
    go_wp2_with (go_at_call 159;refine (Here_b (by assumption) _ _ (Hid.out (by assumption))).mono ?_;rintro e w' ⟨rfl,rfl⟩)
    go_ret
    rw [Hf2.out]
    exact ⟨rfl,HL.out,Moves.refl _ _⟩
   ·have h1B:decide (n < (m.S 3).seen)=false:=by simpa using h1
    by_cases h2:(m.L.length:Int) < n
    ·have h2B:decide ((m.L.length:Int) < n)=true:=by simpa using h2
     have Hf2:=Lib.hid (Hf.out.trans (if_pos (.inr h2)))
     clear Hf h1 h2
     go_enter Tryz.func131,Tryz.ntmps131
     go_wp2_with (go_at_call 159;refine (Here_b (by assumption) _ _ (Hid.out (by assumption))).mono ?_;rintro e w' ⟨rfl,rfl⟩)
     go_ret
     rw [Hf2.out]
     exact ⟨rfl,HL.out,Moves.refl _ _⟩
    ·have h2B:decide ((m.L.length:Int) < n)=false:=by simpa using h2
     have Hf2:=Lib.hid (Hf.out.trans (if_neg (by omega)))
     clear Hf h1 h2
     go_enter Tryz.func131,Tryz.ntmps131
     go_wp2_with (go_at_call 159;refine (Here_b (by assumption) _ _ (Hid.out (by assumption))).mono ?_;rintro e w' ⟨rfl,rfl⟩)
     go_ret
     rw [Hf2.out]
     exact ⟨rfl,HE.out,HM.out _⟩
end
end Go.Proofs.YtneoeokfffnonaaGreatDoor
namespace Go.Proofs.YtneoeokfffnonaaGreatDoor
open Go.RowKit
theorem New_log (w:World):Calls Tryz.prog 19 #[] w fun e w'=>∃ F g,e=.returned (.pointer (some ⟨g,0,none⟩))∧LogAt w' w.heap.size F g LogM.new∧Below w.heap.size w w':=by
 go_enter Tryz.func19,Tryz.ntmps19
 go_wp2
 go_ret
 refine ⟨fun k=>k=w.heap.size,w.heap.size,rfl,?_,(Below.refl _ _).alloc (Nat.le_refl _) _⟩
 refine ⟨by simp,rfl,fun k hk=>by subst hk;simp,fun o ho=>by simp,⟨none,0,none,0,by simp [LogM.new],by simp [LogM.new,LogM.chars,allF,allFrom],OwnRow.nil _ _ _ _ _,OwnRow.nil _ _ _ _ _,fun k hk=>by simp [ownB] at hk,fun k hk=>by simp [ownB] at hk⟩,fun j hj=>?_,fun j hj=>?_,fun j hj=>?_⟩
 all_goals rcases (show j=0∨j=1∨j=2∨j=3 by omega) with rfl | rfl | rfl | rfl <;> simp [LogM.new]
section
variable {w:World} {base:Nat} {F:Nat→Prop} {g:Nat} {m:LogM}
theorem Deed_c (h:LogAt w base F g m) (n:Int):Calls Tryz.prog 90 #[.pointer (some ⟨g,0,none⟩),.int .i64 n] w fun e w'=>Below w.heap.size w w'∧
 (e=.returned (.tuple #[.agg #[.int .i64 0,.int .i64 0,.int .i64 0,.int .i64 0,.int .i64 0,.int .i64 0,.string ⟨#[]⟩],.bool false])∧(n < 1∨(m.L.length:Int) < n)∨
  ∃ (k:Nat) (hk:k < m.L.length),n=(k:Int)+1∧e=.returned (.tuple #[.agg #[.int .i64 m.L[k].Kind,.int .i64 m.L[k].By,.int .i64 m.L[k].No,.int .i64 m.L[k].Seen,.int .i64 m.L[k].At,.int .i64 m.L[k].Many,.string m.L[k].Text],.bool true])):=by
 obtain ⟨a,cap,ca,ccap,r0,_,r2,_⟩:=h.rows
 have hs:=r2.slDd
 have hlt:=h.lt
 have hb:=fun o=>(Below.refl w.heap.size w).alloc (Nat.le_refl _) o
 have HB:=Lib.hid hb
 have r0' : ∀ o,(w.alloc o).cell? ⟨g,0,none⟩=some (.slice a m.L.length cap):=fun o=>((hb o).cell (p:=⟨g,0,none⟩) hlt).trans r0
 have R0:=r0' (.cells #[.int .i64 0,.int .i64 0,.int .i64 0,.int .i64 0,.int .i64 0,.int .i64 0,.string ⟨#[]⟩] 122)
 have hm:m.L.length≤maxLen:=Nat.le_trans hs.1 hs.2.1
 unfold maxLen at hm
 by_cases h1:n < 1
 ·have h1B:decide (n < 1)=true:=by simpa using h1
  have HO:=Lib.hid (show n < 1∨(m.L.length:Int) < n from .inl h1)
  clear r0 r0' hs h r2 h1 hb
  go_enter Tryz.func90,Tryz.ntmps90
  go_wp2
  exact bodyPost_ret (v:=.tuple #[.agg #[.int .i64 0,.int .i64 0,.int .i64 0,.int .i64 0,.int .i64 0,.int .i64 0,.string ⟨#[]⟩],.bool false]) (by simp [results,Tryz.results90,go_sem]) rfl ⟨HB.out _,.inl ⟨rfl,HO.out⟩⟩
 ·have h1B:decide (n < 1)=false:=by simpa using h1
  by_cases h2:(m.L.length:Int) < n
  ·have h2B:decide ((m.L.length:Int) < n)=true:=by simpa using h2
   have HO:=Lib.hid (show n < 1∨(m.L.length:Int) < n from .inr h2)
   clear r0 r0' hs h r2 h1 h2 hb
   go_enter Tryz.func90,Tryz.ntmps90
   go_wp2
   exact bodyPost_ret (v:=.tuple #[.agg #[.int .i64 0,.int .i64 0,.int .i64 0,.int .i64 0,.int .i64 0,.int .i64 0,.string ⟨#[]⟩],.bool false]) (by simp [results,Tryz.results90,go_sem]) rfl ⟨HB.out _,.inl ⟨rfl,HO.out⟩⟩
  ·obtain ⟨k,rfl⟩:∃ k:Nat,n=(k:Int)+1:=⟨(n - 1).toNat,by omega⟩
   have h2B:decide ((m.L.length:Int) < (k:Int)+1)=false:=by simpa using h2
   have hk:k < m.L.length:=by omega
   have hk' : (k:Int) < m.L.length:=by omega
   have hk0:(0:Int)≤(k:Int):=by omega
   have hw:IntKind.i64.wrap ((k:Int)+1 - 1)=(k:Int):=by rw [IntKind.wrap_i64];omega
   have HK:=Lib.hid hk
   obtain ⟨bb,off,ha,hc⟩:=hs.nth hk
   subst ha
   have hbl:=hb (.cells #[.int .i64 0,.int .i64 0,.int .i64 0,.int .i64 0,.int .i64 0,.int .i64 0,.string ⟨#[]⟩] 122)
   obtain ⟨q0,q1,q2,q3,q4,q5,q6⟩:=hc
   have qlt:=World.block_lt_of_cell? w _ q0
   have hcl:∀ o u,w.cell? ⟨bb,o,none⟩=some u→(w.alloc (.cells #[.int .i64 0,.int .i64 0,.int .i64 0,.int .i64 0,.int .i64 0,.int .i64 0,.string ⟨#[]⟩] 122)).cell? ⟨bb,o,none⟩=some u:=fun o u h=>(hbl.cell (p:=⟨bb,o,none⟩) qlt).trans h
   have q0:=hcl _ _ q0
   have q1:=hcl _ _ q1
   have q2:=hcl _ _ q2
   have q3:=hcl _ _ q3
   have q4:=hcl _ _ q4
   have q5:=hcl _ _ q5
   have q6:=hcl _ _ q6
   have HX:=Lib.hid (show ∃ d,m.L[k]=d from ⟨_,rfl⟩)
   clear r0 r0' hs h r2 h1 h2 hb hbl hcl
   have HG:=Lib.hid (show ∀ (P:Dd→Prop),P m.L[k]→∃ (j:Nat) (hj:j < m.L.length),(k:Int)+1=(j:Int)+1∧P m.L[j] from fun P h=>⟨k,HK.out,rfl,h⟩)
   generalize m.L[k]=d at *
   go_enter Tryz.func90,Tryz.ntmps90
   go_wp2
   refine bodyPost_ret (v:=.tuple #[.agg #[.int .i64 d.Kind,.int .i64 d.By,.int .i64 d.No,.int .i64 d.Seen,.int .i64 d.At,.int .i64 d.Many,.string d.Text],.bool true]) (by simp [results,Tryz.results90,go_sem]) rfl ⟨HB.out _,.inr ?_⟩
   obtain ⟨j,hj,e1,e2⟩:=HG.out (fun x=>x=d) rfl
   exact ⟨j,by omega,hj,by rw [e2]⟩
theorem seat_ix0 (v0 v1 v2 v3 v4 v5 v6 v7 v8 v9 v10 v11:Value) (w:World):(Instr.index 102 (.agg #[v0,v1,v2,v3,v4,v5,v6,v7,v8,v9,v10,v11]) (.int .i64 0)).run Tryz.prog w=.ok (.agg #[v0,v1,v2]) w:=by kernel_rfl
theorem seat_ix1 (v0 v1 v2 v3 v4 v5 v6 v7 v8 v9 v10 v11:Value) (w:World):(Instr.index 102 (.agg #[v0,v1,v2,v3,v4,v5,v6,v7,v8,v9,v10,v11]) (.int .i64 1)).run Tryz.prog w=.ok (.agg #[v3,v4,v5]) w:=by kernel_rfl
theorem seat_ix2 (v0 v1 v2 v3 v4 v5 v6 v7 v8 v9 v10 v11:Value) (w:World):(Instr.index 102 (.agg #[v0,v1,v2,v3,v4,v5,v6,v7,v8,v9,v10,v11]) (.int .i64 2)).run Tryz.prog w=.ok (.agg #[v6,v7,v8]) w:=by kernel_rfl
theorem seat_ix3 (v0 v1 v2 v3 v4 v5 v6 v7 v8 v9 v10 v11:Value) (w:World):(Instr.index 102 (.agg #[v0,v1,v2,v3,v4,v5,v6,v7,v8,v9,v10,v11]) (.int .i64 3)).run Tryz.prog w=.ok (.agg #[v9,v10,v11]) w:=by kernel_rfl
set_option maxRecDepth 100000 in
theorem Least_c (h:LogAt w base F g m):Calls Tryz.prog 57 #[.pointer (some ⟨g,0,none⟩)] w fun e w'=>e=.returned (.int .i64 m.least)∧Below w.heap.size w w':=by
 obtain ⟨a,cap,ca,ccap,r0,_⟩:=h.rows
 have H0:w.cell? ⟨g,2,none⟩=some (.bool (m.S 0).here):=h.here 0 (by omega)
 have H1:w.cell? ⟨g,5,none⟩=some (.bool (m.S 1).here):=h.here 1 (by omega)
 have H2:w.cell? ⟨g,8,none⟩=some (.bool (m.S 2).here):=h.here 2 (by omega)
 have H3:w.cell? ⟨g,11,none⟩=some (.bool (m.S 3).here):=h.here 3 (by omega)
 have L0:w.cell? ⟨g,3,none⟩=some (.int .i64 (m.S 0).last):=h.last 0 (by omega)
 have L1:w.cell? ⟨g,6,none⟩=some (.int .i64 (m.S 1).last):=h.last 1 (by omega)
 have L2:w.cell? ⟨g,9,none⟩=some (.int .i64 (m.S 2).last):=h.last 2 (by omega)
 have L3:w.cell? ⟨g,12,none⟩=some (.int .i64 (m.S 3).last):=h.last 3 (by omega)
 have S0:w.cell? ⟨g,4,none⟩=some (.int .i64 (m.S 0).seen):=h.seen 0 (by omega)
 have S1:w.cell? ⟨g,7,none⟩=some (.int .i64 (m.S 1).seen):=h.seen 1 (by omega)
 have S2:w.cell? ⟨g,10,none⟩=some (.int .i64 (m.S 2).seen):=h.seen 2 (by omega)
 have S3:w.cell? ⟨g,13,none⟩=some (.int .i64 (m.S 3).seen):=h.seen 3 (by omega)
 have I0:=seat_ix0;have I1:=seat_ix1;have I2:=seat_ix2;have I3:=seat_ix3
 go_enter Tryz.func57,Tryz.ntmps57
 go_wp2
 go_loopw [3,15] (fun s3 s15 wr=>∃ k:Nat,k≤4∧s15=.int .i64 k∧s3=.int .i64 (m.leastTo k)∧Below w.heap.size w wr) (fun _ s15 _=>4 - (intOf s15).toNat)
 case atStart=>exact ⟨0,by omega,rfl,rfl,Below.refl _ _⟩
 case round=>
  obtain ⟨k,hk,rfl,rfl,hb⟩:=hrel
  clear H0 H1 H2 H3 L0 L1 L2 L3 S0 S1 S2 S3 r0
  have HB:=Lib.hid hb
  have HA:=Lib.hid (fun o=>hb.alloc hb.size o)
  rcases (show k=0∨k=1∨k=2∨k=3∨k=4 by omega) with rfl | rfl | rfl | rfl | rfl
  ·have HS:=Lib.hid (show m.leastTo 1=if (m.S 0).here then min (m.leastTo 0) (m.S 0).seen else m.leastTo 0 from rfl)
   generalize m.leastTo 0=n0 at *
   cases hh:(m.S 0).here
   all_goals
    rw [hh] at HS
    go_wp2
    exact ⟨⟨1,by omega,by go_num,by rw [HS.out];first | rfl | (simp;omega),HA.out _⟩,by simp [intOf]⟩
  ·have HS:=Lib.hid (show m.leastTo 2=if (m.S 1).here then min (m.leastTo 1) (m.S 1).seen else m.leastTo 1 from rfl)
   generalize m.leastTo 1=n0 at *
   cases hh:(m.S 1).here
   all_goals
    rw [hh] at HS
    go_wp2
    exact ⟨⟨2,by omega,by go_num,by rw [HS.out];first | rfl | (simp;omega),HA.out _⟩,by simp [intOf]⟩
  ·have HS:=Lib.hid (show m.leastTo 3=if (m.S 2).here then min (m.leastTo 2) (m.S 2).seen else m.leastTo 2 from rfl)
   generalize m.leastTo 2=n0 at *
   cases hh:(m.S 2).here
   all_goals
    rw [hh] at HS
    go_wp2
    exact ⟨⟨3,by omega,by go_num,by rw [HS.out];first | rfl | (simp;omega),HA.out _⟩,by simp [intOf]⟩
  ·have HS:=Lib.hid (show m.leastTo 4=if (m.S 3).here then min (m.leastTo 3) (m.S 3).seen else m.leastTo 3 from rfl)
   generalize m.leastTo 3=n0 at *
   cases hh:(m.S 3).here
   all_goals
    rw [hh] at HS
    go_wp2
    exact ⟨⟨4,by omega,by go_num,by rw [HS.out];first | rfl | (simp;omega),HA.out _⟩,by simp [intOf]⟩
  ·go_wp2
   go_ret
   exact ⟨rfl,HB.out⟩
theorem LogM.Ok.chars_len {m:LogM} (h:m.Ok):m.chars.length≤200:=by
 have:=(h.lok.made m.L.length (Nat.le_refl _)).max
 rw [pre_len] at this;exact this
theorem Chars_c (h:LogAt w base F g m) (ho:m.Ok):Calls Tryz.prog 124 #[.pointer (some ⟨g,0,none⟩)] w fun e w'=>∃ a' cap',e=.returned (.slice a' m.chars.length cap')∧
 OwnRow w' w.heap.size 125 7 a' m.chars.length cap' (flat m.chars)∧Below w.heap.size w w':=by
 obtain ⟨a,cap,ca,ccap,_,r1,_,r3,_⟩:=h.rows
 have hl:=ho.chars_len
 have hs:=r3.slCh
 have hn:ca=none→ccap=0:=fun e=>by
  subst e
  rcases r3.own with h0 | ⟨g,off,cur,h1,_⟩
  ·exact h0
  ·cases h1
 go_enter Tryz.func124,Tryz.ntmps124
 go_wp2_with fail
 refine (Clone_c ca ccap m.chars _ hs (by omega) hn).mono ?_
 rintro e w1 ⟨a1,cap1,rfl,ho1,hb1⟩
 go_wp2
 go_ret
 exact ⟨a1,cap1,rfl,ho1,hb1⟩
theorem LText_c (h:LogAt w base F g m) (ho:m.Ok):Calls Tryz.prog 52 #[.pointer (some ⟨g,0,none⟩)] w fun e w'=>e=.returned (.string (strOfNums (textF m.chars)))∧Below w.heap.size w w':=by
 obtain ⟨a,cap,ca,ccap,_,r1,_,r3,_⟩:=h.rows
 have hl:=ho.chars_len
 have hs:=r3.slCh
 go_enter Tryz.func52,Tryz.ntmps52
 go_wp2_with fail
 refine (Text_c ca ccap m.chars _ hs (by omega)).mono ?_
 rintro e w1 ⟨rfl,hb1⟩
 go_wp2
 go_ret
 exact ⟨rfl,hb1⟩
end
end Go.Proofs.YtneoeokfffnonaaGreatDoor
