/- Merged: BookObj BookW. -/
import Derived.Test.YtneoeokfffnonaaGreatDoorLogW
import Derived.Test.YtneoeokfffnonaaGreatDoorRefW
set_option linter.unusedVariables false
set_option linter.unusedSimpArgs false
namespace Go.Proofs.YtneoeokfffnonaaGreatDoor
open Go.RowKit
structure BookAt (w:World) (base:Nat) (F:Nat→Prop) (g:Nat) (m:LogM):Prop where
 lt:g < w.heap.size
 fg:F g
 foot:∀ k,F k→base≤k∧k < w.heap.size
 fz:∀ o,o < 13→w.frozen? ⟨g,o,none⟩=false
 rows:∃ a cap,w.cell? ⟨g,0,none⟩=some (.slice a m.L.length cap)∧OwnRow w base 122 7 a m.L.length cap (flatD m.L)∧(∀ k,ownB a cap=some k→F k∧k≠g)
 here:∀ j,j < 4→w.cell? ⟨g,1+j,none⟩=some (.bool (m.S j).here)
 last:∀ j,j < 4→w.cell? ⟨g,5+j,none⟩=some (.int .i64 (m.S j).last)
 seen:∀ j,j < 4→w.cell? ⟨g,9+j,none⟩=some (.int .i64 (m.S j).seen)
section
variable {w w' : World} {base:Nat} {F:Nat→Prop} {g:Nat} {m:LogM}
theorem BookAt.moves (h:BookAt w base F g m) {G:Nat→Prop} (hm:Moves G w w') (hd:∀ k,F k→¬ G k):BookAt w' base F g m:=by
 have hc:∀ o,w'.cell? ⟨g,o,none⟩=w.cell? ⟨g,o,none⟩:=fun o=>hm.cell h.lt (hd g h.fg) o
 obtain ⟨a,cap,r0,r2,r4⟩:=h.rows
 refine ⟨Nat.lt_of_lt_of_le h.lt hm.size,h.fg,fun k hk=>⟨(h.foot k hk).1,Nat.lt_of_lt_of_le (h.foot k hk).2 hm.size⟩,fun o ho=>(hm.frozen h.lt (hd g h.fg) o).trans (h.fz o ho),
  ⟨a,cap,(hc _).trans r0,r2.moves hm fun k hk=>hd k (r4 k hk).1,r4⟩,
  fun j hj=>(hc _).trans (h.here j hj),fun j hj=>(hc _).trans (h.last j hj),fun j hj=>(hc _).trans (h.seen j hj)⟩
theorem BookAt.later (h:BookAt w base F g m) (hl:Below w.heap.size w w'):BookAt w' base F g m:=by
 have hb:Moves (fun k=>w.heap.size≤k) w w':=Moves.of_below hl
 exact h.moves hb fun k hk=>by have:=(h.foot k hk).2;omega
theorem BookAt.store (h:BookAt w base F g m) (i:Nat) (hi:1≤i) (v:Value) (m' : LogM) (hL:m'.L=m.L)
 (h1:∀ j,j < 4→(if 1+j=i then v=.bool (m'.S j).here else (m'.S j).here=(m.S j).here))
 (h2:∀ j,j < 4→(if 5+j=i then v=.int .i64 (m'.S j).last else (m'.S j).last=(m.S j).last))
 (h3:∀ j,j < 4→(if 9+j=i then v=.int .i64 (m'.S j).seen else (m'.S j).seen=(m.S j).seen)):BookAt (w.setCell ⟨g,i,none⟩ v) base F g m':=by
 obtain ⟨a,cap,r0,r2,r4⟩:=h.rows
 have ho:∀ o,o≠i→(w.setCell ⟨g,i,none⟩ v).cell? ⟨g,o,none⟩=w.cell? ⟨g,o,none⟩:=fun o ho=>World.cell?_setCell_other _ _ _ _ (fun e=>ho (by cases e;rfl))
 have hs:∀ o u,o=i→w.cell? ⟨g,o,none⟩=some u→(w.setCell ⟨g,i,none⟩ v).cell? ⟨g,o,none⟩=some v:=fun o u e hu=>by subst e;exact World.cell?_setCell_same _ _ _ hu
 refine ⟨by simpa using h.lt,h.fg,fun k hk=>⟨(h.foot k hk).1,by simpa using (h.foot k hk).2⟩,fun o ho=>by rw [World.frozen?_setCell];exact h.fz o ho,
  ⟨a,cap,by rw [ho 0 (by omega),hL];exact r0,by rw [hL];exact r2.setCell _ _ fun k hk=>(r4 k hk).2,r4⟩,
  fun j hj=>?_,fun j hj=>?_,fun j hj=>?_⟩
 ·have:=h1 j hj
  by_cases e:1+j=i
  ·rw [if_pos e] at this;rw [hs _ _ e (h.here j hj),this]
  ·rw [if_neg e] at this;rw [ho _ e,this];exact h.here j hj
 ·have:=h2 j hj
  by_cases e:5+j=i
  ·rw [if_pos e] at this;rw [hs _ _ e (h.last j hj),this]
  ·rw [if_neg e] at this;rw [ho _ e,this];exact h.last j hj
 ·have:=h3 j hj
  by_cases e:9+j=i
  ·rw [if_pos e] at this;rw [hs _ _ e (h.seen j hj),this]
  ·rw [if_neg e] at this;rw [ho _ e,this];exact h.seen j hj
theorem BookAt.setHere (h:BookAt w base F g m) (j:Nat) (hj:j < 4) (i:Nat) (hi:i=1+j) (b:Bool):BookAt (w.setCell ⟨g,i,none⟩ (.bool b)) base F g { m with S:=upd m.S j ⟨b,(m.S j).last,(m.S j).seen⟩ }:=by
 subst hi
 refine h.store _ (by omega) _ _ rfl (fun k hk=>?_) (fun k hk=>?_) (fun k hk=>?_)
 ·by_cases e:k=j
  ·subst e;rw [if_pos rfl];simp
  ·rw [if_neg (by omega)];simp [upd_ne _ _ _ _ e]
 ·rw [if_neg (by omega)]
  by_cases e:k=j
  ·subst e;simp
  ·simp [upd_ne _ _ _ _ e]
 ·rw [if_neg (by omega)]
  by_cases e:k=j
  ·subst e;simp
  ·simp [upd_ne _ _ _ _ e]
theorem BookAt.setLast (h:BookAt w base F g m) (j:Nat) (hj:j < 4) (i:Nat) (hi:i=5+j) (n:Int):BookAt (w.setCell ⟨g,i,none⟩ (.int .i64 n)) base F g { m with S:=upd m.S j ⟨(m.S j).here,n,(m.S j).seen⟩ }:=by
 subst hi
 refine h.store _ (by omega) _ _ rfl (fun k hk=>?_) (fun k hk=>?_) (fun k hk=>?_)
 ·rw [if_neg (by omega)]
  by_cases e:k=j
  ·subst e;simp
  ·simp [upd_ne _ _ _ _ e]
 ·by_cases e:k=j
  ·subst e;rw [if_pos rfl];simp
  ·rw [if_neg (by omega)];simp [upd_ne _ _ _ _ e]
 ·rw [if_neg (by omega)]
  by_cases e:k=j
  ·subst e;simp
  ·simp [upd_ne _ _ _ _ e]
theorem BookAt.setSeen (h:BookAt w base F g m) (j:Nat) (hj:j < 4) (i:Nat) (hi:i=9+j) (n:Int):BookAt (w.setCell ⟨g,i,none⟩ (.int .i64 n)) base F g { m with S:=upd m.S j ⟨(m.S j).here,(m.S j).last,n⟩ }:=by
 subst hi
 refine h.store _ (by omega) _ _ rfl (fun k hk=>?_) (fun k hk=>?_) (fun k hk=>?_)
 ·rw [if_neg (by omega)]
  by_cases e:k=j
  ·subst e;simp
  ·simp [upd_ne _ _ _ _ e]
 ·rw [if_neg (by omega)]
  by_cases e:k=j
  ·subst e;simp
  ·simp [upd_ne _ _ _ _ e]
 ·by_cases e:k=j
  ·subst e;rw [if_pos rfl];simp
  ·rw [if_neg (by omega)];simp [upd_ne _ _ _ _ e]
theorem BookAt.drew (h:BookAt w base F g m):BookAt w.drew base F g m:=h.moves (G:=fun _=>False) (⟨rfl,rfl,rfl,Nat.le_refl _,fun _ _ _=>rfl⟩) (fun _ _ h=>h)
theorem BookAt.congr {m' : LogM} (h:BookAt w base F g m) (e:m=m'):BookAt w base F g m':=e ▸ h
end
theorem BookAt.new (w:World) (base:Nat) (hb:base≤w.heap.size):BookAt (w.alloc (.cells #[.slice none 0 0,.bool false,.bool false,.bool false,.bool false,.int .i64 0,.int .i64 0,.int .i64 0,.int .i64 0,.int .i64 0,.int .i64 0,.int .i64 0,.int .i64 0] 64)) base (fun k=>k=w.heap.size) w.heap.size LogM.new:=by
 refine ⟨by simp,rfl,fun k hk=>by subst hk;exact ⟨hb,by simp⟩,fun o ho=>by simp,⟨none,0,by simp [LogM.new],OwnRow.nil _ _ _ _ _,fun k hk=>by simp [ownB] at hk⟩,fun j hj=>?_,fun j hj=>?_,fun j hj=>?_⟩
 all_goals rcases (show j=0∨j=1∨j=2∨j=3 by omega) with rfl | rfl | rfl | rfl <;> simp [LogM.new]
end Go.Proofs.YtneoeokfffnonaaGreatDoor
namespace Go.Proofs.YtneoeokfffnonaaGreatDoor
open Go.RowKit
section
variable {w:World} {base:Nat} {F:Nat→Prop} {g:Nat} {m:LogM}
theorem BHere_c (h:BookAt w base F g m) (x:Int):Calls Tryz.prog 143 #[.pointer (some ⟨g,0,none⟩),.int .i64 x] w fun e w'=>e=.returned (.bool (m.hereF x))∧w'=w:=by
 cases hx:isWriter x
 ·have Hf:=Lib.hid (show m.hereF x=false by unfold LogM.hereF;rw [hx];rfl)
  go_enter Tryz.func143,Tryz.ntmps143
  go_wp2_with (go_at_call 62;refine (IsWriter_c _ _).mono ?_;rintro e w' ⟨rfl,rfl⟩)
  go_ret
  exact ⟨by rw [Hf.out];rfl,rfl⟩
 ·have Hf:=Lib.hid (show m.hereF x=(m.S x.toNat).here by unfold LogM.hereF LogM.seat;rw [hx];rfl)
  have H0:w.cell? ⟨g,1,none⟩=some (.bool (m.S 0).here):=h.here 0 (by omega)
  have H1:w.cell? ⟨g,2,none⟩=some (.bool (m.S 1).here):=h.here 1 (by omega)
  have H2:w.cell? ⟨g,3,none⟩=some (.bool (m.S 2).here):=h.here 2 (by omega)
  have H3:w.cell? ⟨g,4,none⟩=some (.bool (m.S 3).here):=h.here 3 (by omega)
  rcases isWriter_cases hx with rfl | rfl | rfl | rfl
  all_goals
   go_enter Tryz.func143,Tryz.ntmps143
   go_wp2_with (go_at_call 62;refine (IsWriter_c _ _).mono ?_;rintro e w' ⟨rfl,rfl⟩)
   go_ret
   exact ⟨by rw [Hf.out];rfl,rfl⟩
theorem BHere_b (h:BookAt w base F g m) (x:Int) (b:Bool) (hb:m.hereF x=b):Calls Tryz.prog 143 #[.pointer (some ⟨g,0,none⟩),.int .i64 x] w fun e w'=>e=.returned (.bool b)∧w'=w:=by subst hb;exact BHere_c h x
theorem BJoin_c (h:BookAt w base F g m) (x:Int) (ho:m.Ok):Calls Tryz.prog 96 #[.pointer (some ⟨g,0,none⟩),.int .i64 x] w fun e w'=>
 e=.returned (.tuple #[.int .i64 (m.joinF x).2.1,.int .i64 (m.joinF x).2.2])∧BookAt w' base F g (m.joinF x).1∧Moves F w w':=by
 have HL:=Lib.hid h
 cases hx:isWriter x
 ·have Hf:=Lib.hid (show m.joinF x=(m,0,1) by unfold LogM.joinF;rw [hx];rfl)
  go_enter Tryz.func96,Tryz.ntmps96
  go_wp2_with (go_at_call 62;refine (IsWriter_c _ _).mono ?_;rintro e w' ⟨rfl,rfl⟩)
  go_ret2
  exact ⟨by rw [Hf.out];rfl,by rw [Hf.out];exact HL.out,Moves.refl _ _⟩
 ·obtain ⟨a,cap,r0,_⟩:=h.rows
  rcases isWriter_cases hx with rfl | rfl | rfl | rfl
  ·have Hf:=Lib.hid (show m.joinF 0=if (m.S 0).here then (m,0,6) else (⟨m.L,upd m.S 0 ⟨true,(m.S 0).last,m.L.length⟩⟩,(m.S 0).last+1,0) by unfold LogM.joinF LogM.seat LogM.put;rw [hx];rfl)
   have c1:w.cell? ⟨g,1,none⟩=some (.bool (m.S 0).here):=h.here 0 (by omega)
   have c2:w.cell? ⟨g,5,none⟩=some (.int .i64 (m.S 0).last):=h.last 0 (by omega)
   have c3:w.cell? ⟨g,9,none⟩=some (.int .i64 (m.S 0).seen):=h.seen 0 (by omega)
   have f1:=h.fz 1 (by omega)
   have f3:=h.fz 9 (by omega)
   obtain ⟨hl0,hl1⟩:=ho.last_le 0 (by omega)
   have hn:IntKind.i64.wrap ((m.S 0).last+1)=(m.S 0).last+1:=by rw [IntKind.wrap_i64];omega
   have HE:=Lib.hid ((((h.setHere 0 (by omega) 1 rfl true).setSeen 0 (by omega) 9 rfl m.L.length).drew).congr (show _=(⟨m.L,upd m.S 0 ⟨true,(m.S 0).last,m.L.length⟩⟩:LogM) by simp only [upd_upd,upd_same]))
   have HM:=Lib.hid (fun v v'=>((Moves.setCell w ⟨g,1,none⟩ v h.fg).trans (Moves.setCell (w.setCell ⟨g,1,none⟩ v) ⟨g,9,none⟩ v' h.fg) (fun _ _ k=>k)).trans (Moves.drew _) (fun _ _ k=>k))
   clear h ho
   cases hh:(m.S 0).here
   all_goals
    rw [hh] at c1
    go_enter Tryz.func96,Tryz.ntmps96
    go_wp2_with (go_at_call 62;refine (IsWriter_c _ _).mono ?_;rintro e w' ⟨rfl,rfl⟩)
   ·go_region
    go_wp2
    go_ret2
    rw [Hf.out,hh]
    exact ⟨rfl,HE.out,HM.out _ _⟩
   ·go_ret2
    rw [Hf.out,hh]
    exact ⟨rfl,HL.out,Moves.refl _ _⟩
  ·have Hf:=Lib.hid (show m.joinF 1=if (m.S 1).here then (m,0,6) else (⟨m.L,upd m.S 1 ⟨true,(m.S 1).last,m.L.length⟩⟩,(m.S 1).last+1,0) by unfold LogM.joinF LogM.seat LogM.put;rw [hx];rfl)
   have c1:w.cell? ⟨g,2,none⟩=some (.bool (m.S 1).here):=h.here 1 (by omega)
   have c2:w.cell? ⟨g,6,none⟩=some (.int .i64 (m.S 1).last):=h.last 1 (by omega)
   have c3:w.cell? ⟨g,10,none⟩=some (.int .i64 (m.S 1).seen):=h.seen 1 (by omega)
   have f1:=h.fz 2 (by omega)
   have f3:=h.fz 10 (by omega)
   obtain ⟨hl0,hl1⟩:=ho.last_le 1 (by omega)
   have hn:IntKind.i64.wrap ((m.S 1).last+1)=(m.S 1).last+1:=by rw [IntKind.wrap_i64];omega
   have HE:=Lib.hid ((((h.setHere 1 (by omega) 2 rfl true).setSeen 1 (by omega) 10 rfl m.L.length).drew).congr (show _=(⟨m.L,upd m.S 1 ⟨true,(m.S 1).last,m.L.length⟩⟩:LogM) by simp only [upd_upd,upd_same]))
   have HM:=Lib.hid (fun v v'=>((Moves.setCell w ⟨g,2,none⟩ v h.fg).trans (Moves.setCell (w.setCell ⟨g,2,none⟩ v) ⟨g,10,none⟩ v' h.fg) (fun _ _ k=>k)).trans (Moves.drew _) (fun _ _ k=>k))
   clear h ho
   cases hh:(m.S 1).here
   all_goals
    rw [hh] at c1
    go_enter Tryz.func96,Tryz.ntmps96
    go_wp2_with (go_at_call 62;refine (IsWriter_c _ _).mono ?_;rintro e w' ⟨rfl,rfl⟩)
   ·go_region
    go_wp2
    go_ret2
    rw [Hf.out,hh]
    exact ⟨rfl,HE.out,HM.out _ _⟩
   ·go_ret2
    rw [Hf.out,hh]
    exact ⟨rfl,HL.out,Moves.refl _ _⟩
  ·have Hf:=Lib.hid (show m.joinF 2=if (m.S 2).here then (m,0,6) else (⟨m.L,upd m.S 2 ⟨true,(m.S 2).last,m.L.length⟩⟩,(m.S 2).last+1,0) by unfold LogM.joinF LogM.seat LogM.put;rw [hx];rfl)
   have c1:w.cell? ⟨g,3,none⟩=some (.bool (m.S 2).here):=h.here 2 (by omega)
   have c2:w.cell? ⟨g,7,none⟩=some (.int .i64 (m.S 2).last):=h.last 2 (by omega)
   have c3:w.cell? ⟨g,11,none⟩=some (.int .i64 (m.S 2).seen):=h.seen 2 (by omega)
   have f1:=h.fz 3 (by omega)
   have f3:=h.fz 11 (by omega)
   obtain ⟨hl0,hl1⟩:=ho.last_le 2 (by omega)
   have hn:IntKind.i64.wrap ((m.S 2).last+1)=(m.S 2).last+1:=by rw [IntKind.wrap_i64];omega
   have HE:=Lib.hid ((((h.setHere 2 (by omega) 3 rfl true).setSeen 2 (by omega) 11 rfl m.L.length).drew).congr (show _=(⟨m.L,upd m.S 2 ⟨true,(m.S 2).last,m.L.length⟩⟩:LogM) by simp only [upd_upd,upd_same]))
   have HM:=Lib.hid (fun v v'=>((Moves.setCell w ⟨g,3,none⟩ v h.fg).trans (Moves.setCell (w.setCell ⟨g,3,none⟩ v) ⟨g,11,none⟩ v' h.fg) (fun _ _ k=>k)).trans (Moves.drew _) (fun _ _ k=>k))
   clear h ho
   cases hh:(m.S 2).here
   all_goals
    rw [hh] at c1
    go_enter Tryz.func96,Tryz.ntmps96
    go_wp2_with (go_at_call 62;refine (IsWriter_c _ _).mono ?_;rintro e w' ⟨rfl,rfl⟩)
   ·go_region
    go_wp2
    go_ret2
    rw [Hf.out,hh]
    exact ⟨rfl,HE.out,HM.out _ _⟩
   ·go_ret2
    rw [Hf.out,hh]
    exact ⟨rfl,HL.out,Moves.refl _ _⟩
  ·have Hf:=Lib.hid (show m.joinF 3=if (m.S 3).here then (m,0,6) else (⟨m.L,upd m.S 3 ⟨true,(m.S 3).last,m.L.length⟩⟩,(m.S 3).last+1,0) by unfold LogM.joinF LogM.seat LogM.put;rw [hx];rfl)
   have c1:w.cell? ⟨g,4,none⟩=some (.bool (m.S 3).here):=h.here 3 (by omega)
   have c2:w.cell? ⟨g,8,none⟩=some (.int .i64 (m.S 3).last):=h.last 3 (by omega)
   have c3:w.cell? ⟨g,12,none⟩=some (.int .i64 (m.S 3).seen):=h.seen 3 (by omega)
   have f1:=h.fz 4 (by omega)
   have f3:=h.fz 12 (by omega)
   obtain ⟨hl0,hl1⟩:=ho.last_le 3 (by omega)
   have hn:IntKind.i64.wrap ((m.S 3).last+1)=(m.S 3).last+1:=by rw [IntKind.wrap_i64];omega
   have HE:=Lib.hid ((((h.setHere 3 (by omega) 4 rfl true).setSeen 3 (by omega) 12 rfl m.L.length).drew).congr (show _=(⟨m.L,upd m.S 3 ⟨true,(m.S 3).last,m.L.length⟩⟩:LogM) by simp only [upd_upd,upd_same]))
   have HM:=Lib.hid (fun v v'=>((Moves.setCell w ⟨g,4,none⟩ v h.fg).trans (Moves.setCell (w.setCell ⟨g,4,none⟩ v) ⟨g,12,none⟩ v' h.fg) (fun _ _ k=>k)).trans (Moves.drew _) (fun _ _ k=>k))
   clear h ho
   cases hh:(m.S 3).here
   all_goals
    rw [hh] at c1
    go_enter Tryz.func96,Tryz.ntmps96
    go_wp2_with (go_at_call 62;refine (IsWriter_c _ _).mono ?_;rintro e w' ⟨rfl,rfl⟩)
   ·go_region
    go_wp2
    go_ret2
    rw [Hf.out,hh]
    exact ⟨rfl,HE.out,HM.out _ _⟩
   ·go_ret2
    rw [Hf.out,hh]
    exact ⟨rfl,HL.out,Moves.refl _ _⟩
theorem BLeave_c (h:BookAt w base F g m) (x:Int):Calls Tryz.prog 144 #[.pointer (some ⟨g,0,none⟩),.int .i64 x] w fun e w'=>
 e=.returned (.int .i64 (m.leaveF x).2)∧BookAt w' base F g (m.leaveF x).1∧Moves F w w':=by
 have HL:=Lib.hid h
 cases hx:m.hereF x
 ·have Hf:=Lib.hid (show m.leaveF x=(m,5) by unfold LogM.leaveF;rw [hx];rfl)
  have HX:=Lib.hid hx
  clear hx
  go_enter Tryz.func144,Tryz.ntmps144
  go_wp2_with (go_at_call 143;refine (BHere_b (by assumption) _ _ (Hid.out (by assumption))).mono ?_;rintro e w' ⟨rfl,rfl⟩)
  go_ret
  exact ⟨by rw [Hf.out];rfl,by rw [Hf.out];exact HL.out,Moves.refl _ _⟩
 ·have HX:=Lib.hid hx
  rcases isWriter_cases (LogM.hereF_writer hx).1 with rfl | rfl | rfl | rfl
  ·have Hf:=Lib.hid (show m.leaveF 0=(⟨m.L,upd m.S 0 ⟨false,(m.S 0).last,(m.S 0).seen⟩⟩,0) by unfold LogM.leaveF LogM.seat LogM.put;rw [hx];rfl)
   have c1:w.cell? ⟨g,1,none⟩=some (.bool (m.S 0).here):=h.here 0 (by omega)
   have f1:=h.fz 1 (by omega)
   have HE:=Lib.hid (h.setHere 0 (by omega) 1 rfl false)
   have HM:=Lib.hid (fun v=>Moves.setCell w ⟨g,1,none⟩ v h.fg)
   clear hx
   go_enter Tryz.func144,Tryz.ntmps144
   go_wp2_with (go_at_call 143;refine (BHere_b (by assumption) _ _ (Hid.out (by assumption))).mono ?_;rintro e w' ⟨rfl,rfl⟩)
   go_ret
   rw [Hf.out]
   exact ⟨rfl,HE.out,HM.out _⟩
  ·have Hf:=Lib.hid (show m.leaveF 1=(⟨m.L,upd m.S 1 ⟨false,(m.S 1).last,(m.S 1).seen⟩⟩,0) by unfold LogM.leaveF LogM.seat LogM.put;rw [hx];rfl)
   have c1:w.cell? ⟨g,2,none⟩=some (.bool (m.S 1).here):=h.here 1 (by omega)
   have f1:=h.fz 2 (by omega)
   have HE:=Lib.hid (h.setHere 1 (by omega) 2 rfl false)
   have HM:=Lib.hid (fun v=>Moves.setCell w ⟨g,2,none⟩ v h.fg)
   clear hx
   go_enter Tryz.func144,Tryz.ntmps144
   go_wp2_with (go_at_call 143;refine (BHere_b (by assumption) _ _ (Hid.out (by assumption))).mono ?_;rintro e w' ⟨rfl,rfl⟩)
   go_ret
   rw [Hf.out]
   exact ⟨rfl,HE.out,HM.out _⟩
  ·have Hf:=Lib.hid (show m.leaveF 2=(⟨m.L,upd m.S 2 ⟨false,(m.S 2).last,(m.S 2).seen⟩⟩,0) by unfold LogM.leaveF LogM.seat LogM.put;rw [hx];rfl)
   have c1:w.cell? ⟨g,3,none⟩=some (.bool (m.S 2).here):=h.here 2 (by omega)
   have f1:=h.fz 3 (by omega)
   have HE:=Lib.hid (h.setHere 2 (by omega) 3 rfl false)
   have HM:=Lib.hid (fun v=>Moves.setCell w ⟨g,3,none⟩ v h.fg)
   clear hx
   go_enter Tryz.func144,Tryz.ntmps144
   go_wp2_with (go_at_call 143;refine (BHere_b (by assumption) _ _ (Hid.out (by assumption))).mono ?_;rintro e w' ⟨rfl,rfl⟩)
   go_ret
   rw [Hf.out]
   exact ⟨rfl,HE.out,HM.out _⟩
  ·have Hf:=Lib.hid (show m.leaveF 3=(⟨m.L,upd m.S 3 ⟨false,(m.S 3).last,(m.S 3).seen⟩⟩,0) by unfold LogM.leaveF LogM.seat LogM.put;rw [hx];rfl)
   have c1:w.cell? ⟨g,4,none⟩=some (.bool (m.S 3).here):=h.here 3 (by omega)
   have f1:=h.fz 4 (by omega)
   have HE:=Lib.hid (h.setHere 3 (by omega) 4 rfl false)
   have HM:=Lib.hid (fun v=>Moves.setCell w ⟨g,4,none⟩ v h.fg)
   clear hx
   go_enter Tryz.func144,Tryz.ntmps144
   go_wp2_with (go_at_call 143;refine (BHere_b (by assumption) _ _ (Hid.out (by assumption))).mono ?_;rintro e w' ⟨rfl,rfl⟩)
   go_ret
   rw [Hf.out]
   exact ⟨rfl,HE.out,HM.out _⟩
theorem BSays_c (h:BookAt w base F g m) (x n:Int):Calls Tryz.prog 103 #[.pointer (some ⟨g,0,none⟩),.int .i64 x,.int .i64 n] w fun e w'=>
 e=.returned (.int .i64 (m.saysF x n).2)∧BookAt w' base F g (m.saysF x n).1∧Moves F w w':=by
 have HL:=Lib.hid h
 cases hx:m.hereF x
 ·have Hf:=Lib.hid (show m.saysF x n=(m,5) by unfold LogM.saysF;rw [hx];rfl)
  have HX:=Lib.hid hx
  clear hx
  go_enter Tryz.func103,Tryz.ntmps103
  go_wp2_with (go_at_call 143;refine (BHere_b (by assumption) _ _ (Hid.out (by assumption))).mono ?_;rintro e w' ⟨rfl,rfl⟩)
  go_ret
  exact ⟨by rw [Hf.out];rfl,by rw [Hf.out];exact HL.out,Moves.refl _ _⟩
 ·have HX:=Lib.hid hx
  obtain ⟨a,cap,r0,_⟩:=h.rows
  rcases isWriter_cases (LogM.hereF_writer hx).1 with rfl | rfl | rfl | rfl
  ·have Hf:=Lib.hid (show m.saysF 0 n=if n < (m.S 0).seen∨(m.L.length:Int) < n then (m,8) else (⟨m.L,upd m.S 0 ⟨(m.S 0).here,(m.S 0).last,n⟩⟩,0) by unfold LogM.saysF LogM.seat LogM.put;rw [hx];rfl)
   have c3:w.cell? ⟨g,9,none⟩=some (.int .i64 (m.S 0).seen):=h.seen 0 (by omega)
   have f3:=h.fz 9 (by omega)
   have HE:=Lib.hid (h.setSeen 0 (by omega) 9 rfl n)
   have HM:=Lib.hid (fun v=>Moves.setCell w ⟨g,9,none⟩ v h.fg)
   clear hx
   by_cases h1:n < (m.S 0).seen
   ·have h1B:decide (n < (m.S 0).seen)=true:=by simpa using h1
    have Hf2:=Lib.hid (Hf.out.trans (if_pos (.inl h1)))
    clear Hf h1
    go_enter Tryz.func103,Tryz.ntmps103
    go_wp2_with (go_at_call 143;refine (BHere_b (by assumption) _ _ (Hid.out (by assumption))).mono ?_;rintro e w' ⟨rfl,rfl⟩)
    go_ret
    rw [Hf2.out]
    exact ⟨rfl,HL.out,Moves.refl _ _⟩
   ·have h1B:decide (n < (m.S 0).seen)=false:=by simpa using h1
    by_cases h2:(m.L.length:Int) < n
    ·have h2B:decide ((m.L.length:Int) < n)=true:=by simpa using h2
     have Hf2:=Lib.hid (Hf.out.trans (if_pos (.inr h2)))
     clear Hf h1 h2
     go_enter Tryz.func103,Tryz.ntmps103
     go_wp2_with (go_at_call 143;refine (BHere_b (by assumption) _ _ (Hid.out (by assumption))).mono ?_;rintro e w' ⟨rfl,rfl⟩)
     go_ret
     rw [Hf2.out]
     exact ⟨rfl,HL.out,Moves.refl _ _⟩
    ·have h2B:decide ((m.L.length:Int) < n)=false:=by simpa using h2
     have Hf2:=Lib.hid (Hf.out.trans (if_neg (by omega)))
     clear Hf h1 h2
     go_enter Tryz.func103,Tryz.ntmps103
     go_wp2_with (go_at_call 143;refine (BHere_b (by assumption) _ _ (Hid.out (by assumption))).mono ?_;rintro e w' ⟨rfl,rfl⟩)
     go_ret
     rw [Hf2.out]
     exact ⟨rfl,HE.out,HM.out _⟩
  ·have Hf:=Lib.hid (show m.saysF 1 n=if n < (m.S 1).seen∨(m.L.length:Int) < n then (m,8) else (⟨m.L,upd m.S 1 ⟨(m.S 1).here,(m.S 1).last,n⟩⟩,0) by unfold LogM.saysF LogM.seat LogM.put;rw [hx];rfl)
   have c3:w.cell? ⟨g,10,none⟩=some (.int .i64 (m.S 1).seen):=h.seen 1 (by omega)
   have f3:=h.fz 10 (by omega)
   have HE:=Lib.hid (h.setSeen 1 (by omega) 10 rfl n)
   have HM:=Lib.hid (fun v=>Moves.setCell w ⟨g,10,none⟩ v h.fg)
   clear hx
   by_cases h1:n < (m.S 1).seen
   ·have h1B:decide (n < (m.S 1).seen)=true:=by simpa using h1
    have Hf2:=Lib.hid (Hf.out.trans (if_pos (.inl h1)))
    clear Hf h1
    go_enter Tryz.func103,Tryz.ntmps103
    go_wp2_with (go_at_call 143;refine (BHere_b (by assumption) _ _ (Hid.out (by assumption))).mono ?_;rintro e w' ⟨rfl,rfl⟩)
    go_ret
    rw [Hf2.out]
    exact ⟨rfl,HL.out,Moves.refl _ _⟩
   ·have h1B:decide (n < (m.S 1).seen)=false:=by simpa using h1
    by_cases h2:(m.L.length:Int) < n
    ·have h2B:decide ((m.L.length:Int) < n)=true:=by simpa using h2
     have Hf2:=Lib.hid (Hf.out.trans (if_pos (.inr h2)))
     clear Hf h1 h2
     go_enter Tryz.func103,Tryz.ntmps103
     go_wp2_with (go_at_call 143;refine (BHere_b (by assumption) _ _ (Hid.out (by assumption))).mono ?_;rintro e w' ⟨rfl,rfl⟩)
     go_ret
     rw [Hf2.out]
     exact ⟨rfl,HL.out,Moves.refl _ _⟩
    ·have h2B:decide ((m.L.length:Int) < n)=false:=by simpa using h2
     have Hf2:=Lib.hid (Hf.out.trans (if_neg (by omega)))
     clear Hf h1 h2
     go_enter Tryz.func103,Tryz.ntmps103
     go_wp2_with (go_at_call 143;refine (BHere_b (by assumption) _ _ (Hid.out (by assumption))).mono ?_;rintro e w' ⟨rfl,rfl⟩)
     go_ret
     rw [Hf2.out]
     exact ⟨rfl,HE.out,HM.out _⟩
  ·have Hf:=Lib.hid (show m.saysF 2 n=if n < (m.S 2).seen∨(m.L.length:Int) < n then (m,8) else (⟨m.L,upd m.S 2 ⟨(m.S 2).here,(m.S 2).last,n⟩⟩,0) by unfold LogM.saysF LogM.seat LogM.put;rw [hx];rfl)
   have c3:w.cell? ⟨g,11,none⟩=some (.int .i64 (m.S 2).seen):=h.seen 2 (by omega)
   have f3:=h.fz 11 (by omega)
   have HE:=Lib.hid (h.setSeen 2 (by omega) 11 rfl n)
   have HM:=Lib.hid (fun v=>Moves.setCell w ⟨g,11,none⟩ v h.fg)
   clear hx
   by_cases h1:n < (m.S 2).seen
   ·have h1B:decide (n < (m.S 2).seen)=true:=by simpa using h1
    have Hf2:=Lib.hid (Hf.out.trans (if_pos (.inl h1)))
    clear Hf h1
    go_enter Tryz.func103,Tryz.ntmps103
    go_wp2_with (go_at_call 143;refine (BHere_b (by assumption) _ _ (Hid.out (by assumption))).mono ?_;rintro e w' ⟨rfl,rfl⟩)
    go_ret
    rw [Hf2.out]
    exact ⟨rfl,HL.out,Moves.refl _ _⟩
   ·have h1B:decide (n < (m.S 2).seen)=false:=by simpa using h1
    by_cases h2:(m.L.length:Int) < n
    ·have h2B:decide ((m.L.length:Int) < n)=true:=by simpa using h2
     have Hf2:=Lib.hid (Hf.out.trans (if_pos (.inr h2)))
     clear Hf h1 h2
     go_enter Tryz.func103,Tryz.ntmps103
     go_wp2_with (go_at_call 143;refine (BHere_b (by assumption) _ _ (Hid.out (by assumption))).mono ?_;rintro e w' ⟨rfl,rfl⟩)
     go_ret
     rw [Hf2.out]
     exact ⟨rfl,HL.out,Moves.refl _ _⟩
    ·have h2B:decide ((m.L.length:Int) < n)=false:=by simpa using h2
     have Hf2:=Lib.hid (Hf.out.trans (if_neg (by omega)))
     clear Hf h1 h2
     go_enter Tryz.func103,Tryz.ntmps103
     go_wp2_with (go_at_call 143;refine (BHere_b (by assumption) _ _ (Hid.out (by assumption))).mono ?_;rintro e w' ⟨rfl,rfl⟩)
     go_ret
     rw [Hf2.out]
     exact ⟨rfl,HE.out,HM.out _⟩
  ·have Hf:=Lib.hid (show m.saysF 3 n=if n < (m.S 3).seen∨(m.L.length:Int) < n then (m,8) else (⟨m.L,upd m.S 3 ⟨(m.S 3).here,(m.S 3).last,n⟩⟩,0) by unfold LogM.saysF LogM.seat LogM.put;rw [hx];rfl)
   have c3:w.cell? ⟨g,12,none⟩=some (.int .i64 (m.S 3).seen):=h.seen 3 (by omega)
   have f3:=h.fz 12 (by omega)
   have HE:=Lib.hid (h.setSeen 3 (by omega) 12 rfl n)
   have HM:=Lib.hid (fun v=>Moves.setCell w ⟨g,12,none⟩ v h.fg)
   clear hx
   by_cases h1:n < (m.S 3).seen
   ·have h1B:decide (n < (m.S 3).seen)=true:=by simpa using h1
    have Hf2:=Lib.hid (Hf.out.trans (if_pos (.inl h1)))
    clear Hf h1
    go_enter Tryz.func103,Tryz.ntmps103
    go_wp2_with (go_at_call 143;refine (BHere_b (by assumption) _ _ (Hid.out (by assumption))).mono ?_;rintro e w' ⟨rfl,rfl⟩)
    go_ret
    rw [Hf2.out]
    exact ⟨rfl,HL.out,Moves.refl _ _⟩
   ·have h1B:decide (n < (m.S 3).seen)=false:=by simpa using h1
    by_cases h2:(m.L.length:Int) < n
    ·have h2B:decide ((m.L.length:Int) < n)=true:=by simpa using h2
     have Hf2:=Lib.hid (Hf.out.trans (if_pos (.inr h2)))
     clear Hf h1 h2
     go_enter Tryz.func103,Tryz.ntmps103
     go_wp2_with (go_at_call 143;refine (BHere_b (by assumption) _ _ (Hid.out (by assumption))).mono ?_;rintro e w' ⟨rfl,rfl⟩)
     go_ret
     rw [Hf2.out]
     exact ⟨rfl,HL.out,Moves.refl _ _⟩
    ·have h2B:decide ((m.L.length:Int) < n)=false:=by simpa using h2
     have Hf2:=Lib.hid (Hf.out.trans (if_neg (by omega)))
     clear Hf h1 h2
     go_enter Tryz.func103,Tryz.ntmps103
     go_wp2_with (go_at_call 143;refine (BHere_b (by assumption) _ _ (Hid.out (by assumption))).mono ?_;rintro e w' ⟨rfl,rfl⟩)
     go_ret
     rw [Hf2.out]
     exact ⟨rfl,HE.out,HM.out _⟩
set_option maxRecDepth 100000 in
theorem BLeast_c (h:BookAt w base F g m):Calls Tryz.prog 43 #[.pointer (some ⟨g,0,none⟩)] w fun e w'=>e=.returned (.int .i64 m.least)∧w'=w:=by
 obtain ⟨a,cap,r0,_⟩:=h.rows
 have H0:w.cell? ⟨g,1,none⟩=some (.bool (m.S 0).here):=h.here 0 (by omega)
 have S0:w.cell? ⟨g,9,none⟩=some (.int .i64 (m.S 0).seen):=h.seen 0 (by omega)
 have H1:w.cell? ⟨g,2,none⟩=some (.bool (m.S 1).here):=h.here 1 (by omega)
 have S1:w.cell? ⟨g,10,none⟩=some (.int .i64 (m.S 1).seen):=h.seen 1 (by omega)
 have H2:w.cell? ⟨g,3,none⟩=some (.bool (m.S 2).here):=h.here 2 (by omega)
 have S2:w.cell? ⟨g,11,none⟩=some (.int .i64 (m.S 2).seen):=h.seen 2 (by omega)
 have H3:w.cell? ⟨g,4,none⟩=some (.bool (m.S 3).here):=h.here 3 (by omega)
 have S3:w.cell? ⟨g,12,none⟩=some (.int .i64 (m.S 3).seen):=h.seen 3 (by omega)
 go_enter Tryz.func43,Tryz.ntmps43
 go_wp2
 go_loopw [3,4] (fun s3 s4 wr=>∃ k:Nat,k≤4∧s4=.int .i64 k∧s3=.int .i64 (m.leastTo k)∧wr=w) (fun _ s4 _=>4 - (intOf s4).toNat)
 case atStart=>exact ⟨0,by omega,rfl,rfl,rfl⟩
 case round=>
  obtain ⟨k,hk,rfl,rfl,hw⟩:=hrel
  rw [hw]
  clear hw
  rcases (show k=0∨k=1∨k=2∨k=3∨k=4 by omega) with rfl | rfl | rfl | rfl | rfl
  ·have HS:=Lib.hid (show m.leastTo 1=if (m.S 0).here then min (m.leastTo 0) (m.S 0).seen else m.leastTo 0 from rfl)
   generalize m.leastTo 0=n0 at *
   cases hh:(m.S 0).here
   ·rw [hh] at HS H0
    go_wp2
    exact ⟨⟨1,by omega,by go_num,by rw [HS.out];rfl,trivial⟩,by simp [intOf]⟩
   ·rw [hh] at HS H0
    by_cases h1:(m.S 0).seen < n0
    ·have HS2:=Lib.hid (show m.leastTo 1=(m.S 0).seen by rw [HS.out,if_pos rfl];omega)
     have h1B:decide ((m.S 0).seen < n0)=true:=decide_eq_true h1
     go_wp2
     exact ⟨⟨1,by omega,by go_num,by rw [HS2.out],trivial⟩,by simp [intOf]⟩
    ·have HS2:=Lib.hid (show m.leastTo 1=n0 by rw [HS.out,if_pos rfl];omega)
     have h1B:decide ((m.S 0).seen < n0)=false:=decide_eq_false h1
     go_wp2
     exact ⟨⟨1,by omega,by go_num,by rw [HS2.out],trivial⟩,by simp [intOf]⟩
  ·have HS:=Lib.hid (show m.leastTo 2=if (m.S 1).here then min (m.leastTo 1) (m.S 1).seen else m.leastTo 1 from rfl)
   generalize m.leastTo 1=n0 at *
   cases hh:(m.S 1).here
   ·rw [hh] at HS H1
    go_wp2
    exact ⟨⟨2,by omega,by go_num,by rw [HS.out];rfl,trivial⟩,by simp [intOf]⟩
   ·rw [hh] at HS H1
    by_cases h1:(m.S 1).seen < n0
    ·have HS2:=Lib.hid (show m.leastTo 2=(m.S 1).seen by rw [HS.out,if_pos rfl];omega)
     have h1B:decide ((m.S 1).seen < n0)=true:=decide_eq_true h1
     go_wp2
     exact ⟨⟨2,by omega,by go_num,by rw [HS2.out],trivial⟩,by simp [intOf]⟩
    ·have HS2:=Lib.hid (show m.leastTo 2=n0 by rw [HS.out,if_pos rfl];omega)
     have h1B:decide ((m.S 1).seen < n0)=false:=decide_eq_false h1
     go_wp2
     exact ⟨⟨2,by omega,by go_num,by rw [HS2.out],trivial⟩,by simp [intOf]⟩
  ·have HS:=Lib.hid (show m.leastTo 3=if (m.S 2).here then min (m.leastTo 2) (m.S 2).seen else m.leastTo 2 from rfl)
   generalize m.leastTo 2=n0 at *
   cases hh:(m.S 2).here
   ·rw [hh] at HS H2
    go_wp2
    exact ⟨⟨3,by omega,by go_num,by rw [HS.out];rfl,trivial⟩,by simp [intOf]⟩
   ·rw [hh] at HS H2
    by_cases h1:(m.S 2).seen < n0
    ·have HS2:=Lib.hid (show m.leastTo 3=(m.S 2).seen by rw [HS.out,if_pos rfl];omega)
     have h1B:decide ((m.S 2).seen < n0)=true:=decide_eq_true h1
     go_wp2
     exact ⟨⟨3,by omega,by go_num,by rw [HS2.out],trivial⟩,by simp [intOf]⟩
    ·have HS2:=Lib.hid (show m.leastTo 3=n0 by rw [HS.out,if_pos rfl];omega)
     have h1B:decide ((m.S 2).seen < n0)=false:=decide_eq_false h1
     go_wp2
     exact ⟨⟨3,by omega,by go_num,by rw [HS2.out],trivial⟩,by simp [intOf]⟩
  ·have HS:=Lib.hid (show m.leastTo 4=if (m.S 3).here then min (m.leastTo 3) (m.S 3).seen else m.leastTo 3 from rfl)
   generalize m.leastTo 3=n0 at *
   cases hh:(m.S 3).here
   ·rw [hh] at HS H3
    go_wp2
    exact ⟨⟨4,by omega,by go_num,by rw [HS.out];rfl,trivial⟩,by simp [intOf]⟩
   ·rw [hh] at HS H3
    by_cases h1:(m.S 3).seen < n0
    ·have HS2:=Lib.hid (show m.leastTo 4=(m.S 3).seen by rw [HS.out,if_pos rfl];omega)
     have h1B:decide ((m.S 3).seen < n0)=true:=decide_eq_true h1
     go_wp2
     exact ⟨⟨4,by omega,by go_num,by rw [HS2.out],trivial⟩,by simp [intOf]⟩
    ·have HS2:=Lib.hid (show m.leastTo 4=n0 by rw [HS.out,if_pos rfl];omega)
     have h1B:decide ((m.S 3).seen < n0)=false:=decide_eq_false h1
     go_wp2
     exact ⟨⟨4,by omega,by go_num,by rw [HS2.out],trivial⟩,by simp [intOf]⟩
  ·go_wp2
   go_ret
   exact ⟨rfl,rfl⟩
theorem LogM.Ok.text_le {m:LogM} (h:m.Ok):∀ d∈m.L,d.Text.size≤20:=by
 intro d hd
 obtain ⟨i,hi,rfl⟩:=List.getElem_of_mem hd
 have:=(deedFault_zero (h.deeds i hi).f).2.2.2.2.2.2.2
 rcases this with ⟨_,_,h⟩ | ⟨_,_,_,h⟩
 ·unfold textOk at h;simp only [Bool.and_eq_true,decide_eq_true_eq] at h;exact h.1.2
 ·omega
theorem BChars_c (h:BookAt w base F g m) (ho:m.Ok):Calls Tryz.prog 38 #[.pointer (some ⟨g,0,none⟩)] w fun e w'=>∃ a' cap',e=.returned (.slice a' m.chars.length cap')∧
 OwnRow w' w.heap.size 125 7 a' m.chars.length cap' (flat m.chars)∧Below w.heap.size w w':=by
 obtain ⟨a,cap,r0,r2,_⟩:=h.rows
 have HS:=Lib.hid r2.slDd
 have HT:=Lib.hid (show ∀ d∈m.L,d.Text.size≤maxLen from fun d hd=>by have:=ho.text_le d hd;unfold maxLen;omega)
 have hlen:=ho.len
 clear h r2 ho
 go_enter Tryz.func38,Tryz.ntmps38
 go_wp2_with fail
 refine (RAll_c a cap m.L _ HS.out HT.out (by omega)).mono ?_
 rintro e w1 ⟨a1,cap1,rfl,ho1,hb1⟩
 have HO1:=Lib.hid (fun o=>ho1.alloc o)
 have HB1:=Lib.hid (fun o=>hb1.alloc hb1.size o)
 clear ho1 hb1
 go_wp2
 go_ret
 exact ⟨a1,cap1,rfl,HO1.out _,HB1.out _⟩
end
end Go.Proofs.YtneoeokfffnonaaGreatDoor
