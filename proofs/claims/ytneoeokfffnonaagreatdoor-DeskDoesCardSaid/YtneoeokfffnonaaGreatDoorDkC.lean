/- Merged: DkL DkM DkT. -/
import Derived.Test.YtneoeokfffnonaaGreatDoorDkDo
import Derived.Test.YtneoeokfffnonaaGreatDoorOpen
set_option linter.unusedVariables false
set_option linter.unusedSimpArgs false
namespace Go.Proofs.YtneoeokfffnonaaGreatDoor
open Go.RowKit
def sTo (d:DkM):Nat→DkM
 | 0=>d
 | k+1=>sendAll (sTo d k) k
def hTo (d:DkM):Nat→DkM
 | 0=>d
 | k+1=>hearAll (hTo d k) k
theorem settle_to (d:DkM):settle d=hTo (sTo d 4) 4:=rfl
theorem sTo_ok {d:DkM} {N:Nat} (h:d.Ok) (hs:d.Sm N):∀ k,(sTo d k).Ok∧(sTo d k).Sm N
 | 0=>⟨h,hs⟩
 | k+1=>⟨((sTo_ok h hs k).1.sendAll_done _ k rfl).1,(sTo_ok h hs k).2.sendLoop _ _⟩
theorem hTo_ok {d:DkM} {N:Nat} (h:d.Ok) (hs:d.Sm N):∀ k,(hTo d k).Ok∧(hTo d k).Sm N
 | 0=>⟨h,hs⟩
 | k+1=>⟨((hTo_ok h hs k).1.hearAll_done _ k rfl).1,(hTo_ok h hs k).2.hearLoop _ _⟩
section
variable {w:World} {base:Nat} {F:Nat→Prop} {g:Nat} {gw:Nat→Nat} {d:DkM}
def DSt (w:World) (base:Nat) (F:Nat→Prop) (g:Nat) (d' : DkM) (w' : World):Prop:=∃ F' gw',DkAt w' base F' g gw' d'∧Moves F w w'∧Grows F w F'
theorem DSt.same (h:DkAt w base F g gw d):DSt w base F g d w:=⟨F,gw,h,Moves.refl _ _,fun _ hk=>.inl hk⟩
theorem DSt.step {d1 d2:DkM} {w1 w2:World} (h:DSt w base F g d1 w1) (k:∀ F1 gw1,DkAt w1 base F1 g gw1 d1→DPost w1 base F1 g gw1 d1 d2 w2):DSt w base F g d2 w2:=by
 obtain ⟨F1,gw1,h1,h2,h3⟩:=h
 obtain ⟨F2,gw2,k1,k2,k3,_⟩:=k F1 gw1 h1
 exact ⟨F2,gw2,k1,h2.transG h3 k2,h3.trans h2.size k3⟩
theorem sAll_none {e:DkM} {k:Nat} (h:e.writer (k:Int)=none):sendAll e k=e:=sendAll_none h
theorem sAll_step {e:DkM} {k:Nat} {m:WM} (h:e.writer (k:Int)=some m):e.step ⟨4,k,0,0,⟨#[]⟩⟩=e.send m:=by
 unfold DkM.step
 rw [if_neg (by show ¬ ((4:Int) < 1∨7 < (4:Int));omega),if_neg (by show ¬ ((4:Int)=1);omega)]
 show (match e.writer (k:Int) with | none=>_ | some m=>_)=_
 rw [h]
 rfl
theorem hAll_none {e:DkM} {k:Nat} (h:e.writer (k:Int)=none):hearAll e k=e:=hearAll_none h
theorem hAll_step {e:DkM} {k:Nat} {m:WM} (h:e.writer (k:Int)=some m):e.step ⟨5,k,0,0,⟨#[]⟩⟩=e.hear m:=by
 unfold DkM.step
 rw [if_neg (by show ¬ ((5:Int) < 1∨7 < (5:Int));omega),if_neg (by show ¬ ((5:Int)=1);omega)]
 show (match e.writer (k:Int) with | none=>_ | some m=>_)=_
 rw [h]
 rfl
set_option maxRecDepth 100000 in
set_option maxHeartbeats 800000 in
theorem Settle_c (h:DkAt w base F g gw d) (ho:d.Ok) (hs:d.Sm 1000):Calls Tryz.prog 56 #[.pointer (some ⟨g,0,none⟩)] w fun e w'=>(∃ v,e=.returned v)∧DSt w base F g (settle d) w':=by
 have HST:=Lib.hid (DSt.same h)
 have HOK:=Lib.hid (sTo_ok ho hs)
 have HOK2:=Lib.hid (hTo_ok (sTo_ok ho hs 4).1 (sTo_ok ho hs 4).2)
 clear h ho hs
 go_enter Tryz.func56,Tryz.ntmps56
 go_wp2
 go_loopw [4] (fun s wr=>∃ k:Nat,k≤4∧s=(.int .i64 k)∧Hid (DSt w base F g (sTo d k) wr)) (fun s _=>4 - (intOf s).toNat)
 case atStart=>exact ⟨0,by omega,rfl,HST⟩
 case round=>
  obtain ⟨k,hk,rfl,HS⟩:=hrel
  have HOKS:=Lib.hid (HOK.out k)
  by_cases hlt:k < 4
  ·have hltB:decide ((k:Int) < 4)=true:=decide_eq_true (by omega)
   have hk0:(0:Int)≤(k:Int):=by omega
   have hk4:(k:Int) < 4:=by omega
   have hiw:isWriter (k:Int)=true:=isWriter_nat hlt
   obtain ⟨T,hT⟩:∃ T,T=sendAll (sTo d k) k:=⟨_,rfl⟩
   have HT:=Lib.hid (show sTo d (k+1)=T from hT.symm)
   have HTE:=Lib.hid hT
   clear hT
   go_wp2
   go_loopg [] (mu1 (sTo d k) k) (fun n wx=>∃ e:DkM,Hid (e.Ok)∧Hid (e.Sm 1000)∧Hid (sendAll e k=T)∧Hid (mu1 e k=n)∧Hid (DSt w base F g e wx))
   case atStart=>exact ⟨sTo d k,Lib.hid HOKS.out.1,Lib.hid HOKS.out.2,Lib.hid HTE.out.symm,Lib.hid rfl,HS⟩
   case round=>
    obtain ⟨e,HO,HSm,HA,HM,HD⟩:=hrel
    clear HS
    obtain ⟨Fe,gwe,hde,hme,hge⟩:=HD.out
    have HDE:=Lib.hid hde;have HME:=Lib.hid hme;have HGE:=Lib.hid hge
    obtain ⟨_,_,_,rr⟩:=hde.rows
    have hc:=rr.cellW k hlt
    have HPN:=Lib.hid (show e.ptr gwe (k:Int)=e.ptrN gwe k from by have:=DkM.ptr_N (d:=e) hiw gwe;simpa using this)
    clear rr hde hme hge
    cases hw:e.writer (k:Int) with
    | none=>
     rw [← HPN.out,DkM.ptr_none hw] at hc
     have HFIN:=Lib.hid (show DSt w base F g (sTo d (k+1)) _ from by rw [HT.out,← HA.out,sAll_none hw];exact HD.out)
     clear HPN HDE hw
     go_wp2
     exact ⟨⟨k+1,by omega,by go_num,HFIN⟩,by simp [intOf];omega⟩
    | some m=>
     rw [← HPN.out,DkM.ptr_some hw] at hc
     have HSTP:=Lib.hid (sAll_step hw)
     have HDO:=Lib.hid (show Calls Tryz.prog 48 #[.pointer (some ⟨g,0,none⟩),.agg #[.int .i64 4,.int .i64 (k:Int),.int .i64 0,.int .i64 0,.string ⟨#[]⟩]] _ (DoPost _ base Fe g gwe e ⟨4,k,0,0,⟨#[]⟩⟩) from
      DDo_c HDE.out HO.out HSm.out ⟨4,k,0,0,⟨#[]⟩⟩ ⟨by show i64ok 0;unfold i64ok;omega,by show (0:Nat)≤maxLen;exact Nat.zero_le _⟩)
     clear HPN
     have HW:=Lib.hid hw
     clear hw
     go_wp2_with fail
     refine HDO.out.mono ?_
     rintro e3 w3 ⟨rfl,hp⟩
     rw [HSTP.out] at hp ⊢
     have HD3:=Lib.hid (show DSt w base F g (e.send m).1 w3 from by
      obtain ⟨F2,gw2,k1,k2,k3,_⟩:=hp
      exact ⟨F2,gw2,k1,HME.out.transG HGE.out k2,HGE.out.trans HME.out.size k3⟩)
     have HO3:=Lib.hid (show (e.send m).1.Ok from (HO.out.send HW.out).1)
     have HS3:=Lib.hid (show (e.send m).1.Sm 1000 from HSm.out.send (HSm.out.writer HW.out))
     clear hp HDO HSTP
     by_cases h0:(e.send m).2=0
     ·have HMU:=Lib.hid (HO.out.send_mu HW.out h0)
      have HAS:=Lib.hid (HO.out.sendAll_step HW.out h0)
      rw [h0]
      clear h0 HD HDE HME HGE
      go_wp2
      go_roundg (mu1 (e.send m).1 (k:Int))
      case measure=>have:=HMU.out;have:=HM.out;omega
      case rel=>exact ⟨_,HO3,HS3,Lib.hid (by rw [← HAS.out];exact HA.out),Lib.hid rfl,HD3⟩
     ·have HFIN:=Lib.hid (show DSt w base F g (sTo d (k+1)) w3 from by rw [HT.out,← HA.out,sendAll_stop HW.out h0];exact HD3.out)
      have h0B:((e.send m).2==0)=false:=by simpa using h0
      have h0D:decide ((e.send m).2=0)=false:=decide_eq_false h0
      clear h0 HD HDE HME HGE HD3 HO3 HS3
      generalize (e.send m).2=code at *
      go_wp2
      exact ⟨⟨k+1,by omega,by go_num,HFIN⟩,by simp [intOf];omega⟩
  ·have hk4:k=4:=by omega
   have HSF:=Lib.hid (show DSt w base F g (sTo d 4) _ from by have:=HS.out;rw [hk4] at this;exact this)
   have hltB:decide ((k:Int) < 4)=false:=decide_eq_false (by omega)
   clear hk4 HS HOKS
   have HST:=HSF
   go_wp2
   go_loopw [22] (fun s wr=>∃ k:Nat,k≤4∧s=(.int .i64 k)∧Hid (DSt w base F g (hTo (sTo d 4) k) wr)) (fun s _=>4 - (intOf s).toNat)
   case atStart=>exact ⟨0,by omega,rfl,HST⟩
   case round=>
    obtain ⟨k,hk,rfl,HS⟩:=hrel
    have HOKS:=Lib.hid (HOK2.out k)
    by_cases hlt:k < 4
    ·have hltB:decide ((k:Int) < 4)=true:=decide_eq_true (by omega)
     have hk0:(0:Int)≤(k:Int):=by omega
     have hk4:(k:Int) < 4:=by omega
     have hiw:isWriter (k:Int)=true:=isWriter_nat hlt
     obtain ⟨T,hT⟩:∃ T,T=hearAll (hTo (sTo d 4) k) k:=⟨_,rfl⟩
     have HT:=Lib.hid (show hTo (sTo d 4) (k+1)=T from hT.symm)
     have HTE:=Lib.hid hT
     clear hT
     go_wp2
     go_loopg [] (mu2 (hTo (sTo d 4) k) k) (fun n wx=>∃ e:DkM,Hid (e.Ok)∧Hid (e.Sm 1000)∧Hid (hearAll e k=T)∧Hid (mu2 e k=n)∧Hid (DSt w base F g e wx))
     case atStart=>exact ⟨hTo (sTo d 4) k,Lib.hid HOKS.out.1,Lib.hid HOKS.out.2,Lib.hid HTE.out.symm,Lib.hid rfl,HS⟩
     case round=>
      obtain ⟨e,HO,HSm,HA,HM,HD⟩:=hrel
      clear HS
      obtain ⟨Fe,gwe,hde,hme,hge⟩:=HD.out
      have HDE:=Lib.hid hde;have HME:=Lib.hid hme;have HGE:=Lib.hid hge
      obtain ⟨_,_,_,rr⟩:=hde.rows
      have hc:=rr.cellW k hlt
      have HPN:=Lib.hid (show e.ptr gwe (k:Int)=e.ptrN gwe k from by have:=DkM.ptr_N (d:=e) hiw gwe;simpa using this)
      clear rr hde hme hge
      cases hw:e.writer (k:Int) with
      | none=>
       rw [← HPN.out,DkM.ptr_none hw] at hc
       have HFIN:=Lib.hid (show DSt w base F g (hTo (sTo d 4) (k+1)) _ from by rw [HT.out,← HA.out,hAll_none hw];exact HD.out)
       clear HPN HDE hw
       go_wp2
       exact ⟨⟨k+1,by omega,by go_num,HFIN⟩,by simp [intOf];omega⟩
      | some m=>
       rw [← HPN.out,DkM.ptr_some hw] at hc
       have HSTP:=Lib.hid (hAll_step hw)
       have HDO:=Lib.hid (show Calls Tryz.prog 48 #[.pointer (some ⟨g,0,none⟩),.agg #[.int .i64 5,.int .i64 (k:Int),.int .i64 0,.int .i64 0,.string ⟨#[]⟩]] _ (DoPost _ base Fe g gwe e ⟨5,k,0,0,⟨#[]⟩⟩) from
        DDo_c HDE.out HO.out HSm.out ⟨5,k,0,0,⟨#[]⟩⟩ ⟨by show i64ok 0;unfold i64ok;omega,by show (0:Nat)≤maxLen;exact Nat.zero_le _⟩)
       clear HPN
       have HW:=Lib.hid hw
       clear hw
       go_wp2_with fail
       refine HDO.out.mono ?_
       rintro e3 w3 ⟨rfl,hp⟩
       rw [HSTP.out] at hp ⊢
       have HD3:=Lib.hid (show DSt w base F g (e.hear m).1 w3 from by
        obtain ⟨F2,gw2,k1,k2,k3,_⟩:=hp
        exact ⟨F2,gw2,k1,HME.out.transG HGE.out k2,HGE.out.trans HME.out.size k3⟩)
       have HO3:=Lib.hid (show (e.hear m).1.Ok from (HO.out.hear HW.out).1)
       have HS3:=Lib.hid (show (e.hear m).1.Sm 1000 from HSm.out.hear (HSm.out.writer HW.out))
       clear hp HDO HSTP
       by_cases h0:(e.hear m).2=0
       ·have HMU:=Lib.hid (HO.out.hear_mu HW.out h0)
        have HAS:=Lib.hid (HO.out.hearAll_step HW.out h0)
        rw [h0]
        clear h0 HD HDE HME HGE
        go_wp2
        go_roundg (mu2 (e.hear m).1 (k:Int))
        case measure=>have:=HMU.out;have:=HM.out;omega
        case rel=>exact ⟨_,HO3,HS3,Lib.hid (by rw [← HAS.out];exact HA.out),Lib.hid rfl,HD3⟩
       ·have HFIN:=Lib.hid (show DSt w base F g (hTo (sTo d 4) (k+1)) w3 from by rw [HT.out,← HA.out,hearAll_stop HW.out h0];exact HD3.out)
        have h0B:((e.hear m).2==0)=false:=by simpa using h0
        have h0D:decide ((e.hear m).2=0)=false:=decide_eq_false h0
        clear h0 HD HDE HME HGE HD3 HO3 HS3
        generalize (e.hear m).2=code at *
        go_wp2
        exact ⟨⟨k+1,by omega,by go_num,HFIN⟩,by simp [intOf];omega⟩
    ·have hk4:k=4:=by omega
     have HSF:=Lib.hid (show DSt w base F g (hTo (sTo d 4) 4) _ from by have:=HS.out;rw [hk4] at this;exact this)
     have hltB:decide ((k:Int) < 4)=false:=decide_eq_false (by omega)
     clear hk4 HS HOKS
     go_wp2
     refine bodyPost_end (results_none rfl _ _ _) rfl ?_
     exact ⟨⟨_,rfl⟩,by rw [settle_to];exact HSF.out⟩
end
end Go.Proofs.YtneoeokfffnonaaGreatDoor
namespace Go.Proofs.YtneoeokfffnonaaGreatDoor
open Go.ChangeShapes Go.WideShapes Go.ChangeAt Go.RowKit
set_option linter.unusedVariables false
set_option maxRecDepth 100000
def DStep.cells (x:DStep):List Value:=[.int .i64 x.Kind,.int .i64 x.W,.int .i64 x.At,.int .i64 x.Many,.string x.Text]
def DStep.ok (x:DStep):Prop:=i64ok x.Kind∧i64ok x.W∧i64ok x.At∧i64ok x.Many∧x.Text.size≤maxLen
def StC (w:World) (b o:Nat) (x:DStep):Prop:=
 w.cell? ⟨b,o,none⟩=some (.int .i64 x.Kind)∧
 w.cell? ⟨b,o+1,none⟩=some (.int .i64 x.W)∧
 w.cell? ⟨b,o+2,none⟩=some (.int .i64 x.At)∧
 w.cell? ⟨b,o+3,none⟩=some (.int .i64 x.Many)∧
 w.cell? ⟨b,o+4,none⟩=some (.string x.Text)
def SlSt (w:World) (a:Option Addr) (cap:Nat) (l:List DStep):Prop:=
 l.length≤cap∧cap≤maxLen∧∀ i (h:i < l.length),∃ b off,a=some ⟨b,off,none⟩∧StC w b (off+i * 5) l[i]
theorem StC.lt {w:World} {b o:Nat} {c:DStep} (h:StC w b o c):b < w.heap.size:=World.block_lt_of_cell? _ _ h.1
theorem StC.of_block {w w' : World} {b o:Nat} {c:DStep} (h:StC w b o c) (hb:w'.heap[b]? = w.heap[b]?):StC w' b o c:=by
 have k:∀ o,w'.cell? ⟨b,o,none⟩=w.cell? ⟨b,o,none⟩:=fun o=>World.cell?_of_block (w:=w) hb
 unfold StC at *
 simp only [k];exact h
theorem StC.below {w w' : World} {b o:Nat} {c:DStep} (h:StC w b o c) {B:Nat} (hb:Below B w w') (hB:b < B):StC w' b o c:=h.of_block (hb.block b hB)
theorem SlSt.nth {w:World} {a:Option Addr} {cap:Nat} {l:List DStep} (h:SlSt w a cap l) {k:Nat} (hk:k < l.length):∃ b off,a=some ⟨b,off,none⟩∧StC w b (off+k * 5) l[k]:=h.2.2 k hk
theorem SlSt.below {w w' : World} {a:Option Addr} {cap:Nat} {l:List DStep} (h:SlSt w a cap l) (hb:Below w.heap.size w w'):SlSt w' a cap l:=by
 refine ⟨h.1,h.2.1,fun i hi=>?_⟩
 obtain ⟨b,off,ha,hc⟩:=h.2.2 i hi
 exact ⟨b,off,ha,hc.below hb hc.lt⟩
theorem SlSt.nil (w:World):SlSt w none 0 []:=⟨by simp,by simp,fun i h=>by simp at h⟩
end Go.Proofs.YtneoeokfffnonaaGreatDoor
namespace Go.Proofs.YtneoeokfffnonaaGreatDoor
open Go.RowKit
section
variable {w:World} {base:Nat} {F:Nat→Prop} {g:Nat} {gw:Nat→Nat} {d:DkM}
theorem DNew_c (w:World):Calls Tryz.prog 11 #[] w fun e w'=>∃ F g gw,e=.returned (.pointer (some ⟨g,0,none⟩))∧DkAt w' w.heap.size F g gw DkM.new∧Below w.heap.size w w':=by
 go_enter Tryz.func11,Tryz.ntmps11
 go_wp2_with fail
 refine (New_log w).mono ?_
 rintro e w1 ⟨FL,gl,rfl,hL,hb⟩
 have HD:=Lib.hid (DkAt.newG (w:=w1) (fun _=>0) hL #[.pointer (some ⟨gl,0,none⟩),.pointer none,.pointer none,.pointer none,.pointer none] 58 rfl (fun j hj=>by
  obtain rfl | rfl | rfl | rfl:j=0∨j=1∨j=2∨j=3:=by omega
  all_goals rfl))
 have HB:=Lib.hid (hb.trans ((Below.refl w1.heap.size w1).alloc (Nat.le_refl _) (.cells #[.pointer (some ⟨gl,0,none⟩),.pointer none,.pointer none,.pointer none,.pointer none] 58) |>.mono hb.size))
 clear hL hb
 go_wp2
 go_ret
 exact ⟨_,_,_,rfl,HD.out,HB.out⟩
def DW (w:World) (base g:Nat) (d:DkM) (w' : World):Prop:=(∃ F gw,DkAt w' base F g gw d)∧Below base w w'
theorem DW.step {d1 d2:DkM} {w1 w2:World} (h:DW w base g d1 w1) (k:∀ F gw,DkAt w1 base F g gw d1→DPost w1 base F g gw d1 d2 w2):DW w base g d2 w2:=by
 obtain ⟨⟨F,gw,h1⟩,h2⟩:=h
 obtain ⟨F2,gw2,k1,k2,_,_⟩:=k F gw h1
 exact ⟨⟨F2,gw2,k1⟩,h2.trans (h1.below k2)⟩
theorem DW.st {d1 d2:DkM} {w1 w2:World} (h:DW w base g d1 w1) (k:∀ F gw,DkAt w1 base F g gw d1→DSt w1 base F g d2 w2):DW w base g d2 w2:=by
 obtain ⟨⟨F,gw,h1⟩,h2⟩:=h
 obtain ⟨F2,gw2,k1,k2,_⟩:=k F gw h1
 exact ⟨⟨F2,gw2,k1⟩,h2.trans (h1.below k2)⟩
theorem DW.later {d1:DkM} {w1 w2:World} (h:DW w base g d1 w1) (hl:Below w1.heap.size w1 w2):DW w base g d1 w2:=by
 obtain ⟨⟨F,gw,h1⟩,h2⟩:=h
 exact ⟨⟨F,gw,h1.later hl⟩,h2.trans (hl.mono h1.base_le)⟩
end
end Go.Proofs.YtneoeokfffnonaaGreatDoor
namespace Go.Proofs.YtneoeokfffnonaaGreatDoor
open Go.RowKit
theorem strOfNums_size (xs:List Int):(strOfNums xs).size=xs.length:=by
 have:=congrArg List.length (strOfNums_list xs)
 rw [List.length_map] at this
 rw [← this];rfl
theorem DW.wr {w w1:World} {base g:Nat} {d:DkM} (h:DW w base g d w1) (ho:d.Ok) {x:Int} {m:WM} (hw:d.writer x=some m) :
 ∃ gx,(∃ F gw,DkAt w1 base F g gw d∧d.ptr gw x=(.pointer (some ⟨gx,0,none⟩)))∧∃ FW,WrAt w1 base FW gx m.v:=by
 obtain ⟨⟨F,gw,h1⟩,_⟩:=h
 obtain ⟨hx,hme,hW,t,hin⟩:=ho.of_writer hw
 obtain ⟨FW,_,_,hwr,_⟩:=h1.wrZ (toNat_lt hx).1 hW
 exact ⟨gw x.toNat,⟨F,gw,h1,DkM.ptr_some hw gw⟩,FW,hwr⟩
theorem DW.log {w w1:World} {base g:Nat} {d:DkM} (h:DW w base g d w1):∃ gl FL,w1.cell? ⟨g,0,none⟩=some (.pointer (some ⟨gl,0,none⟩))∧LogAt w1 base FL gl d.lm∧g < w1.heap.size:=by
 obtain ⟨⟨F,gw,h1⟩,_⟩:=h
 obtain ⟨gl,FL,_,c0,hl,_⟩:=h1.logZ
 exact ⟨gl,FL,c0,hl,h1.lt⟩
end Go.Proofs.YtneoeokfffnonaaGreatDoor
namespace Go.Proofs.YtneoeokfffnonaaGreatDoor
open Go.RowKit
section
variable {w:World} {base g:Nat}
def DWg (w:World) (base g:Nat) (d:DkM) (K gx:Nat) (w' : World):Prop:=(∃ F gw,DkAt w' base F g gw d∧gw K=gx)∧Below base w w'
theorem DWg.later {d:DkM} {K gx:Nat} {w1 w2:World} (h:DWg w base g d K gx w1) (hl:Below w1.heap.size w1 w2):DWg w base g d K gx w2:=by
 obtain ⟨⟨F,gw,h1,e⟩,h2⟩:=h
 exact ⟨⟨F,gw,h1.later hl,e⟩,h2.trans (hl.mono h1.base_le)⟩
theorem DWg.wr {d:DkM} {K gx:Nat} {w1:World} (h:DWg w base g d K gx w1) (ho:d.Ok) {m:WM} (hw:d.writer (K:Int)=some m):(∃ F gw,DkAt w1 base F g gw d∧d.ptr gw (K:Int)=(.pointer (some ⟨gx,0,none⟩)))∧∃ FW,WrAt w1 base FW gx m.v:=by
 obtain ⟨⟨F,gw,h1,e⟩,_⟩:=h
 obtain ⟨hx,hme,hW,t,hin⟩:=ho.of_writer hw
 obtain ⟨FW,_,_,hwr,_⟩:=h1.wrZ (toNat_lt hx).1 hW
 rw [Int.toNat_natCast,e] at hwr
 exact ⟨⟨F,gw,h1,by rw [DkM.ptr_some hw,Int.toNat_natCast,e]⟩,FW,hwr⟩
end
end Go.Proofs.YtneoeokfffnonaaGreatDoor
namespace Go.Proofs.YtneoeokfffnonaaGreatDoor
open Go.RowKit
end Go.Proofs.YtneoeokfffnonaaGreatDoor
set_option linter.unusedVariables false
set_option linter.unusedSimpArgs false
namespace Go.Proofs.YtneoeokfffnonaaGreatDoor
open Go.RowKit
def seenS (d:DkM) (x:Int):ByteArray:=match d.writer x with
 | none=>⟨#[]⟩
 | some m=>strOfNums m.view
theorem Twins.seen {d e:DkM} (h:Twins d e) (x:Int):seenS d x=seenS e x:=by
 have:=h.view x
 unfold seenS
 rcases h.w x with ⟨h1,h2⟩ | ⟨a,b,h1,h2,_⟩
 ·rw [h1,h2]
 ·rw [h1,h2] at this ⊢
  simp only [Option.map_some,Option.some.injEq] at this
  simp only [this]
section
variable {w:World} {base:Nat} {F:Nat→Prop} {g:Nat} {gw:Nat→Nat} {d:DkM}
def DW2 (w:World) (base g1 g2:Nat) (d e:DkM) (w' : World):Prop:=
 (∃ F1 gw1 F2 gw2,DkAt w' base F1 g1 gw1 d∧DkAt w' base F2 g2 gw2 e∧∀ k,F1 k→¬ F2 k)∧Below base w w'
theorem DW2.later {g1 g2:Nat} {d e:DkM} {w1 w2:World} (h:DW2 w base g1 g2 d e w1) (hl:Below w1.heap.size w1 w2):DW2 w base g1 g2 d e w2:=by
 obtain ⟨⟨F1,gw1,F2,gw2,h1,h2,h3⟩,h4⟩:=h
 exact ⟨⟨F1,gw1,F2,gw2,h1.later hl,h2.later hl,h3⟩,h4.trans (hl.mono h1.base_le)⟩
end
end Go.Proofs.YtneoeokfffnonaaGreatDoor
