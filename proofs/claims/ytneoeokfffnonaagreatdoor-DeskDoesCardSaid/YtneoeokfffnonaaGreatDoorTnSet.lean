/- Printed by gentset.py: the walk of the town's Settle; a new town; desks and a town side by side. -/
import Derived.Test.YtneoeokfffnonaaGreatDoorTnDo
import Derived.Test.YtneoeokfffnonaaGreatDoorDkC
set_option linter.unusedVariables false
set_option linter.unusedSimpArgs false
namespace Go.Proofs.YtneoeokfffnonaaGreatDoor
open Go.RowKit
section
variable {w:World} {base:Nat} {F:Nat→Prop} {g:Nat} {gw:Nat→Nat} {d:DkM}
set_option maxRecDepth 100000 in
set_option maxHeartbeats 800000 in
theorem TSettle_c (h:TnAt w base F g gw d) (ho:d.Ok) (hs:d.Sm 1000):Calls Tryz.prog 42 #[.pointer (some ⟨g,0,none⟩)] w fun e w'=>(∃ v,e=.returned v)∧TPost w base F g (settle d) w':=by
 have HST:=Lib.hid ((TnS.start h (Below.refl _ _)).post)
 have HOK:=Lib.hid (sTo_ok ho hs)
 have HOK2:=Lib.hid (hTo_ok (sTo_ok ho hs 4).1 (sTo_ok ho hs 4).2)
 clear h ho hs
 go_enter Tryz.func42,Tryz.ntmps42
 go_wp2
 go_loopw [2] (fun s wr=>∃ k:Nat,k≤4∧s=(.int .i64 k)∧Hid (TPost w base F g (sTo d k) wr)) (fun s _=>4 - (intOf s).toNat)
 case atStart=>exact ⟨0,by omega,rfl,HST⟩
 case round=>
  obtain ⟨k,hk,rfl,HS⟩:=hrel
  have HOKS:=Lib.hid (HOK.out k)
  by_cases hlt:k < 4
  ·have hltB:decide ((k:Int) < 4)=true:=decide_eq_true (by omega)
   have hk0:(0:Int)≤(k:Int):=by omega
   have hk4:(k:Int) < 4:=by omega
   have hiw:isWriter (k:Int)=true:=isWriter_nat hlt
   obtain ⟨T,hT⟩:∃ T,T=sendAll (sTo d k) k:=⟨_,rfl⟩
   have HT:=Lib.hid (show sTo d (k+1)=T from hT.symm)
   have HTE:=Lib.hid hT
   clear hT
   go_wp2
   go_loopg [] (mu1 (sTo d k) k) (fun n wx=>∃ e:DkM,Hid (e.Ok)∧Hid (e.Sm 1000)∧Hid (sendAll e k=T)∧Hid (mu1 e k=n)∧Hid (TPost w base F g e wx))
   case atStart=>exact ⟨sTo d k,Lib.hid HOKS.out.1,Lib.hid HOKS.out.2,Lib.hid HTE.out.symm,Lib.hid rfl,HS⟩
   case round=>
    obtain ⟨e,HO,HSm,HA,HM,HD⟩:=hrel
    clear HS
    obtain ⟨Fe,gwe,hde,hme,hge⟩:=HD.out
    have HDE:=Lib.hid hde;have HME:=Lib.hid hme;have HGE:=Lib.hid hge
    obtain ⟨_,_,_,rr⟩:=hde.rows
    have hc:=rr.cellW k hlt
    have HPN:=Lib.hid (show e.ptr gwe (k:Int)=e.ptrN gwe k from by have:=DkM.ptr_N (d:=e) hiw gwe;simpa using this)
    clear rr hde hme hge
    cases hw:e.writer (k:Int) with
    | none=>
     rw [← HPN.out,DkM.ptr_none hw] at hc
     have HFIN:=Lib.hid (show TPost w base F g (sTo d (k+1)) _ from by rw [HT.out,← HA.out,sAll_none hw];exact HD.out)
     clear HPN HDE hw
     go_wp2
     exact ⟨⟨k+1,by omega,by go_num,HFIN⟩,by simp [intOf];omega⟩
    | some m=>
     rw [← HPN.out,DkM.ptr_some hw] at hc
     have HSTP:=Lib.hid (sAll_step hw)
     have HDO:=Lib.hid (show Calls Tryz.prog 61 #[.pointer (some ⟨g,0,none⟩),.agg #[.int .i64 4,.int .i64 (k:Int),.int .i64 0,.int .i64 0,.string ⟨#[]⟩]] _ (TDoPost _ base Fe g e ⟨4,k,0,0,⟨#[]⟩⟩) from
      TDo_c HDE.out HO.out HSm.out ⟨4,k,0,0,⟨#[]⟩⟩ ⟨by show i64ok 0;unfold i64ok;omega,by show (0:Nat)≤maxLen;exact Nat.zero_le _⟩)
     clear HPN
     have HW:=Lib.hid hw
     clear hw
     go_wp2_with fail
     refine HDO.out.mono ?_
     rintro e3 w3 ⟨rfl,hp⟩
     rw [HSTP.out] at hp ⊢
     have HD3:=Lib.hid (show TPost w base F g (e.send m).1 w3 from by
      obtain ⟨F2,gw2,k1,k2,k3⟩:=hp
      exact ⟨F2,gw2,k1,HME.out.transG HGE.out k2,HGE.out.trans HME.out.size k3⟩)
     have HO3:=Lib.hid (show (e.send m).1.Ok from (HO.out.send HW.out).1)
     have HS3:=Lib.hid (show (e.send m).1.Sm 1000 from HSm.out.send (HSm.out.writer HW.out))
     clear hp HDO HSTP
     by_cases h0:(e.send m).2=0
     ·have HMU:=Lib.hid (HO.out.send_mu HW.out h0)
      have HAS:=Lib.hid (HO.out.sendAll_step HW.out h0)
      rw [h0]
      clear h0 HD HDE HME HGE
      go_wp2
      go_roundg (mu1 (e.send m).1 (k:Int))
      case measure=>have:=HMU.out;have:=HM.out;omega
      case rel=>exact ⟨_,HO3,HS3,Lib.hid (by rw [← HAS.out];exact HA.out),Lib.hid rfl,HD3⟩
     ·have HFIN:=Lib.hid (show TPost w base F g (sTo d (k+1)) w3 from by rw [HT.out,← HA.out,sendAll_stop HW.out h0];exact HD3.out)
      have h0B:((e.send m).2==0)=false:=by simpa using h0
      have h0D:decide ((e.send m).2=0)=false:=decide_eq_false h0
      clear h0 HD HDE HME HGE HD3 HO3 HS3
      generalize (e.send m).2=code at *
      go_wp2
      exact ⟨⟨k+1,by omega,by go_num,HFIN⟩,by simp [intOf];omega⟩
  ·have hk4:k=4:=by omega
   have HSF:=Lib.hid (show TPost w base F g (sTo d 4) _ from by have:=HS.out;rw [hk4] at this;exact this)
   have hltB:decide ((k:Int) < 4)=false:=decide_eq_false (by omega)
   clear hk4 HS HOKS
   have HST:=HSF
   go_wp2
   go_loopw [3] (fun s wr=>∃ k:Nat,k≤4∧s=(.int .i64 k)∧Hid (TPost w base F g (hTo (sTo d 4) k) wr)) (fun s _=>4 - (intOf s).toNat)
   case atStart=>exact ⟨0,by omega,rfl,HST⟩
   case round=>
    obtain ⟨k,hk,rfl,HS⟩:=hrel
    have HOKS:=Lib.hid (HOK2.out k)
    by_cases hlt:k < 4
    ·have hltB:decide ((k:Int) < 4)=true:=decide_eq_true (by omega)
     have hk0:(0:Int)≤(k:Int):=by omega
     have hk4:(k:Int) < 4:=by omega
     have hiw:isWriter (k:Int)=true:=isWriter_nat hlt
     obtain ⟨T,hT⟩:∃ T,T=hearAll (hTo (sTo d 4) k) k:=⟨_,rfl⟩
     have HT:=Lib.hid (show hTo (sTo d 4) (k+1)=T from hT.symm)
     have HTE:=Lib.hid hT
     clear hT
     go_wp2
     go_loopg [] (mu2 (hTo (sTo d 4) k) k) (fun n wx=>∃ e:DkM,Hid (e.Ok)∧Hid (e.Sm 1000)∧Hid (hearAll e k=T)∧Hid (mu2 e k=n)∧Hid (TPost w base F g e wx))
     case atStart=>exact ⟨hTo (sTo d 4) k,Lib.hid HOKS.out.1,Lib.hid HOKS.out.2,Lib.hid HTE.out.symm,Lib.hid rfl,HS⟩
     case round=>
      obtain ⟨e,HO,HSm,HA,HM,HD⟩:=hrel
      clear HS
      obtain ⟨Fe,gwe,hde,hme,hge⟩:=HD.out
      have HDE:=Lib.hid hde;have HME:=Lib.hid hme;have HGE:=Lib.hid hge
      obtain ⟨_,_,_,rr⟩:=hde.rows
      have hc:=rr.cellW k hlt
      have HPN:=Lib.hid (show e.ptr gwe (k:Int)=e.ptrN gwe k from by have:=DkM.ptr_N (d:=e) hiw gwe;simpa using this)
      clear rr hde hme hge
      cases hw:e.writer (k:Int) with
      | none=>
       rw [← HPN.out,DkM.ptr_none hw] at hc
       have HFIN:=Lib.hid (show TPost w base F g (hTo (sTo d 4) (k+1)) _ from by rw [HT.out,← HA.out,hAll_none hw];exact HD.out)
       clear HPN HDE hw
       go_wp2
       exact ⟨⟨k+1,by omega,by go_num,HFIN⟩,by simp [intOf];omega⟩
      | some m=>
       rw [← HPN.out,DkM.ptr_some hw] at hc
       have HSTP:=Lib.hid (hAll_step hw)
       have HDO:=Lib.hid (show Calls Tryz.prog 61 #[.pointer (some ⟨g,0,none⟩),.agg #[.int .i64 5,.int .i64 (k:Int),.int .i64 0,.int .i64 0,.string ⟨#[]⟩]] _ (TDoPost _ base Fe g e ⟨5,k,0,0,⟨#[]⟩⟩) from
        TDo_c HDE.out HO.out HSm.out ⟨5,k,0,0,⟨#[]⟩⟩ ⟨by show i64ok 0;unfold i64ok;omega,by show (0:Nat)≤maxLen;exact Nat.zero_le _⟩)
       clear HPN
       have HW:=Lib.hid hw
       clear hw
       go_wp2_with fail
       refine HDO.out.mono ?_
       rintro e3 w3 ⟨rfl,hp⟩
       rw [HSTP.out] at hp ⊢
       have HD3:=Lib.hid (show TPost w base F g (e.hear m).1 w3 from by
        obtain ⟨F2,gw2,k1,k2,k3⟩:=hp
        exact ⟨F2,gw2,k1,HME.out.transG HGE.out k2,HGE.out.trans HME.out.size k3⟩)
       have HO3:=Lib.hid (show (e.hear m).1.Ok from (HO.out.hear HW.out).1)
       have HS3:=Lib.hid (show (e.hear m).1.Sm 1000 from HSm.out.hear (HSm.out.writer HW.out))
       clear hp HDO HSTP
       by_cases h0:(e.hear m).2=0
       ·have HMU:=Lib.hid (HO.out.hear_mu HW.out h0)
        have HAS:=Lib.hid (HO.out.hearAll_step HW.out h0)
        rw [h0]
        clear h0 HD HDE HME HGE
        go_wp2
        go_roundg (mu2 (e.hear m).1 (k:Int))
        case measure=>have:=HMU.out;have:=HM.out;omega
        case rel=>exact ⟨_,HO3,HS3,Lib.hid (by rw [← HAS.out];exact HA.out),Lib.hid rfl,HD3⟩
       ·have HFIN:=Lib.hid (show TPost w base F g (hTo (sTo d 4) (k+1)) w3 from by rw [HT.out,← HA.out,hearAll_stop HW.out h0];exact HD3.out)
        have h0B:((e.hear m).2==0)=false:=by simpa using h0
        have h0D:decide ((e.hear m).2=0)=false:=decide_eq_false h0
        clear h0 HD HDE HME HGE HD3 HO3 HS3
        generalize (e.hear m).2=code at *
        go_wp2
        exact ⟨⟨k+1,by omega,by go_num,HFIN⟩,by simp [intOf];omega⟩
    ·have hk4:k=4:=by omega
     have HSF:=Lib.hid (show TPost w base F g (hTo (sTo d 4) 4) _ from by have:=HS.out;rw [hk4] at this;exact this)
     have hltB:decide ((k:Int) < 4)=false:=decide_eq_false (by omega)
     clear hk4 HS HOKS
     go_wp2
     refine bodyPost_end (results_none rfl _ _ _) rfl ?_
     exact ⟨⟨_,rfl⟩,by rw [settle_to];exact HSF.out⟩
end
theorem NewTown_c (w:World):Calls Tryz.prog 12 #[] w fun e w'=>∃ F g gw,e=.returned (.pointer (some ⟨g,0,none⟩))∧TnAt w' w.heap.size F g gw DkM.new∧Below w.heap.size w w':=by
 have hb1:=(Below.refl w.heap.size w).alloc (Nat.le_refl _) (.cells #[.slice none 0 0,.bool false,.bool false,.bool false,.bool false,.int .i64 0,.int .i64 0,.int .i64 0,.int .i64 0,.int .i64 0,.int .i64 0,.int .i64 0,.int .i64 0] 64)
 have h1:=BookAt.new w w.heap.size (Nat.le_refl _)
 have HD:=Lib.hid (TnAt.newG (fun _=>0) h1 #[.pointer (some ⟨w.heap.size,0,none⟩),.pointer none,.pointer none,.pointer none,.pointer none] 68 rfl (fun j hj=>by
  obtain rfl | rfl | rfl | rfl:j=0∨j=1∨j=2∨j=3:=by omega
  all_goals rfl))
 have HB:=Lib.hid (hb1.trans (((Below.refl _ _).alloc (Nat.le_refl _) (.cells #[.pointer (some ⟨w.heap.size,0,none⟩),.pointer none,.pointer none,.pointer none,.pointer none] 68)).mono hb1.size))
 simp only [World.size_alloc] at HD
 clear h1 hb1
 go_enter Tryz.func12,Tryz.ntmps12
 go_wp2
 go_ret
 exact ⟨_,_,_,rfl,HD.out,HB.out⟩
def DT (w:World) (base g gt:Nat) (d e:DkM) (w' : World):Prop:=
 (∃ F1 gw F2 gs,DkAt w' base F1 g gw d∧TnAt w' base F2 gt gs e∧∀ k,F1 k→¬ F2 k)∧Below base w w'
section
variable {w:World} {base g gt:Nat} {d e:DkM}
theorem DT.later {w1 w2:World} (h:DT w base g gt d e w1) (hl:Below w1.heap.size w1 w2):DT w base g gt d e w2:=by
 obtain ⟨⟨F1,gw,F2,gs,h1,h2,h3⟩,h4⟩:=h
 exact ⟨⟨F1,gw,F2,gs,h1.later hl,h2.later hl,h3⟩,h4.trans (hl.mono h1.base_le)⟩
theorem DT.from {w1 w2:World} {d2 e2:DkM} (h:DT w base g gt d e w1) (k:DT w1 base g gt d2 e2 w2):DT w base g gt d2 e2 w2:=⟨k.1,h.2.trans k.2⟩
end
end Go.Proofs.YtneoeokfffnonaaGreatDoor
