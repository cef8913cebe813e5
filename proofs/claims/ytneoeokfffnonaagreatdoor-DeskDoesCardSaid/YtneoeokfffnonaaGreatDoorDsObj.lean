/- A desk in memory: its builder and its desks; what it says. -/
import Derived.Test.YtneoeokfffnonaaGreatDoorDsB
import Derived.Test.YtneoeokfffnonaaGreatDoorShelf
import Derived.Test.YtneoeokfffnonaaGreatDoorDkObj
import Derived.Test.YtneoeokfffnonaaGreatDoorPlainT
set_option linter.unusedVariables false
set_option linter.unusedSimpArgs false
namespace Go.Proofs.YtneoeokfffnonaaGreatDoor
open Go.RowKit Go
theorem growsT {F F1 F2:Nat→Prop} {w w1:World} (h:Grows F w F1) (hs:w.heap.size≤w1.heap.size) (k:Grows F1 w1 F2):Grows F w F2:=fun i hi=>by
 rcases k i hi with h1 | h1
 ·exact h i h1
 ·exact .inr (Nat.le_trans hs h1)
theorem movesT {F F1:Nat→Prop} {w w1 w2:World} (h:Moves F w w1) (hg:Grows F w F1) (k:Moves F1 w1 w2):Moves F w w2:=h.trans k fun i hi h1=>by
 rcases hg i h1 with h2 | h2
 ·exact h2
 ·omega
structure DsAt (w:World) (base:Nat) (F:Nat→Prop) (g:Nat) (d:DkM) (t:Str):Prop where
 fg:F g
 foot:∀ k,F k→base≤k∧k < w.heap.size
 rows:∃ p v gd FD gw,BdAt w base g t p v (.pointer (some ⟨gd,0,none⟩))∧DkAt w base FD gd gw d∧(∀ k,FD k→F k∧k≠g)∧∀ k,v.ownBlock=some k→F k∧¬ FD k
def DsP (w:World) (base:Nat) (F:Nat→Prop) (g:Nat) (d:DkM) (t:Str) (w' : World):Prop:=∃ F',DsAt w' base F' g d t∧Moves F w w'∧Grows F w F'
section
variable {w w' : World} {base:Nat} {F:Nat→Prop} {g:Nat} {d:DkM} {t:Str}
theorem DsAt.base_le (h:DsAt w base F g d t):base≤w.heap.size:=by have:=h.foot g h.fg;omega
theorem DsAt.lt (h:DsAt w base F g d t):g < w.heap.size:=(h.foot g h.fg).2
theorem DsAt.moves (h:DsAt w base F g d t) {G:Nat→Prop} (hm:Moves G w w') (hd:∀ k,F k→¬ G k):DsAt w' base F g d t:=by
 obtain ⟨p,v,gd,FD,gw,h1,h2,h3,h4⟩:=h.rows
 exact ⟨h.fg,fun k hk=>⟨(h.foot k hk).1,Nat.lt_of_lt_of_le (h.foot k hk).2 hm.size⟩,p,v,gd,FD,gw,h1.moves hm (hd g h.fg) (fun k hk=>hd k (h4 k hk).1),h2.moves hm (fun k hk=>hd k (h3 k hk).1),h3,h4⟩
theorem DsAt.later (h:DsAt w base F g d t) (hl:Below w.heap.size w w'):DsAt w' base F g d t:=
 h.moves (Moves.of_below (F:=fun k=>w.heap.size≤k) hl) fun k hk=>by have:=(h.foot k hk).2;omega
theorem DsAt.below (h:DsAt w base F g d t) (hm:Moves F w w'):Below base w w':=hm.below (fun k hk=>(h.foot k hk).1) h.base_le
theorem DsP.start (h:DsAt w base F g d t) (hb:Below w.heap.size w w'):DsP w base F g d t w':=⟨F,h.later hb,Moves.of_below hb,fun _ hk=>.inl hk⟩
theorem DsP.later {w1 w2:World} (h:DsP w base F g d t w1) (hb:Below w1.heap.size w1 w2):DsP w base F g d t w2:=by
 obtain ⟨F',h1,h2,h3⟩:=h
 exact ⟨F',h1.later hb,h2.trans (Moves.of_below (F:=F) hb) (fun _ _ k=>k),h3⟩
theorem DsP.trans {d1 d2:DkM} {t1 t2:Str} {w1 w2:World} (h:DsP w base F g d1 t1 w1) (k:∀ F1,DsAt w1 base F1 g d1 t1→DsP w1 base F1 g d2 t2 w2):DsP w base F g d2 t2 w2:=by
 obtain ⟨F1,h1,h2,h3⟩:=h
 obtain ⟨F2,k1,k2,k3⟩:=k F1 h1
 exact ⟨F2,k1,movesT h2 h3 k2,growsT h3 h2.size k3⟩
theorem DsP.after {w0 w1:World} (hb:Below w.heap.size w w0) (h:DsP w0 base F g d t w1):DsP w base F g d t w1:=by
 obtain ⟨F',h1,h2,h3⟩:=h
 refine ⟨F',h1,(Moves.of_below (F:=F) hb).trans h2 (fun _ _ k=>k),fun k hk=>?_⟩
 rcases h3 k hk with h | h
 ·exact .inl h
 ·exact .inr (Nat.le_trans hb.size h)
theorem DsP.congr {d1:DkM} {t1:Str} {w1:World} (h:DsP w base F g d t w1) (hd:d=d1) (ht:t=t1):DsP w base F g d1 t1 w1:=hd ▸ ht ▸ h
theorem DsAt.deskZ (h:DsAt w base F g d t):∃ gd FD gw,w.cell? ⟨g,2,none⟩=some (.pointer (some ⟨gd,0,none⟩))∧DkAt w base FD gd gw d∧
 ∀ (w' : World) (F' : Nat→Prop) (gw' : Nat→Nat) (d' : DkM),DkAt w' base F' gd gw' d'→Moves FD w w'→Grows FD w F'→DsP w base F g d' t w':=by
 obtain ⟨p,v,gd,FD,gw,h1,h2,h3,h4⟩:=h.rows
 refine ⟨gd,FD,gw,h1.c2,h2,fun w' F' gw' d' k1 k2 k3=>⟨fun k=>F k∨F' k,⟨.inl h.fg,fun k hk=>?_,p,v,gd,F',gw',h1.moves k2 (fun e=>(h3 g e).2 rfl) (fun k hk=>(h4 k hk).2),k1,fun k hk=>⟨.inr hk,?_⟩,fun k hk=>⟨.inl (h4 k hk).1,fun e=>?_⟩⟩,movesMono k2 (fun k hk=>(h3 k hk).1),fun k hk=>?_⟩⟩
 ·rcases hk with hk | hk
  ·exact ⟨(h.foot k hk).1,Nat.lt_of_lt_of_le (h.foot k hk).2 k2.size⟩
  ·exact k1.foot k hk
 ·rcases k3 k hk with e | e
  ·exact (h3 k e).2
  ·have:=h.lt;omega
 ·rcases k3 k e with e2 | e2
  ·exact (h4 k hk).2 e2
  ·have:=(h1.ownlt hk).2;omega
 ·rcases hk with hk | hk
  ·exact .inl hk
  ·rcases k3 k hk with e | e
   ·exact .inl (h3 k e).1
   ·exact .inr e
theorem DsWrite_c (h:DsAt w base F g d t) (s:ByteArray) (hl:t.length+s.size≤140737488355328) :
 Calls Tryz.prog 59 #[.pointer (some ⟨g,0,none⟩),.string s] w fun e w'=>(∃ u,e=.returned u)∧DsP w base F g d (t++s.data.toList) w':=by
 obtain ⟨p,v,gd,FD,gw,h1,h2,h3,h4⟩:=h.rows
 refine (WriteString_c h1 s hl h.base_le).mono ?_
 rintro e w' ⟨hu,v',k1,k2,k3⟩
 have hnd:∀ k,FD k→¬ (k=g∨v.ownBlock=some k):=fun k hk e=>by
  rcases e with rfl | e
  ·exact (h3 _ hk).2 rfl
  ·exact (h4 k e).2 hk
 refine ⟨hu,fun k=>F k∨v'.ownBlock=some k,⟨.inl h.fg,fun k hk=>?_,_,v',gd,FD,gw,k1,h2.moves k2 hnd,fun k hk=>⟨.inl (h3 k hk).1,(h3 k hk).2⟩,fun k hk=>⟨.inr hk,fun e=>?_⟩⟩,movesMono k2 (fun k hk=>by
  rcases hk with rfl | hk
  ·exact h.fg
  ·exact (h4 k hk).1),fun k hk=>?_⟩
 ·rcases hk with hk | hk
  ·exact ⟨(h.foot k hk).1,Nat.lt_of_lt_of_le (h.foot k hk).2 k2.size⟩
  ·exact k1.ownlt hk
 ·rcases k3 with e2 | e2
  ·rw [e2] at hk;exact (h4 k hk).2 e
  ·have:=e2 k hk;have:=(h.foot k (h3 k e).1).2;omega
 ·rcases hk with hk | hk
  ·exact .inl hk
  ·rcases k3 with e2 | e2
   ·rw [e2] at hk;exact .inl (h4 k hk).1
   ·exact .inr (e2 k hk)
structure SlS (w:World) (b o n cap:Nat) (xs:List ByteArray):Prop where
 lt:b < w.heap.size
 len:xs.length=n
 cap:n≤cap
 c:∀ (j:Nat) x,xs[j]? = some x→w.cell? ⟨b,o+j,none⟩=some (.string x)
theorem SlS.later {b o n cap:Nat} {xs:List ByteArray} (h:SlS w b o n cap xs) (hl:Below w.heap.size w w'):SlS w' b o n cap xs:=
 ⟨Nat.lt_of_lt_of_le h.lt hl.size,h.len,h.cap,fun j x hx=>(hl.cell (p:=⟨b,o+j,none⟩) h.lt).trans (h.c j x hx)⟩
theorem SlS.new (w:World) (xs:List ByteArray) (vs:Array Value) (ty:TypeId) (hv:vs=(xs.map Value.string).toArray):SlS (w.alloc (.cells vs ty)) w.heap.size 0 xs.length xs.length xs:=
 ⟨by simp,rfl,Nat.le_refl _,fun j x hx=>by rw [World.cell?_alloc_new,hv];simp [hx]⟩
def saidL (xs:List ByteArray):Str:=Lib.join (xs.map (·.data.toList)) [32]
theorem join_s {b o n cap:Nat} {xs:List ByteArray} (hs:SlS w b o n cap xs) (L:Str) (hL:saidL xs=L) (hl:L.length≤100000000) (hn:n≤1000) :
 Calls Tryz.prog 60 #[.slice (some ⟨b,o,none⟩) n cap,.string ⟨#[32]⟩] w fun e w'=>e=.returned (.string ⟨L.toArray⟩)∧Below w.heap.size w w':=by
 have e:Lib.join (xs.map (·.data.toList)) (⟨#[32]⟩:ByteArray).data.toList=L:=hL
 have h1:=hs.len
 have h2:=hs.cap
 have j:=Tryz.strings_Join b o cap xs ⟨#[32]⟩ w hs.c hs.lt (by omega) (by omega) (by rw [e];omega)
 rw [e,hs.len] at j
 exact j
set_option maxRecDepth 100000 in
set_option maxHeartbeats 1000000 in
theorem say_c (h:DsAt w base F g d t) {b o n cap:Nat} {xs:List ByteArray} (hs:SlS w b o n cap xs) (L:Str) (hL:saidL xs=L) (hl:t.length+L.length≤100000000) (hn:n≤1000) :
 Calls Tryz.prog 28 #[.pointer (some ⟨g,0,none⟩),.slice (some ⟨b,o,none⟩) n cap] w fun e w'=>(∃ u,e=.returned u)∧DsP w base F g d (t++(L++[10])) w':=by
 have HD:=Lib.hid h
 have HJ:=Lib.hid (fun W (hw:Later w W)=>join_s (hs.later hw) L hL (by omega) hn)
 have HLN:=Lib.hid hl
 have hz:t.length+(⟨(L++[10]).toArray⟩:ByteArray).size≤140737488355328:=by
  have e:(⟨(L++[10]).toArray⟩:ByteArray).size=L.length+1:=by show (L++[10]).toArray.size=_;simp
  rw [e];omega
 have HW:=Lib.hid (fun (W:World) (hw:Later w W)=>DsWrite_c (h.later hw) ⟨(L++[10]).toArray⟩ hz)
 clear h hs hL hl hn hz
 go_enter Tryz.func28,Tryz.ntmps28
 go_upto_region 0 with fail
 have hL:∀ q:Lt w,Later w q.v:=fun q=>q.h
 refine wp_region_x [] [6] [0,1,2,3,4,5,6] (by kernel_rfl) (by kernel_rfl) ?_
 iterate 4 (refine wpX_step rfl (fun K hK=>?_);go_simp;refine hK _ _ ?_;clear hK K)
 refine wpX_step rfl (fun K hK=>?_)
 go_simp
 refine ⟨_,fun p=>quietM p (HJ.out p.v (hL p)),hK _ _ ?_⟩
 clear hK K
 refine wpX_step rfl (fun K hK=>?_)
 go_simp
 refine ⟨.string ⟨(L++[10]).toArray⟩,fun p=>?_,hK _ _ ?_⟩
 ·rw [if_neg (by have:=HLN.out;omega)];exact ⟨rfl,congrArg Value.string (ba_ext (by simp))⟩
 clear hK K
 refine wpX_step rfl (fun K hK=>?_)
 go_simp
 intro p
 refine (HW.out p.v (hL p)).mono ?_
 intro e w1 h
 obtain ⟨⟨u,hu⟩,h1⟩:=h
 subst hu
 refine ⟨_,rfl,hK _ _ ?_⟩
 clear hK K
 have H1:=Lib.hid (show DsP w base F g d (t++(L++[10])) w1 from DsP.after (hL p) (h1.congr rfl (by simp)))
 clear h1 p hL
 refine wpX_nil ?_
 intro w2 hL2
 have H2:=Lib.hid (H1.out.later hL2)
 clear H1 hL2
 go_wp2
 refine bodyPost_end (results_none rfl _ _ _) rfl ?_
 exact ⟨⟨_,rfl⟩,H2.out⟩
end
end Go.Proofs.YtneoeokfffnonaaGreatDoor
