/- The walks of numbers and words in lines. -/
import Derived.Test.YtneoeokfffnonaaGreatDoorFoldW
import Derived.Test.YtneoeokfffnonaaGreatDoorPlainT
import Derived.Test.YtneoeokfffnonaaGreatDoorShelf
import Derived.Lib.AppendIntMem
import Derived.Shelf.Unicode.PredsPay
import Derived.Test.YtneoeokfffnonaaGreatDoorMixX
set_option linter.unusedVariables false
set_option linter.unusedSimpArgs false
namespace Go.Proofs.YtneoeokfffnonaaGreatDoor
open Go.RowKit Go
structure LibK (w:World):Prop where
 tab:Lib.TabIs Tryz.prog w "internal/strconv.uint64pow10" .u64 Lib.pow10Tab
 syn:∃ tp p,w.cell? ⟨1,0,none⟩=some (.iface tp p)
 rng:∃ tp p,w.cell? ⟨2,0,none⟩=some (.iface tp p)
 mx:∃ m,w.cell? ⟨0,0,none⟩=some (.int .i64 m)
theorem LibK.later {w w' : World} (h:LibK w) (hl:Below w.heap.size w w'):LibK w':=by
 obtain ⟨h1,⟨t2,p2,h2⟩,⟨t3,p3,h3⟩,⟨m,h4⟩⟩:=h
 exact ⟨TabIs_below (P:=Tryz.prog) (g:=5) (by kernel_rfl) h1 hl,⟨t2,p2,(hl.cell (p:=⟨1,0,none⟩) (World.block_lt_of_cell? _ _ h2)).trans h2⟩,
  ⟨t3,p3,(hl.cell (p:=⟨2,0,none⟩) (World.block_lt_of_cell? _ _ h3)).trans h3⟩,⟨m,(hl.cell (p:=⟨0,0,none⟩) (World.block_lt_of_cell? _ _ h4)).trans h4⟩⟩
theorem dnum_c (n:Int) (hn:i64ok n) (w:World) (hk:LibK w):Calls Tryz.prog 137 #[.int .i64 n] w fun e w'=>e=.returned (.string ⟨(Lib.itoa n).toArray⟩)∧Below w.heap.size w w':=by
 have HT:=Lib.hid hk.tab
 have HN:=Lib.hid hn
 clear hn hk
 go_enter Tryz.func137,Tryz.ntmps137
 go_wp2_with fail
 refine (Tryz.strconv_Itoa n (by have:=HN.out;unfold i64ok at this;omega) (by have:=HN.out;unfold i64ok at this;omega) w HT.out).mono ?_
 rintro e w' ⟨rfl,k,os,rfl⟩
 have hb:=Lib.below_grow w.heap.size w (Nat.le_refl _) k os
 generalize Sort.grow (w.drewN k) os=w1 at *
 go_wp2
 go_ret
 exact ⟨rfl,hb⟩
theorem rnum_c (n:Int) (hn:i64ok n) (w:World) (hk:LibK w):Calls Tryz.prog 41 #[.int .i64 n] w fun e w'=>e=.returned (.string ⟨(Lib.itoa n).toArray⟩)∧Below w.heap.size w w':=by
 have HT:=Lib.hid hk.tab
 have HN:=Lib.hid hn
 clear hn hk
 go_enter Tryz.func41,Tryz.ntmps41
 go_wp2_with fail
 refine (Tryz.strconv_Itoa n (by have:=HN.out;unfold i64ok at this;omega) (by have:=HN.out;unfold i64ok at this;omega) w HT.out).mono ?_
 rintro e w' ⟨rfl,k,os,rfl⟩
 have hb:=Lib.below_grow w.heap.size w (Nat.le_refl _) k os
 generalize Sort.grow (w.drewN k) os=w1 at *
 go_wp2
 go_ret
 exact ⟨rfl,hb⟩
theorem atoi_ok (s:ByteArray) (hs:s.size≤1000000) (v:Int) (h:Lib.atoiAll s.data.toList=.ok v) (w:World):Calls Tryz.prog 46 #[.string s] w fun e w'=>e=.returned (.tuple #[.int .i64 v,.nilIface])∧Below w.heap.size w w':=by
 refine (Tryz.strconv_Atoi_ok s (by omega) v h w).mono ?_
 rintro e w' ⟨rfl,rfl | ⟨t,rfl⟩⟩
 ·exact ⟨rfl,Below.refl _ _⟩
 ·exact ⟨rfl,Lib.bytesWorld_below _ _ _⟩
theorem atoi_bad (s:ByteArray) (hs:s.size≤1000000) (h:∀ v,Lib.atoiAll s.data.toList≠.ok v) (w:World) (hk:LibK w):Calls Tryz.prog 46 #[.string s] w fun e w'=>∃ v t p,e=.returned (.tuple #[.int .i64 v,.iface t p])∧Below w.heap.size w w':=by
 rcases ha:Lib.atoiAll s.data.toList with v | _ | _
 ·exact absurd ha (h v)
 ·obtain ⟨tp,p,hv⟩:=hk.syn
  refine (Tryz.strconv_Atoi_syntax s (by omega) ha _ w hv (.inr ⟨_,_,rfl⟩)).mono ?_
  rintro e w' ⟨N,rfl,_,_,hb⟩
  exact ⟨_,_,_,rfl,hb⟩
 ·obtain ⟨tp,p,hv⟩:=hk.rng
  refine (Tryz.strconv_Atoi_range s (by omega) ha _ w hv (.inr ⟨_,_,rfl⟩)).mono ?_
  rintro e w' ⟨N,rfl,_,_,hb⟩
  exact ⟨_,_,_,rfl,hb⟩
theorem str_eq {l:Str} {s:ByteArray} (h:l=s.data.toList):(⟨l.toArray⟩:ByteArray)=s:=ba_ext (by simp [h])
theorem str_ne {l:Str} {s:ByteArray} (h:l≠s.data.toList):(⟨l.toArray⟩:ByteArray)≠s:=fun e=>h (by rw [← e])
theorem numOf_cases (s:ByteArray):(∃ v,Lib.atoiAll s.data.toList=.ok v∧numOf s.data.toList=some v∧Lib.itoa v=s.data.toList∧i64ok v)∨(∃ v,Lib.atoiAll s.data.toList=.ok v∧numOf s.data.toList=none∧Lib.itoa v≠s.data.toList∧i64ok v)∨((∀ v,Lib.atoiAll s.data.toList≠.ok v)∧numOf s.data.toList=none):=by
 rcases ha:Lib.atoiAll s.data.toList with v | _ | _
 ·have hb:=Lib.atoiAll_bounds ha
  have hv:i64ok v:=by unfold i64ok;omega
  by_cases h:Lib.itoa v=s.data.toList
  ·exact .inl ⟨v,rfl,by unfold numOf;rw [ha];simp [h],h,hv⟩
  ·exact .inr (.inl ⟨v,rfl,by unfold numOf;rw [ha];simp [h],h,hv⟩)
 ·exact .inr (.inr ⟨fun v e=>(by cases e),(by unfold numOf;rw [ha])⟩)
 ·exact .inr (.inr ⟨fun v e=>(by cases e),(by unfold numOf;rw [ha])⟩)
theorem number_c (s:ByteArray) (hs:s.size≤1000000) (w:World) (hk:LibK w) :
 Calls Tryz.prog 30 #[.string s] w fun e w'=>∃ v,e=.returned (.tuple #[.int .i64 v,.bool (numOf s.data.toList).isSome])∧(∀ x,numOf s.data.toList=some x→v=x)∧Below w.heap.size w w':=by
 have HK:=Lib.hid hk
 clear hk
 rcases numOf_cases s with ⟨v,h1,h2,h3,h4⟩ | ⟨v,h1,h2,h3,h4⟩ | ⟨h1,h2⟩
 ·have H1:=Lib.hid h1;have H2:=Lib.hid h2;have H3:=Lib.hid (str_eq h3);have H4:=Lib.hid h4
  clear h1 h2 h3 h4
  go_enter Tryz.func30,Tryz.ntmps30
  go_wp2_with fail
  refine (atoi_ok s hs v H1.out w).mono ?_
  rintro e w1 ⟨rfl,hb1⟩
  have HK1:=Lib.hid (HK.out.later hb1)
  have HB1:=Lib.hid hb1
  clear hb1
  go_wp2_with fail
  refine (rnum_c v H4.out w1 HK1.out).mono ?_
  rintro e w2 ⟨rfl,hb2⟩
  have HB2:=Lib.hid (HB1.out.trans (hb2.mono HB1.out.size))
  rw [H3.out]
  clear hb2
  go_wp2
  go_ret2
  exact ⟨v,by rw [H2.out];rfl,fun x hx=>(by rw [H2.out] at hx;exact Option.some.inj hx),HB2.out⟩
 ·have H1:=Lib.hid h1;have H2:=Lib.hid h2;have H4:=Lib.hid h4
  obtain ⟨T,hT⟩:∃ T:ByteArray,T=⟨(Lib.itoa v).toArray⟩:=⟨_,rfl⟩
  have HT:=Lib.hid hT
  have hne:T≠s:=by rw [hT];exact str_ne h3
  have hne1:decide (T=s)=false:=decide_eq_false hne
  have hne3:decide (T.toList=s.toList)=false:=decide_eq_false fun e=>hne (ba_ext (by rwa [ByteArray.toList_eq,ByteArray.toList_eq] at e))
  have hne4:(T.toList==s.toList)=false:=by simpa using hne3
  clear h1 h2 h3 h4 hT hne
  go_enter Tryz.func30,Tryz.ntmps30
  go_wp2_with fail
  refine (atoi_ok s hs v H1.out w).mono ?_
  rintro e w1 ⟨rfl,hb1⟩
  have HK1:=Lib.hid (HK.out.later hb1)
  have HB1:=Lib.hid hb1
  clear hb1
  go_wp2_with fail
  refine (rnum_c v H4.out w1 HK1.out).mono ?_
  rintro e w2 ⟨rfl,hb2⟩
  have HB2:=Lib.hid (HB1.out.trans (hb2.mono HB1.out.size))
  rw [← HT.out]
  clear hb2
  go_wp2
  go_ret2
  exact ⟨v,by rw [H2.out];rfl,fun x hx=>(by rw [H2.out] at hx;cases hx),HB2.out⟩
 ·have H1:=Lib.hid h1;have H2:=Lib.hid h2
  clear h1 h2
  go_enter Tryz.func30,Tryz.ntmps30
  go_wp2_with fail
  refine (atoi_bad s hs H1.out w HK.out).mono ?_
  rintro e w1 ⟨v,t,p,rfl,hb1⟩
  have HB1:=Lib.hid hb1
  clear hb1
  go_wp2
  go_ret2
  exact ⟨v,by rw [H2.out];rfl,fun x hx=>(by rw [H2.out] at hx;cases hx),HB1.out⟩
theorem wordF_cases (s:ByteArray):(wordF s.data.toList=none∧∀ k (h:k < s.size),(s[k].toNat:Int)≠32)∨∃ a r,wordF s.data.toList=some (a,r)∧a.length < s.size∧(∀ k (h:k < s.size),k < a.length→(s[k].toNat:Int)≠32)∧(∀ (h:a.length < s.size),(s[a.length].toNat:Int)=32)∧s.extract 0 a.length=⟨a.toArray⟩∧s.extract (a.length+1) s.size=⟨r.toArray⟩:=by
 have key:∀ k (h:k < s.size),s.data.toList[k]'(by simpa using h)=s[k]:=fun k h=>rfl
 have u8:∀ c:UInt8,(c.toNat:Int)=32↔c=32:=by
  intro c
  constructor
  ·intro h
   have h2:c.toNat=32:=by omega
   exact UInt8.toNat_inj.1 h2
  ·intro h;rw [h];rfl
 cases hw:wordF s.data.toList with
 | none=>
  refine .inl ⟨rfl,fun k h e=>?_⟩
  exact wordF_none hw _ (List.getElem_mem (by simpa using h)) (by rw [key k h];exact (u8 _).1 e)
 | some p=>
  obtain ⟨a,r⟩:=p
  obtain ⟨h1,h2⟩:=wordF_some hw
  have hl:s.size=a.length+1+r.length:=by
   have:=congrArg List.length h1
   simp at this
   have e:s.data.size=s.size:=rfl
   omega
  refine .inr ⟨a,r,rfl,by omega,fun k h hk e=>?_,fun h=>?_,?_,?_⟩
  ·have e2:=key k h
   have e3:s.data.toList[k]'(by simpa using h)=a[k]:=by simp only [h1];rw [List.getElem_append_left hk]
   rw [e3] at e2
   exact h2 _ (List.getElem_mem hk) (by rw [e2];exact (u8 _).1 e)
  ·rw [u8,← key _ h]
   simp only [h1];rw [List.getElem_append_right (Nat.le_refl _)];simp
  ·apply ba_ext
   rw [Lib.extract_from_zero,h1];simp
  ·apply ba_ext
   rw [Lib.extract_to_end,h1];simp
set_option maxHeartbeats 400000 in
theorem word_c (s:ByteArray) (hs:s.size≤1000000) (w:World) :
 Calls Tryz.prog 29 #[.string s] w fun e w'=>(wordF s.data.toList=none∧e=.returned (.tuple #[.string s,.string ⟨#[]⟩,.bool false])∨∃ a r,wordF s.data.toList=some (a,r)∧e=.returned (.tuple #[.string ⟨a.toArray⟩,.string ⟨r.toArray⟩,.bool true]))∧Below w.heap.size w w':=by
 rcases wordF_cases s with ⟨h1,h2⟩ | ⟨a,r,h1,h2,h3,h4,h5,h6⟩
 ·have H1:=Lib.hid h1;have H2:=Lib.hid h2
  clear h1 h2
  go_enter Tryz.func29,Tryz.ntmps29
  go_wp2
  go_loop [5] (fun j=>∃ k:Nat,k≤s.size∧j=.int .i64 (k:Int)) (fun j=>s.size - (intOf j).toNat)
  case atStart=>exact ⟨0,Nat.zero_le _,rfl⟩
  case round=>
   obtain ⟨k,hk,rfl⟩:=hrel
   by_cases hlt:k < s.size
   ·have hne:=H2.out k hlt
    have hneB:decide ((s[k].toNat:Int)=32)=false:=decide_eq_false hne
    go_wp2
    exact ⟨⟨k+1,by omega,by go_num⟩,by first | (simp [intOf];done) | (simp [intOf];omega)⟩
   ·obtain rfl:k=s.size:=by omega
    go_wp2
    go_ret3
    exact ⟨.inl ⟨H1.out,rfl⟩,Below.refl _ _⟩
 ·have H1:=Lib.hid h1;have H3:=Lib.hid h3;have H4:=Lib.hid (h4 h2);have H5:=Lib.hid h5;have H6:=Lib.hid h6
  clear h1 h3 h4 h5 h6
  go_enter Tryz.func29,Tryz.ntmps29
  go_wp2
  go_loop [5] (fun j=>∃ k:Nat,k≤a.length∧j=.int .i64 (k:Int)) (fun j=>s.size - (intOf j).toNat)
  case atStart=>exact ⟨0,Nat.zero_le _,rfl⟩
  case round=>
   obtain ⟨k,hk,rfl⟩:=hrel
   have hks:k < s.size:=by omega
   by_cases hlt:k < a.length
   ·have hne:=H3.out k hks hlt
    have hneB:decide ((s[k].toNat:Int)=32)=false:=decide_eq_false hne
    go_wp2
    exact ⟨⟨k+1,by omega,by go_num⟩,by first | (simp [intOf];done) | (simp [intOf];omega)⟩
   ·obtain rfl:k=a.length:=by omega
    have he:=H4.out
    have heB:decide ((s[a.length].toNat:Int)=32)=true:=decide_eq_true he
    go_upto_region 5 with fail
    go_quiet (fail)
    have hL1:Below w.heap.size w (w.drewN nq):=bl_drewN (Below.refl _ _) nq
    generalize w.drewN nq=w1 at *
    go_wp2
    go_ret3
    exact ⟨.inr ⟨a,r,H1.out,by rw [← H5.out,← H6.out];rfl⟩,hL1⟩
end Go.Proofs.YtneoeokfffnonaaGreatDoor
