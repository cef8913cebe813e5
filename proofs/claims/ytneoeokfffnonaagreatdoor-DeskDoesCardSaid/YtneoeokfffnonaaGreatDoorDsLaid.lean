/- From what a row lists to what the library's texts ask; a world that meets it; the frame for a law that has both. -/
import Derived.Test.YtneoeokfffnonaaGreatDoorOpen
import Derived.Test.YtneoeokfffnonaaGreatDoorDeedW
import Derived.Test.YtneoeokfffnonaaGreatDoorDsDel
import Derived.Test.YtneoeokfffnonaaGreatDoorTie
import Derived.HandedShaped
import Derived.Deep.DeepLaidRun
import Derived.Stop.LaidErr
set_option linter.unusedVariables false
set_option linter.unusedSimpArgs false
namespace Go.Proofs.YtneoeokfffnonaaGreatDoor
open Go.ChangeShapes Go.WideShapes Go.ChangeAt Go.RowKit
set_option maxRecDepth 100000
theorem gES:Tryz.prog.globalNamed "strconv.ErrSyntax" = some 1:=by kernel_rfl
theorem gER:Tryz.prog.globalNamed "strconv.ErrRange" = some 2:=by kernel_rfl
theorem gPT:Tryz.prog.globalNamed "internal/strconv.uint64pow10" = some 5:=by kernel_rfl
theorem gEST:(Tryz.prog.globals[1]?).map (·.type)=some 107:=by kernel_rfl
theorem gERT:(Tryz.prog.globals[2]?).map (·.type)=some 107:=by kernel_rfl
theorem gPTT:(Tryz.prog.globals[5]?).map (·.type)=some 223:=by kernel_rfl
theorem cellsES:Tryz.prog.cellsOf 214=1:=by kernel_rfl
theorem cellsU64:Tryz.prog.cellsOf 186=1:=by kernel_rfl
theorem cells20:Tryz.prog.cellsOf 223=20:=by kernel_rfl
theorem starES : "*"++ "errors.errorString" = "*errors.errorString":=by decide
theorem rowES (u:TypeId) (h:Tryz.prog.typeName? 3 u=some "*errors.errorString"):u=212:=
 typeName_ptr_named (nm:= "errors.errorString") (by rw [starES];kernel_rfl) (by kernel_rfl) (by decide) u (by rw [starES];exact h)
theorem pow_eq:(Rows.laid_internal_strconv_uint64pow10:DataW Unit)=Lib.tabData .u64 Lib.pow10Tab:=by kernel_rfl
abbrev laidL:List (String × DataW Unit):=Rows.deskDoesRow.laid
theorem libK_of_laid {W:World} (hsh:W.ShapedOpen Tryz.prog) (h:laidMetH Tryz.prog laidL W):LibK W:=by
 rw [MakeChecks.laidMetH_plain _ _ _ (by kernel_rfl)] at h
 have h3:=h.tail.tail
 have h5:=h3.tail.tail
 rw [pow_eq] at h3
 obtain ⟨a1,s1,hv1,-,-,-⟩:=laid_sentinel h5 gER gERT Tryz.underlying107 rowES Tryz.underlying212 Tryz.underlying214 rfl rfl Tryz.underlying9 cellsES cells_string
 obtain ⟨a0,s0,hv0,-,-,-⟩:=laid_sentinel h5.tail gES gEST Tryz.underlying107 rowES Tryz.underlying212 Tryz.underlying214 rfl rfl Tryz.underlying9 cellsES cells_string
 have c0:W.cell? ⟨1,0,none⟩=some (.iface 212 (.pointer (some a0))):=by
  have h0:=World.var?_cell gES hv0 0;simpa using h0
 have c1:W.cell? ⟨2,0,none⟩=some (.iface 212 (.pointer (some a1))):=by
  have h0:=World.var?_cell gER hv1 0;simpa using h0
 exact ⟨Lib.tabIs_of_head gPT gPTT Tryz.underlying223 Tryz.underlying186 cellsU64 cells20 h3,⟨_,_,c0⟩,⟨_,_,c1⟩,
  cell_of_shapedOpen_int (P:=Tryz.prog) (g:=0) (t:=3) (zero:=#[.int .i64 0]) hsh (of_decide_eq_true (by kernel_rfl)) (by kernel_rfl) rfl (by kernel_rfl) (by kernel_rfl) Tryz.underlying3⟩
def cell0:DataW Unit→List Value
 | .lit (.int k n)=>[.int k n]
 | _=>[]
def cell1:DataW Unit→List Value
 | .lit (.int k n)=>[.int k n]
 | .agg l=>l.flatMap cell0
 | _=>[]
def cell2:DataW Unit→Array Value
 | .agg l=>(l.flatMap cell1).toArray
 | _=>#[]
abbrev synS:ByteArray:={ data:=#[105,110,118,97,108,105,100,32,115,121,110,116,97,120] }
abbrev rngS:ByteArray:={ data:=#[118,97,108,117,101,32,111,117,116,32,111,102,32,114,97,110,103,101] }
noncomputable def low:Nat:=(World.holding Tryz.prog default ⟨#[],#[],[]⟩).heap.size
noncomputable def laidWorld (os:Os):World:=
 let w0:=World.holding Tryz.prog os ⟨#[.cells #[.string synS] 214,.cells #[.string rngS] 214],#[],[]⟩
 let put (h:Array Obj) (g:Nat) (cs:Array Value):Array Obj:=h.modify g fun
  | .cells _ t frozen=>.cells cs t frozen
  | o=>o
 let h1:=put w0.heap 1 #[.iface 212 (.pointer (some ⟨low,0,none⟩))]
 let h2:=put h1 2 #[.iface 212 (.pointer (some ⟨low+1,0,none⟩))]
 let h3:=put h2 5 (cell2 Rows.laid_internal_strconv_uint64pow10)
 let h4:=put h3 3 (cell2 Rows.laid_unicode_utf8_first)
 let h5:=put h4 4 (cell2 Rows.laid_unicode_utf8_acceptRanges)
 let h6:=put h5 6 (cell2 Rows.laid_math_bits_deBruijn32tab)
 let h7:=put h6 7 (cell2 Rows.laid_math_bits_deBruijn64tab)
 { w0 with heap:=h7 }
theorem laid_met (os:Os) (args:Array Value):laidMetH Tryz.prog laidL ((laidWorld os).forCall (fun _ _=>0) ⟨#[],args,[]⟩).memory:=by
 rw [MakeChecks.laidMetH_plain _ _ _ (by kernel_rfl)]
 exact laidMet_of_run3 8 (by kernel_rfl) (by kernel_rfl) (by kernel_rfl)
theorem returns_and_shaped {H:Type} {enc:TypeId × Value→H} {a:Assume} {C:Checked} {os:Os} {f:FuncId} {fn:Func} {s:ChangeSpec} {conds:List PathCond} {apart fresh handsOn again:Bool} {X:World→Array Value→Prop}
 (hX:∀ (w w' : World) (args:Array Value),w.heap=w'.heap→X w args→X w' args)
 (own:ownKnob C.prog.godebug=none) (started:os.Started) (noInit:C.prog.inits.idxOf? f=none) (hfn:C.prog.funcs[f]? = some fn)
 (witness:∃ (w:World) (tape:Tape) (i:Input),w.os=os∧(w.forCall tape i).Shaped C.prog∧i.vars=[]∧Input.okWide C.prog (w.forCall tape i) .any w.heap.size f i∧
   ((s.pre enc C.prog fn conds apart (w.forCall tape i).memory i.args∧X (w.forCall tape i).memory i.args)∧sizedMet enc C.prog fn (OpenSpec.ofChange s) apart (w.forCall tape i).memory i.args)∧a.holds C.prog (lone (Frame.enter C.prog f i.args .normal) [] (w.forCall tape i)))
 (contract:∀ (W:World) (base:Nat) (args:Array Value) (ds gs:List (DataW H)) (before:List MemPlace),
   (∀ (j:Nat) t v,fn.params[j]? = some t→args[j]? = some v→Value.okWide C.prog W .any base t v)→
   DataW.Whole enc C.prog fn.params.toList s.vars apart W args.toList ds gs before→
   X W args→W.ShapedOpen C.prog→
   (DataW.weightsEach C.prog (fn.params.toList++s.plain.varTypes C.prog) (ds++gs)).all (·≤reachBytes)=true→
   Calls C.prog f args W fun e W'=>∃ v,e=.returned v∧s.post enc C.prog fn apart fresh handsOn again W args v W') :
 ReturnsInHanded a C os f .any (fun w args=>(s.pre enc C.prog fn conds apart w args∧X w args)∧sizedMet enc C.prog fn (OpenSpec.ofChange s) apart w args) (s.post enc C.prog fn apart fresh handsOn again):=by
 refine returnsInHanded_of_calls own started noInit witness ?_
 intro w tape i _ hsh _ hok hpre _
 obtain ⟨_,_,_,fn',hfn',_,_,_,_,hval⟩:=hok
 have e:fn'=fn:=Option.some.inj (hfn'.symm.trans hfn)
 subst e
 obtain ⟨⟨⟨ds,gs,before,hw,_⟩,hx⟩,hz⟩:=hpre
 have hw':=DataW.Whole.of_heap (w':=w.forCall tape i) (by rfl) hw
 refine (contract (w.forCall tape i) w.heap.size i.args ds gs before hval hw' (hX _ _ _ (by rfl) hx) hsh (hz.weights hw)).mono fun e W' ⟨v,he,hp⟩=>?_
 subst he
 exact ChangeSpec.post_blind hp
theorem mem_weightsAll {H:Type} {P:Program} {e:TypeId} {d:DataW H} {n:Nat}:∀ {l:List (DataW H)},d∈l→n∈d.weights P e→n∈DataW.weightsAll P e l:=by
 intro l
 induction l with
 | nil=>intro h;cases h
 | cons x l ih=>
  intro h hn
  unfold DataW.weightsAll
  rcases List.mem_cons.1 h with rfl | h
  ·exact List.mem_append_left _ hn
  ·exact List.mem_append_right _ (ih h hn)
theorem open_Strs {H:Type} {enc:TypeId × Value→H} {w:World} {base:Nat} {spare:Nat→Bool} {held:Bool} {v:Value} {d:DataW H} {p:List MemPlace} (hv:Value.okWide Tryz.prog w .any 0 22 v) (h:DataW.Trod enc Tryz.prog w base spare held 22 v d p)
 (hw:∀ n∈d.weights Tryz.prog 22,n≤reachBytes) :
 ∃ a cap l,v=.slice a l.length cap∧SlO w a cap l∧((∀ s∈l,s.size≤140737488355328)∧(a=none→cap=0)):=by
 obtain ⟨a0,len,cap,rfl⟩:=okWide_slice Tryz.underlying22 hv
 obtain ⟨fuel,hf⟩:=h
 rcases Deep.open_slice1 Tryz.underlying22 cells_string hf with ⟨hcs,_⟩ | ⟨ad,len',cap',m,n,V,D,Pl,hcs,_,hle,hm,hmm,hx,hi⟩
 ·simp [Value.cells] at hcs
  obtain ⟨rfl,rfl,rfl⟩:=hcs
  exact ⟨none,0,[],rfl,SlO.nil w,fun c hc=>by simp at hc,fun _=>rfl⟩
 ·simp [Value.cells] at hcs
  obtain ⟨rfl,rfl,rfl⟩:=hcs
  have hd:d=_:=congrArg Prod.fst hx
  simp only at hd
  subst hd
  have hlm:len≤m:=by rw [hmm];split <;> omega
  obtain ⟨l,hl,hp⟩:=exists_list (p:=fun i (c:ByteArray)=>V i=.string c∧c.size≤140737488355328) len fun i hin=>by
   obtain ⟨hc,ht⟩:=hi i (by omega)
   obtain ⟨s,e,ex,hs⟩:=DataW.trod_string Tryz.underlying9 ht
   refine ⟨s,(List.cons.inj e).1,?_⟩
   have h1:D i=.lit (.string s.data.toList):=by have:=congrArg Prod.fst ex;exact this
   have h2:=hw s.data.toList.length (by
    unfold DataW.weights
    rw [Tryz.underlying22]
    refine List.mem_cons_of_mem _ (List.mem_append_left _ (mem_weightsAll (d:=D i) (List.mem_map.2 ⟨i,List.mem_range.2 hin,rfl⟩) ?_))
    rw [h1];unfold DataW.weights;exact List.mem_singleton.2 rfl)
   have h3:=reachBytes_lt
   have h4:s.data.toList.length=s.size:=by rw [Array.length_toList];rfl
   omega
  subst hl
  refine ⟨some ad,cap,l,rfl,⟨hle,hm,fun i hin=>?_⟩,fun c hc=>?_,fun e=>by cases e⟩
  ·obtain ⟨hV,_⟩:=hp i hin
   obtain ⟨hV0,_⟩:=hp 0 (by omega)
   have hc0:=(hi 0 (by omega)).1
   rw [hV0,Addr.add_zero'] at hc0
   have hc:=(hi i (by omega)).1
   rw [hV] at hc
   obtain ⟨b,o,s⟩:=ad
   obtain rfl:s=none:=World.cell?_spot (w:=w) (a:=⟨b,o,s⟩) hc0
   exact ⟨b,o,rfl,by rw [Addr.add_lit] at hc;exact hc⟩
  ·obtain ⟨i,hin,rfl⟩:=List.getElem_of_mem hc
   exact (hp i hin).2
end Go.Proofs.YtneoeokfffnonaaGreatDoor
