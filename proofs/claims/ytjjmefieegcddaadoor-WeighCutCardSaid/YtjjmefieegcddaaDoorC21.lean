/- A part of the proof: T25, T26, W56, W57, W58. -/
import Derived.Test.YtjjmefieegcddaaDoorC20
import Derived.RangeFuncRecord
import Derived.RangeFuncWrites
import Derived.OrdersHeld
import Derived.TacticsIn
import Derived.Test.YtjjmefieegcddaaDoorC14
set_option linter.unusedVariables false
set_option linter.unusedSimpArgs false
set_option maxHeartbeats 8000000
namespace Go.Tm
open Go
open Go.Conc
variable {P:Program}
def fV (P:Program) (ro:Option Nat) (tgt:List Item) (S:Act→World→Prop) (todo:List Item) (a:Act) (w:World):Prop :=
 ∀ (b:Frame) (cs:List Frame),b.kind=.normal→b.roundOf=ro→∃ a' w',S a' w'∧Steps P (lone (b.atR a todo) cs w) (lone (b.atR a' tgt) cs w')
section
variable {ro:Option Nat} {tgt k:List Item} {S:Act→World→Prop} {a:Act} {w:World}
theorem Jj (h:S a w):fV P ro tgt S tgt a w:=fun _ _ _ _=>⟨a,w,h,.refl _ _⟩
theorem mW {todo todo':List Item} {a':Act} {w':World} (hs:∀ (b:Frame) (cs:List Frame),b.kind=.normal→b.roundOf=ro→step P (lone (b.atR a todo) cs w)=.next (lone (b.atR a' todo') cs w')) (h:fV P ro tgt S todo' a' w'):fV P ro tgt S todo a w:=by
 intro b cs hb hr
 obtain ⟨a2,w2,h1,h2⟩:=h b cs hb hr
 exact ⟨a2,w2,h1,.head (hs b cs hb hr) h2⟩
theorem JJ (h:fV P ro tgt S k a w):fV P ro tgt S (.code .skip :: k) a w:=mW (fun _ _ _ _=>stepR_skip) h
theorem Vk {l:Nat} (h:fV P ro tgt S k a w):fV P ro tgt S (.code (.label l) :: k) a w:=mW (fun _ _ _ _=>stepR_label) h
theorem pV {x y:Code} (h:fV P ro tgt S (.code x :: .code y :: k) a w):fV P ro tgt S (.code (.seq x y) :: k) a w:=mW (fun _ _ _ _=>stepR_seq) h
theorem EM {id:Nat} {x:Code} (h:fV P ro tgt S (.code x :: .inBlock id :: k) a w):fV P ro tgt S (.code (.block id x) :: k) a w:=mW (fun _ _ _ _=>stepR_block) h
theorem EO {id:Nat} (h:fV P ro tgt S k a w):fV P ro tgt S (.inBlock id :: k) a w:=mW (fun _ _ _ _=>stepR_inBlock) h
theorem Xr {x:Code} (h:fV P ro tgt S (.code x :: .inLoop x :: k) a w):fV P ro tgt S (.code (.loop x) :: k) a w:=mW (fun _ _ _ _=>stepR_loop) h
theorem Tf {x:Code} (h:fV P ro tgt S (.code x :: .inLoop x :: k) a w):fV P ro tgt S (.inLoop x :: k) a w:=mW (fun _ _ _ _=>stepR_inLoop) h
theorem wM {o:Operand} {x y:Code} {t:Bool} (hc:a.eval o=.bool t) (h:fV P ro tgt S (.code (if t then x else y) :: k) a w):fV P ro tgt S (.code (.cond o x y) :: k) a w:=mW (fun _ _ _ _=>stepR_cond hc) h
theorem JQ {id:Nat} {k':List Item} (hk:exitTo id k=some k') (h:fV P ro tgt S k' a w):fV P ro tgt S (.code (.exit id) :: k) a w:=mW (fun _ _ _ _=>stepR_exit hk) h
theorem UO {ops:Array Oper} {i:Nat} {rest:List Nat} {o:Oper} {l:Nat} {f:FuncId} {tmps:Array Value} {assign body:Code} {w':World} (ho:ops[i]? = some o) (hw:Region.wanted o (yielded ops a.tmps)=true) (hd:∀ c,o.op≠.defer c) (hr:(execOp a.eval o).run P w=.ok (.round l f tmps assign body) w')
  (h:fV P (some l) [] (fun _ w2=>∃ v w3,(Instr.endRound l none).run P w2=.ok v w3∧fV P ro tgt S (.inRegion ops rest :: k) (a.put o.dst v) w3) [.code assign,.beginRound,.code body] ⟨tmps,[]⟩ w'):fV P ro tgt S (.inRegion ops (i :: rest) :: k) a w:=by
 intro b cs hb hro
 let br:Frame:={ (default:Frame) with fn:=f,kind:=.normal,roundOf:=some l }
 have hb0:Frame.round l f tmps assign body .normal=br.atR { tmps:=tmps,defers:=[] } [.code assign,.beginRound,.code body]:=by
  simp [Frame.round,Frame.atR,br]
 obtain ⟨a1,w2,⟨v,w3,hend,hR⟩,hst⟩:=h br (b.atR a (.inRegion ops (i :: rest) :: k) :: cs) rfl rfl
 obtain ⟨a',w4,hs,hst2⟩:=hR b cs hb hro
 have hg:=stepGR_op (P:=P) (b:=b) (a:=a) (k:=k) (cs:=cs) (w:=w) (rest:=rest) ho hw
 have henter:step P (lone (b.atR a (.inRegion ops (i :: rest) :: k)) cs w)=.next (lone (Frame.round l f tmps assign body .normal) (b.atR a (.inRegion ops (i :: rest) :: k) :: cs) w') :=
  step_lone_go (by rw [hg,Oper.semAt_eq _ _ _ hd];simp [stepG.apply,hr,Frame.atR])
 have hfin:(b.atR a (.inRegion ops (i :: rest) :: k)).finish v=b.atR (a.put o.dst v) (.inRegion ops rest :: k):=by rw [Frame.finish_atR,ho];rfl
 refine ⟨a',w4,hs,.head henter ?_⟩
 rw [hb0]
 refine Steps.trans hst (.head ?_ hst2)
 rw [← hfin]
 exact stepR_round_end rfl rfl hend
theorem FZ {l:Nat} {w':World} (hr:(Instr.beginRound l).run P w=.ok () w') (h:fV P (some l) tgt S k a w'):fV P (some l) tgt S (.beginRound :: k) a w :=
 mW (fun _ _ _ hb=>stepR_beginRound hb hr) h
theorem fV.mono {S':Act→World→Prop} {todo:List Item} (h:fV P ro tgt S todo a w) (hs:∀ a w,S a w→S' a w):fV P ro tgt S' todo a w:=fun b cs hb hr=>by
 obtain ⟨a',w',h1,h2⟩:=h b cs hb hr
 exact ⟨a',w',hs _ _ h1,h2⟩
theorem fV.bind {mid:List Item} {S':Act→World→Prop} {todo:List Item} (h:fV P ro mid S' todo a w) (hs:∀ a w,S' a w→fV P ro tgt S mid a w):fV P ro tgt S todo a w:=fun b cs hb hr=>by
 obtain ⟨a',w',h1,h2⟩:=h b cs hb hr
 obtain ⟨a2,w2,h3,h4⟩:=hs _ _ h1 b cs hb hr
 exact ⟨a2,w2,h3,Steps.trans h2 h4⟩
theorem Gs {todo:List Item} (h:fV P none tgt S todo a w):fA P tgt S todo a w:=fun b cs hb=>by
 obtain ⟨a',w',h1,h2⟩:=h { b with roundOf:=none } cs hb rfl
 exact ⟨a',w',h1,h2⟩
theorem GN {todo:List Item} (h:fA P tgt S todo a w):fV P none tgt S todo a w:=fun b cs hb hr=>by
 obtain ⟨a',w',h1,h2⟩:=h b cs hb
 refine ⟨a',w',h1,?_⟩
 rw [Frame.atR_of_none hr,Frame.atR_of_none hr]
 exact h2
theorem fA.bind {mid:List Item} {S':Act→World→Prop} {todo:List Item} (h:fA P mid S' todo a w) (hs:∀ a w,S' a w→fA P tgt S mid a w):fA P tgt S todo a w:=fun b cs hb=>by
 obtain ⟨a',w',h1,h2⟩:=h b cs hb
 obtain ⟨a2,w2,h3,h4⟩:=hs _ _ h1 b cs hb
 exact ⟨a2,w2,h3,Steps.trans h2 h4⟩
theorem Qp {l n:Nat} {x:Code} (h:x.wpIn (Fence.wide.inRound l) n P (fun e a' w'=>e=.normal∧fV P (some l) tgt S k a' w') a w):fV P (some l) tgt S (.code x :: k) a w:=by
 intro b cs hb hr
 obtain ⟨e,a1,w1,⟨rfl,hR⟩,harr⟩:=h b k cs hr trivial (room_wide _)
 obtain ⟨a',w',hs,hst⟩:=hR b cs hb hr
 exact ⟨a',w',hs,Steps.trans (StepsIn.steps harr) hst⟩
def jw (fn:FuncId) (tmps:Array Value) (ps:Array Tmp) (assign body:Code) (D:Nat) (st:LoopState) (pe:Option Code):Loop :=
 { state:=st,pending:=pe,fn,tmps,params:=ps,assign,body,defers:=D }
theorem FV {g:Operand} {ps:Array Tmp} {assign body:Code} {gf:Nat} {lb:Array Value} (hg:a.eval g=.func (.func gf) #[] lb) (eg:∀ args w,(callFunc gf args).run P w=.ok (.enter gf args) w)
  (h:∀ fn,Calls P gf (#[.func (.yield (w.heap.size+1)) #[] #[]] ++ lb) ((w.alloc (.deferred (some []))).alloc (.loop (jw fn a.tmps ps assign body w.heap.size .ready none))) fun e w3=>∃ v,e=.returned v ∧
   w3.heap[w.heap.size+1]? = some (.loop (jw fn a.tmps ps assign body w.heap.size .ready none)) ∧
   fA P tgt S k { a with defers:={ target:=.collected w.heap.size,args:=#[] } :: a.defers } (w3.putObj (w.heap.size+1) (.loop (jw fn a.tmps ps assign body w.heap.size .exhausted none)))) :
  fA P tgt S (.code (.rangeFunc g ps assign body) :: k) a w:=by
 refine aA (wpIn_wide.1 (wpIn_rangeFunc (n:=1) fun fn _=>?_))
 have hc:=h fn
 obtain ⟨W1,hW1⟩:∃ W1,(w.alloc (.deferred (some []))).alloc (.loop (jw fn a.tmps ps assign body w.heap.size .ready none))=W1:=⟨_,rfl⟩
 rw [hW1] at hc
 refine ⟨w.heap.size+1,[{ target:=.collected w.heap.size,args:=#[] }],W1,{ target:=.fn (.func gf) lb,args:=#[.func (.yield (w.heap.size+1)) #[] #[]] },W1,gf,
  #[.func (.yield (w.heap.size+1)) #[] #[]] ++ lb,W1,?_,?_,fun _ _=>trivial,?_,fun _=>Nat.le_refl _,callsIn_wide.2 ?_⟩
 ·rw [← hW1]
  exact run_enterLoop_outer _ _ _ _ _
 ·simp only [resolve,hg]
  simp [go_sem]
 ·simp [invoke,go_sem,eg]
 ·refine hc.mono ?_
  rintro e w3 ⟨v,rfl,h1,h2⟩
  exact ⟨none,_,run_endLoop h1 (by simp [jw]),rfl,h2⟩
def shutAll:List Nat→World→World
 | [],w=>w
 | d :: ds,w=>shutAll ds (w.putObj d (.deferred none))
def marks (ds:List Nat):List Deferred:=ds.map fun d=>{ target:=.collected d,args:=#[] }
theorem xk {ds:List Nat} {w:World} {j:Nat} (h:j ∉ ds):(shutAll ds w).heap[j]? = w.heap[j]?:=by
 induction ds generalizing w with
 | nil=>rfl
 | cons d ds ih =>
  rw [shutAll,ih (fun hj=>h (List.mem_cons_of_mem _ hj)),World.putObj_heap_other (fun e=>h (by rw [e];exact List.mem_cons_self ..))]
theorem Jo {ds:List Nat} {w:World}:(shutAll ds w).heap.size=w.heap.size:=by
 induction ds generalizing w with
 | nil=>rfl
 | cons d ds ih=>rw [shutAll,ih,World.putObj_size]
theorem Dp {ds:List Nat} {w:World}:(shutAll ds w).os=w.os∧(shutAll ds w).output=w.output:=by
 induction ds generalizing w with
 | nil=>exact ⟨rfl,rfl⟩
 | cons d ds ih=>rw [shutAll];exact ih
theorem MZ {fr:Frame} {cs:List Frame} {ds:List Nat} {w:World} (hm:fr.mode=.returning) (hd:fr.defers=marks ds) (hn:ds.Nodup) (hh:∀ d∈ds,w.heap[d]? = some (.deferred (some []))) :
  Steps P (lone fr cs w) (lone { fr with defers:=[] } cs (shutAll ds w)):=by
 induction ds generalizing fr w with
 | nil =>
  have:{ fr with defers:=[] }=fr:=by cases fr;simp only [marks,List.map_nil] at hd;subst hd;rfl
  rw [this]
  exact .refl _ _
 | cons d ds ih =>
  have h1:=step_collected (P:=P) (cs:=cs) (fr:=fr) (d:={ target:=.collected d,args:=#[] }) (ds:=marks ds) (by rw [hm];simp) hd rfl (run_takeDeferred (hh d (List.mem_cons_self ..)))
  have hnd:=List.nodup_cons.1 hn
  refine .head h1 ?_
  have:=ih (fr:={ fr with defers:=[] ++ marks ds }) (w:=w.putObj d (.deferred none)) hm rfl hnd.2 fun x hx=>by
   rw [World.putObj_heap_other (fun e=>hnd.1 (by rw [← e];exact hx))]
   exact hh x (List.mem_cons_of_mem _ hx)
  exact this
theorem yU {f:FuncId} {fn:Func} {c:Code} {args:Array Value} {R:Ending→World→Prop} {k0:List Item} (hf:P.funcs[f]? = some fn) (hb:fn.body=some c)
  (h:fA P (.code .ret :: k0) (fun a' w'=>∃ ds v,a'.defers=marks ds∧ds.Nodup∧(∀ d∈ds,w'.heap[d]? = some (.deferred (some [])))∧(results fn a'.tmps).run P (shutAll ds w')=.ok v (shutAll ds w')∧R (.returned v) (shutAll ds w'))
   [.code c] { tmps:=args ++ Array.replicate (fn.ntmps - args.size) undef,defers:=[] } w):Calls P f args w R:=by
 intro cs
 let b:Frame:={ (default:Frame) with fn:=f,kind:=.normal,roundOf:=none }
 have henter:Frame.enter P f args .normal=b.at { tmps:=args ++ Array.replicate (fn.ntmps - args.size) undef,defers:=[] } [.code c]:=by
  simp [Frame.enter,Frame.at,hf,hb,b]
 obtain ⟨a',w',⟨ds,v,hd,hn,hh,hrs,hR⟩,hst⟩:=h b cs rfl
 refine ⟨.returned v,shutAll ds w',{ { b.at a' (.code .ret :: k0) with mode:=.returning } with defers:=[] },hR,?_,rfl,?_⟩
 ·rw [henter]
  refine Steps.trans hst (.head (m₁:=lone { b.at a' (.code .ret :: k0) with mode:=.returning } cs w') ?_ (MZ rfl hd hn hh))
  have:=stepR_ret (P:=P) (b:=b) (a:=a') (k:=k0) (cs:=cs) (w:=w') rfl
  exact this
 ·exact ⟨rfl,rfl,rfl,fn,hf,hrs⟩
end
def EP (o:Oper):Bool:=match o.op with
 | .defer _=>false
 | _=>true
theorem LW {o:Oper} (h:EP o=true):∀ c,o.op≠.defer c:=by
 intro c hc
 simp [EP,hc] at h
theorem O5 {l n:Nat} {row:String} {args:Array Value} {w:World} {R:Value→World→Prop} (h:Rows P row args w R):RowsIn (Fence.wide.inRound l) n P row args w R:=fun c cs _=>by
 obtain ⟨v,w',r,s⟩:=h c cs
 exact ⟨v,w',r,stepsIn_wide.2 s⟩
theorem Xk {l n:Nat} {o:Oper} {a:Act} {next next':Act→World→Prop} {Q:Exit→Act→World→Prop} {r:Result Next} (hn:∀ a w,next a w→next' a w) (h:o.upon P a next Q r):o.uponIn (Fence.wide.inRound l) n P a next' Q r:=by
 cases r with
 | ok nx w' =>
  cases nx with
  | value v=>exact hn _ _ h
  | skip=>exact hn _ _ h
  | defer d=>exact hn _ _ h
  | enter f args =>
   refine And.intro (fun h=>Bool.noConfusion (show false=true from h)) (callsIn_wide.2 (Calls.mono h fun e w'' he=>?_))
   cases e with
   | returned v=>exact hn _ _ he
   | panicked c=>exact he
   | outgrown=>exact he
  | row row args=>exact And.intro (fun h=>Bool.noConfusion (show false=true from h)) (O5 (Rows.mono h fun u w'' he=>hn _ _ he))
  | _=>exact h.elim
 | halt x w' =>
  cases x with
  | panic u=>exact h
  | _=>exact h.elim
theorem Yp {l n:Nat} {o:Oper} {a:Act} {w:World} {next next':Act→World→Prop} {Q:Exit→Act→World→Prop} (hd:EP o=true) (hn:∀ a w,next a w→next' a w) (h:o.wp P a w next Q):o.wpIn (Fence.wide.inRound l) n P a w next' Q:=by
 refine ⟨fun _ _=>trivial,?_⟩
 have e:o.semAt (Fence.wide.inRound l).round a.eval=execOp a.eval o:=Oper.semAt_eq _ _ _ (LW hd)
 rw [e]
 exact Xk hn h
theorem Am {l n:Nat} {ops:Array Oper} {Q:Exit→Act→World→Prop} (hQ:¬ LetsOut Q):∀ (os:List Oper),os.all EP=true→∀ (a:Act) (w:World),wpList P ops Q os a w→wpListIn (Fence.wide.inRound l) n P ops Q os a w
 | [],_,_,_,h=>h
 | o :: os,hd,a,w,h=>by
  rw [List.all_cons,Bool.and_eq_true] at hd
  simp only [wpList,wpListIn] at h ⊢
  split at h
  ·rename_i hw
   rw [if_pos hw]
   rcases h with h | h
   ·exact Yp hd.1 (fun a w h=>Am hQ os hd.2 a w h) h
   ·exact (hQ h.2).elim
  ·rename_i hw
   rw [if_neg hw]
   exact ⟨fun _ _=>trivial,Am hQ os hd.2 _ _ h⟩
theorem zk {l n:Nat} {ops:Array Oper} {Q:Exit→Act→World→Prop} (hQ:¬ LetsOut Q) (hd:∀ (i:Nat) (o:Oper),ops[i]? = some o→EP o=true):∀ (is:List Nat) (a:Act) (w:World),wpOps P ops Q is a w→wpOpsIn (Fence.wide.inRound l) n P ops Q is a w
 | [],_,_,h=>h
 | i :: is,a,w,h=>by
  simp only [wpOps,wpOpsIn] at h ⊢
  cases ho:ops[i]? with
  | none =>
   simp only [ho] at h ⊢
   exact zk hQ hd is a w h
  | some o =>
   simp only [ho] at h ⊢
   split at h
   ·rename_i hw
    rw [if_pos hw]
    rcases h with h | h
    ·exact Yp (hd i o ho) (fun a w h=>zk hQ hd is a w h) h
    ·exact (hQ h.2).elim
   ·rename_i hw
    rw [if_neg hw]
    exact ⟨fun _ _=>trivial,zk hQ hd is _ _ h⟩
section
variable {tgt k:List Item} {S:Act→World→Prop} {a:Act} {w:World} {l:Nat}
theorem YC {R:Act→World→Prop}:¬ LetsOut (fun e a' w'=>e=Exit.normal∧R a' w'):=fun ⟨_,_,h⟩=>nomatch h.1
theorem qF {id:Nat} {os:List Oper} (hd:os.all EP=true) (h:wpList P os.toArray (fun e a' w'=>e=.normal∧fV P (some l) tgt S k a' w') os a w):fV P (some l) tgt S (.code (.region id os.toArray false) :: k) a w :=
 Qp (n:=0) (wpIn_region_lit (Am YC _ hd _ _ h))
theorem Yg {id:Nat} {os:List Oper} {S0:World→Prop} (bs:List Bool) (hb:bs=List.replicate os.length false) (hm:P.follows .mixedOrders=true) (hd:os.all EP=true)
  (h:wpAnyH P .any os.toArray (fun e a' w'=>e=.normal∧fV P (some l) tgt S k a' w') S0 os.length bs.toArray a { w with drawn:=w.drawn+1 }):fV P (some l) tgt S (.code (.region id os.toArray true) :: k) a w:=by
 subst hb
 have e:(List.replicate os.length false).toArray=Array.replicate os.toArray.size false:=by apply Array.ext';simp
 rw [e,show os.length=os.toArray.size by simp] at h
 refine Qp (n:=0) (wpIn_region_draw fun t=>?_)
 refine zk YC (fun i o ho=>?_) _ _ _ ?_
 ·have:os[i]? = some o:=by simpa using ho
  exact List.all_eq_true.1 hd o (List.mem_of_getElem? this)
 ·simp only [Region.schedule,hm,Bool.true_or,if_true]
  exact wpAny_sound _ t _ a _ (wpAny_of_held _ _ _ _ h)
end
end Go.Tm
namespace Go.Proofs.YtjjmefieegcddaaDoor
open Go.RowKit Go.Wg Go.Mm Go.Wk
open Go Go.Sr Go.Ph Go.Tm Go.Conc
variable {w:World} {V:View}
def Vw (V:View) (j:Nat) (o:Obj):View:=fun i=>if i=j then some o else V i
theorem Vw.same (V:View) (j:Nat) (o:Obj):Vw V j o j=some o:=by simp [Vw]
theorem Vw.other (V:View) {i j:Nat} (o:Obj) (h:i≠j):Vw V j o i=V i:=by simp [Vw,h]
theorem Jp {w0:World} {X:List Nat} {L:List dF} {j:Nat} {o:Obj} (h:St w0 X V L w) (hj:w0.heap.size≤j) (hv:V j=some o) (o':Obj):St w0 X (Vw V j o') L (w.putObj j o'):=by
 have hlt:j < w.heap.size:=lt_of_heap (h.view j o hv)
 have hne:∀ e∈L,∀ b,e.foot=some b→b≠j:=fun e he b hb hbj=>by
  have:=h.off e he b hb
  rw [hbj,hv] at this
  cases this
 refine ⟨h.os,h.output,by rw [World.putObj_size];exact h.size,fun k hk hx=>?_,fun k u hk=>?_,fun e he=>?_,h.new,fun e he b hb=>?_,h.nd⟩
 ·rw [World.putObj_heap_other (by omega)]
  exact h.old k hk hx
 ·by_cases e:k=j
  ·subst e
   rw [Vw.same] at hk
   cases hk
   exact World.putObj_heap_same hlt
  ·rw [Vw.other V o' e] at hk
   rw [World.putObj_heap_other e]
   exact h.view k u hk
 ·exact (h.has e he).of_heap fun g hg=>World.putObj_heap_other (hne e he g hg)
 ·rw [Vw.other V o' (hne e he b hb)]
  exact h.off e he b hb
theorem Vw.back {V:View} {j:Nat} {o o':Obj} (hv:V j=some o):∀ k u,V k=some u→Vw (Vw V j o') j o k=some u:=fun k u hk=>by
 by_cases e:k=j
 ·subst e;rw [Vw.same];rw [hv] at hk;exact hk
 ·rw [Vw.other _ _ e,Vw.other _ _ e];exact hk
theorem Vw.sub {V:View} {j:Nat} {o:Obj} (hv:V j=none):∀ k u,V k=some u→Vw V j o k=some u:=fun k u hk=>by
 by_cases e:k=j
 ·subst e;rw [hv] at hk;cases hk
 ·rw [Vw.other _ _ e];exact hk
theorem LD {o:Oper} {ρ:Operand→Value} {x y:Operand} {ats:Array TypeId} {l:Nat} {r:Loop} {v:Value} (ho:o.op=.call { callee:=.value x,args:=#[y],argTypes:=ats }) (hx:ρ x=.func (.yield l) #[] #[]) (hy:ρ y=v)
  (h:w.heap[l]? = some (.loop r)) (hs:r.params.size=1):(execOp ρ o).run Tryd.prog w=.ok (.round l r.fn ((r.params.zip #[v]).foldl (fun t (p,u)=>t.setIfInBounds p u) r.tmps) r.assign r.body) w:=by
 have hr:=run_yield (P:=Tryd.prog) (args:=#[v]) h (by rw [hs];rfl)
 unfold execOp
 simp [ho,resolve,invoke,hx,hy,go_sem,hr]
theorem kP (ti:Nat) (w:World):Calls Tryd.prog 94 #[ptr ti] w fun e w'=>∃ g,e=.returned (.func (.func 121) #[] #[ptr g])∧Kp w w'∧w.heap.size≤g∧w'.heap[g]? = some (.cells [ptr ti].toArray 124 (0,0)):=by
 have hS:=St.start w (fun _=>none) (fun k o h=>by cases h)
 unfold ptr
 go_enter Tryd.func94,Tryd.ntmps94
 go_wp2_with ((with_reducible refine gB ?_);refine iK 1 rfl hS rfl rfl rfl ?_;refine ⟨_,za,?_⟩;clear hS;(try clear w');intro b1;intro a' hp;(try simp only [fr] at hp);subst hp;intro w' hS)
 ((try simp only [Exit.inBlock,Exit.then]);(try refine aB ?_);refine bK ⟨_,by exact bH (r1:=.tmp 2) (by kernel_rfl) (by exact bD rfl),?_⟩ rfl)
 exact ⟨b1,rfl,hS.bM,hS.newAt (b:=b1),hS.dR (b:=b1)⟩
def Jq (w0:World) (V:View) (kb:Nat) (c:List Nat→List Value) (lr:Nat) (rec:Loop) (n:Nat) (ts:List Nat):Prop :=
 ∀ V':View,(∀ j u,V j=some u→V' j=some u)→∀ (pre:List Nat) (x:Nat) (w:World),x < n→St w0 [] V' [.blk kb 4 (c pre)] w →
  fV Tryd.prog (some lr) [] (fun _ w2=>∃ w3,(Instr.endRound lr none).run Tryd.prog w2=.ok (.bool true) w3∧St w0 [] V' [.blk kb 4 (c (pre ++ [x]))] w3)
   [.code rec.assign,.beginRound,.code rec.body] ⟨(rec.params.zip #[ptr (ts.getD x 0)]).foldl (fun t (p,u)=>t.setIfInBounds p u) rec.tmps,[]⟩ w
noncomputable def abh:Code:=match Tryd.f122.body with | some c=>c | none=>.skip
set_option maxRecDepth 20000 in
theorem Xq {p:Nat} {k:Wk} {ts:List Nat} {vv rv:Value} (hC:zO V p k ts vv rv) (hok:k.Ok) {w0:World} {kb lr by_ bf:Nat} {c:List Nat→List Value} {rec:Loop}
  (hby:V.Cell by_ 0 (.func (.yield lr) #[] #[])) (hbf:V.Cell bf 0 (.func (.func 122) #[] #[ptr by_,ptr bf])) (hrec:V lr=some (.loop rec)) (hps:rec.params.size=1) (hround:Jq w0 V kb c lr rec k.n ts) :
  ∀ (f i:Nat),i < k.n→k.n - i≤f→∀ pre w,St w0 [] V [.blk kb 4 (c pre)] w →
   Calls Tryd.prog 122 #[ptr (ts.getD i 0),ptr by_,ptr bf] w fun e w'=>e=.returned (.bool true)∧St w0 [] V [.blk kb 4 (c (pre ++ Cb k f i))] w':=by
 intro f
 induction f with
 | zero=>intro i hi hf;omega
 | succ f ih =>
  intro i hi hf pre w hS
  have hR:=hround V (fun _ _ h=>h) pre i w hi hS
  obtain ⟨fv,hf5,hfs⟩:=hC.fil i hi
  obtain ⟨fa,fcap,rfl,hfc,hfm,hfe⟩:=hfs.is
  have hfl2:(k.fills i).length≤6:=by
   have:=wL k i
   have:=hC.le
   omega
  refine yU (k0:=[]) Tryd.func122 (show Tryd.f122.body=some abh from rfl) ?_
  have e22:Tryd.f122.ntmps - (#[ptr (ts.getD i 0),ptr by_,ptr bf]:Array Value).size=22:=by kernel_rfl
  rw [e22]
  have hcy:=hby.cell hS.view
  have hcl:=hS.view lr _ hrec
  unfold ptr at *
  generalize ts.getD i 0=ti at *
  simp only [Array.replicate_succ,Array.replicate_zero,List.push_toArray,List.append_toArray,List.nil_append,List.cons_append]
  refine au (aA ?_)
  go_wp2_with (fail)
  refine au (au (ig ?_))
  refine cO (i:=0) (v:=.func (.yield lr) #[] #[]) (w':=w) rfl rfl (fP rfl rfl (by kernel_rfl) hcy) ?_
  refine cO (i:=1) (v:=.pointer (some ⟨ti,0,none⟩)) (w':=w) rfl rfl rfl ?_
  refine Gs (UO (i:=2) rfl rfl (LW rfl) (LD rfl rfl rfl hcl hps) (hR.mono ?_))
  rintro a w2 ⟨w3,hend,hS3⟩
  refine ⟨_,w3,hend,GN ?_⟩
  clear hS hR hcy hcl
  have hS:=hS3
  clear hS3
  refine cO (i:=3) (v:=.bool false) (w':=w3) rfl rfl rfl ?_
  refine dH (dZ (t:=false) rfl (lu ?_))
  have HB:Cb k (f+1) i=i :: (k.fills i).flatMap (Cb k f):=by rw [Cb]
  have hmem:∀ q,q < (k.fills i).length→i < (k.fills i).getD q 0∧(k.fills i).getD q 0 < k.n:=fun q hq=>by
   refine rV hok ?_
   rw [List.getD_eq_getElem?_getD,List.getElem?_eq_getElem hq]
   exact List.getElem_mem _
  have hihq:=fun q (hq:q < (k.fills i).length) pre w hS=>ih ((k.fills i).getD q 0) (hmem q hq).2 (by have:=(hmem q hq).1;omega) pre w hS
  have hst:∀ q,q < (k.fills i).length→pre ++ [i] ++ ((k.fills i).take (q+1)).flatMap (Cb k f)=pre ++ [i] ++ ((k.fills i).take q).flatMap (Cb k f) ++ Cb k f ((k.fills i).getD q 0):=fun q hq=>by
   rw [List.take_add_one,List.getElem?_eq_getElem hq,List.flatMap_append,List.getD_eq_getElem?_getD,List.getElem?_eq_getElem hq]
   simp
  have hS0:St w0 [] V [.blk kb 4 (c (pre ++ [i] ++ ((k.fills i).take 0).flatMap (Cb k f)))] w3:=by simpa using hS
  have hfin:pre ++ Cb k (f+1) i=pre ++ [i] ++ ((k.fills i).take (k.fills i).length).flatMap (Cb k f):=by rw [HB,List.take_length];simp
  rw [hfin]
  clear HB hmem ih hround hS hfin
  have hS:=hS0
  clear hS0
  generalize hfl:k.fills i=fl at *
  refine au (aA ?_)
  go_wp2_with (((with_reducible refine gL ?_);refine nC hS rfl rfl rfl ?_);refine ⟨_,zd,?_⟩;clear hS;(try clear w');intro a' hp;(try simp only [fr] at hp);subst hp;intro w' hS;(try simp only [sE] at hS))
  go_loopw [16] (fun qv wr=>∃ q:Nat,q≤fl.length∧qv=.int .i64 (q:Int)∧St w0 [] V [.blk kb 4 (c (pre ++ [i] ++ (fl.take q).flatMap (Cb k f)))] wr) (fun qv _=>fl.length - (intOf qv).toNat)
  case atStart=>exact ⟨0,by omega,rfl,hS⟩
  case round =>
   clear hS
   obtain ⟨q,hq,rfl,hS⟩:=hrel
   by_cases hql:q < fl.length
   ·have hq1:(q:Int) < fl.length:=by omega
    have hq0:(0:Int)≤q:=by omega
    obtain ⟨fg,fo,rfl,hfr⟩:=hfe (by omega)
    have hpx:=hfr q hql 0 _ rfl
    have hihx:=hihq q hql
    have hstq:=hst q hql
    simp only [Nat.mul_one,Nat.add_zero] at hpx
    generalize ts.getD (fl.getD q 0) 0=tx at hpx hihx
    generalize Cb k f (fl.getD q 0)=br at hihx hstq
    generalize pre ++ [i] ++ (fl.take q).flatMap (Cb k f)=cur at hS hstq
    clear hfr hihq hst hfe
    replace hstq:=aj hstq
    go_wp2_with (first | (((with_reducible refine gL ?_);refine nC hS rfl rfl rfl ?_);refine ⟨_,zd,?_⟩;clear hS;(try clear w');intro a' hp;(try simp only [fr] at hp);subst hp;intro w' hS;(try simp only [sE] at hS)) | (go_at_call 122;refine (hihx _ _ hS).mono ?_;clear hihx hS;(try clear w');rintro e w' ⟨rfl,hS⟩))
    go_roundw
    case rel=>exact ⟨q+1,by omega,by go_num,by rw [hstq.out];exact hS⟩
    case measure=>simp only [intOf];omega
   ·obtain rfl:q=fl.length:=by omega
    clear hihq hst hfe
    go_wp2_with (fail)
    refine au (aA ?_)
    go_wp2_with (fail)
    refine bG (tgt:=[.code .ret]) ?_
    refine ⟨[],rfl,List.nodup_nil,(fun d hd=>nomatch hd),.bool true,?_,rfl,?_⟩
    ·exact results_tmp (t:=4) rfl _ _ _
    ·simp only [List.take_length,List.append_assoc,List.cons_append,List.nil_append] at hS
     exact hS
set_option maxRecDepth 20000 in
theorem XZ {p:Nat} {k:Wk} {ts:List Nat} {vv rv:Value} (hC:zO V p k ts vv rv) (hok:k.Ok) {w0:World} {kb lr bt:Nat} {c:List Nat→List Value} {rec:Loop} (i:Nat) (hi:i < k.n)
  (hbt:V.Cell bt 0 (ptr (ts.getD i 0))) (hrec:V lr=some (.loop rec)) (hps:rec.params.size=1) (hround:Jq w0 V kb c lr rec k.n ts) (pre:List Nat) (hS:St w0 [] V [.blk kb 4 (c pre)] w) :
  Calls Tryd.prog 121 #[.func (.yield lr) #[] #[],ptr bt] w fun e w'=>∃ v,e=.returned v∧St w0 [] V [.blk kb 4 (c (pre ++ Cb k (k.n - i) i))] w':=by
 have hfr:=fun V1 (hV1:∀ j u,V j=some u→V1 j=some u) by_ bf h1 h2 w hS=>Xq (V:=V1) (hC.mono hV1) hok (w0:=w0) (kb:=kb) (lr:=lr) (by_:=by_) (bf:=bf) (c:=c) (rec:=rec) h1 h2 (hV1 _ _ hrec) hps (fun V' h=>hround V' fun j u hj=>h j u (hV1 j u hj)) (k.n - i) i hi (Nat.le_refl _) pre w hS
 unfold ptr at *
 generalize ts.getD i 0=ti at *
 clear hround
 go_enter Tryd.func121,Tryd.ntmps121
 go_wp2_with (first | (first | ((first | ((with_reducible refine gL ?_);first | refine gY hS rfl rfl rfl ?_ | refine nC hS rfl rfl rfl ?_) | ((with_reducible refine gS ?_);refine pX hS rfl rfl rfl ?_));refine ⟨_,zd,?_⟩;clear hS;(try clear w');intro a' hp;(try simp only [fr] at hp);subst hp;intro w' hS;(try simp only [sE] at hS)) | ((first | ((with_reducible refine gA ?_);refine dM hS rfl rfl ?_) | ((with_reducible refine gB ?_);refine jQ hS rfl rfl rfl ?_;refine ⟨_,za,?_⟩));clear hS;(try clear w');intro _;intro a' hp;(try simp only [fr] at hp);subst hp;intro w' hS)) | (go_at_call 122;obtain ⟨V1,hV1,hc1,hS1⟩:=pin hS;obtain ⟨V2,hV2,hc2,hS2⟩:=pin hS1;refine (hfr V2 (fun j u h=>hV2 _ _ (hV1 _ _ h)) _ _ (hc2 0 _ rfl) ((hc1 0 _ rfl).mono hV2) _ hS2).mono ?_;clear hS hS1 hS2;(try clear w');rintro e w' ⟨rfl,hS⟩))
 ((try simp only [Exit.inBlock,Exit.then]);(try refine aB ?_);refine bK ⟨_,by exact FB  (by kernel_rfl),?_⟩ rfl)
 exact ⟨_,rfl,hS.weaken fun j u h=>hV2 _ _ (hV1 _ _ h)⟩
noncomputable def B34:Code:=match Tryd.f34.body with | some c=>c | none=>.skip
noncomputable def K6:Code:=match B34 with | .seq _ (.seq _ (.seq _ (.seq _ (.seq _ r))))=>r | _=>.skip
noncomputable def KL:Code:=match K6 with | .seq (.seq _ (.block _ (.loop l))) _=>l | _=>.skip
noncomputable def KT:Code:=match K6 with | .seq _ r=>r | _=>.skip
noncomputable def KSc:Code:=match KL with | .seq _ (.seq _ (.seq (.block _ (.seq _ (.scope c))) _))=>c | _=>.skip
noncomputable def Z7:Code:=match KL with | .seq _ (.seq _ (.seq _ c))=>c | _=>.skip
noncomputable def KA:Code:=match KSc with | .seq _ (.seq _ (.block _ (.rangeFunc _ _ a _)))=>a | _=>.skip
noncomputable def KB:Code:=match KSc with | .seq _ (.seq _ (.block _ (.rangeFunc _ _ _ b)))=>b | _=>.skip
noncomputable def KIL:Code:=match KB with | .block _ (.seq _ (.seq (.seq _ (.block _ (.loop l))) _))=>l | _=>.skip
noncomputable def Zr:Code:=match KB with | .block _ (.seq _ (.seq _ c))=>c | _=>.skip
set_option maxRecDepth 20000 in
theorem OW {lr lb b7 kb tx x:Nat} {k:Wk} {l pre:List Nat} {ts fl:List Nat} {w0:World} {fa:Option Addr} {fcap:Nat} {p:Nat} {vv rv:Value} (hC:zO V p k ts vv rv) (hl6:l.length=6) (hlb:V.Range lb 0 (mM l)) (hb7:V.Cell b7 0 (.slice (some ⟨kb,0,none⟩) k.n k.n))
  (hx:x < k.n) (hn6:k.n≤6) (hnum:V.Cell tx 4 (.int .i64 (x:Int))) (hfl:k.fills x=fl) (hfl2:fl.length≤6) (hx0:l.getD x 0=0)
  (hfe:0 < fl.length→∃ g off,fa=some ⟨g,off,none⟩∧∀ i,i < fl.length→V.Range g (off+i * 1) [ptr (ts.getD (fl.getD i 0) 0)]) :
  ∀ (m q:Nat),q+m=fl.length→(∀ j,j < q→l.getD (fl.getD j 0) 0≠0)→∀ (w:World) (f:Nat→Value),St w0 [] V [.blk kb 4 (Cj k l pre)] w →
   fV Tryd.prog (some lr) [] (fun _ w'=>St w0 [] V [.blk kb 4 (Cj k l (pre ++ [x]))] w') [.code KIL,.inLoop KIL,.inBlock 4,.code Zr,.inBlock 3]
    ⟨#[f 0,f 1,f 2,f 3,f 4,f 5,.pointer (some ⟨lb,0,none⟩),.pointer (some ⟨b7,0,none⟩),f 8,f 9,.pointer (some ⟨tx,0,none⟩),f 11,f 12,f 13,f 14,f 15,f 16,f 17,f 18,f 19,f 20,f 21,f 22,f 23,f 24,f 25,f 26,f 27,f 28,f 29,f 30,f 31,f 32,f 33,f 34,f 35,f 36,f 37,f 38,f 39,f 40,f 41,f 42,f 43,f 44,f 45,f 46,f 47,f 48,f 49,f 50,f 51,f 52,f 53,.slice fa fl.length fcap,.int .i64 fl.length,.int .i64 q,f 57,f 58,f 59,f 60,f 61,f 62,f 63,f 64,f 65,f 66,f 67,f 68,f 69,f 70,f 71,f 72,f 73,f 74,f 75,f 76,f 77,f 78,f 79,f 80,f 81,f 82,f 83,f 84,f 85,f 86,f 87,f 88],[]⟩ w:=by
 intro m
 induction m with
 | zero =>
  intro q hq hall w f hS
  obtain rfl:q=fl.length:=by omega
  have hkn:nG k l x=true:=by
   unfold nG
   rw [hx0,hfl]
   simp only [beq_self_eq_true,Bool.true_and,List.all_eq_true]
   intro y hy
   obtain ⟨j,hj,rfl⟩:=List.getElem_of_mem hy
   have e:fl.getD j 0=fl[j]:=by simp [List.getD_eq_getElem?_getD,hj]
   have:=hall j hj
   rw [e] at this
   simpa using this
  have HS:=X0 k l pre hx hkn
  have HN:=zC k l pre
  have h0:(0:Int)≤x:=by omega
  have h1:(x:Int) < k.n:=by omega
  replace HS:=aj HS
  clear hall hkn hfe
  refine pV (qF rfl ?_)
  go_wp2_with (fail)
  refine pV (wM (t:=false) rfl (JQ rfl ?_))
  (refine Yg (S0:=(St w0 [] V [])) [false,false,false,false,false,false,false] rfl (by kernel_rfl) rfl ?_;replace hS:=St.eY hS;(iterate 6 ((first | refine hxc 0 rfl ?_ | refine hxm 1 rfl ?_ | refine hxp 2 rfl ?_ | refine hxp 3 rfl ?_ | refine hxc 4 rfl ?_ | refine hxp 5 rfl ?_);intro a' l' hp hl;(try simp only [fr] at hp);(try simp only [sB] at hl);subst hp;subst hl));(((refine jl 6 (by kernel_rfl) rfl hS rfl  rfl rfl ?_;refine ⟨_,zd,?_⟩));clear hS;(try clear w');intro a' l' hp hl;(try simp only [fr] at hp);(try simp only [sB] at hl);subst hp;subst hl;intro w' hS;(try simp only [sE] at hS);refine ⟨(St.aG hS),?_⟩);refine wpAnyH_done (by kernel_rfl) ?_ _)
  refine ⟨rfl,?_⟩
  refine EO (Jj (tgt:=[]) ?_)
  rw [← HS.out]
  exact hS
 | succ m ih =>
  intro q hq hall w f hS
  have hql:q < fl.length:=by omega
  have hq1:(q:Int) < fl.length:=by omega
  have hq0:(0:Int)≤q:=by omega
  obtain ⟨fg,fo,rfl,hfr⟩:=hfe (by omega)
  have hpx:=hfr q hql 0 _ rfl
  simp only [Nat.mul_one,Nat.add_zero] at hpx
  have hym:fl.getD q 0∈k.fills x:=by
   rw [hfl,List.getD_eq_getElem?_getD,List.getElem?_eq_getElem hql]
   exact List.getElem_mem _
  have hyn:fl.getD q 0 < k.n:=List.mem_range.1 (List.mem_filter.1 hym).1
  have hlast:∀ j,j < q+1→l.getD (fl.getD q 0) 0≠0→l.getD (fl.getD j 0) 0≠0:=fun j hj h=>by
   rcases Nat.lt_succ_iff_lt_or_eq.1 hj with h1 | rfl
   ·exact hall j h1
   ·exact h
  have hihq:=fun (h:l.getD (fl.getD q 0) 0≠0)=>ih (q+1) (by omega) (fun j hj=>hlast j hj h)
  have hmiss:l.getD (fl.getD q 0) 0=0→nG k l x=false:=fun h=>by
   unfold nG
   rw [Bool.and_eq_false_iff]
   refine .inr ?_
   rw [List.all_eq_false]
   exact ⟨_,hym,by rw [h];decide⟩
  have hty:=hC.tun _ hyn 4 _ rfl
  simp only [Nat.zero_add] at hty
  generalize hgy:fl.getD q 0=y at hpx hyn hihq hmiss hty
  generalize ts.getD y 0=ty at hpx hty
  have hy6:(y:Int) < 6:=by omega
  have hy0:(0:Int)≤y:=by omega
  have hly:=hlb y (.int .u64 (l.getD y 0:Nat)) (wF (l:=l) (i:=y) (by omega))
  rw [Nat.zero_add] at hly
  clear hfr hall hlast ih hfe
  unfold ptr at hpx
  refine pV (qF rfl ?_)
  go_wp2_with (fail)
  refine pV (wM (t:=true) rfl (JJ ?_))
  refine pV (EM (pV (qF rfl ?_)))
  go_wp2_with (((with_reducible refine gL ?_);refine nC hS rfl rfl rfl ?_);refine ⟨_,zd,?_⟩;clear hS;(try clear w');intro a' hp;(try simp only [fr] at hp);subst hp;intro w' hS;(try simp only [sE] at hS))
  refine pV (qF rfl ?_)
  by_cases hz:l.getD y 0=0
  ·rw [hz] at hly
   have HM:=JW k l pre (hmiss hz)
   clear hihq hmiss
   go_wp2_with (((with_reducible refine gL ?_);refine nC hS rfl rfl rfl ?_);refine ⟨_,zd,?_⟩;clear hS;(try clear w');intro a' hp;(try simp only [fr] at hp);subst hp;intro w' hS;(try simp only [sE] at hS))
   refine wM (t:=true) rfl (JQ rfl (Jj (tgt:=[]) ?_))
   rw [← HM]
   exact hS
  ·have hih:=hihq hz
   have hzb:(((l.getD y 0:Nat):Int) == 0)=false:=by rw [beq_eq_false_iff_ne];omega
   clear hihq hmiss
   generalize l.getD y 0=ly at hly hz hzb
   go_wp2_with (((with_reducible refine gL ?_);refine nC hS rfl rfl rfl ?_);refine ⟨_,zd,?_⟩;clear hS;(try clear w');intro a' hp;(try simp only [fr] at hp);subst hp;intro w' hS;(try simp only [sE] at hS))
   refine wM (t:=false) rfl (JJ (EO ?_))
   refine qF rfl ?_
   go_wp2_with (fail)
   refine Tf ?_
   have key:∀ (a:Act) (u:World),St w0 [] V [.blk kb 4 (Cj k l pre)] u→a=⟨#[a.tmps.getD 0 undef,a.tmps.getD 1 undef,a.tmps.getD 2 undef,a.tmps.getD 3 undef,a.tmps.getD 4 undef,a.tmps.getD 5 undef,.pointer (some ⟨lb,0,none⟩),.pointer (some ⟨b7,0,none⟩),a.tmps.getD 8 undef,a.tmps.getD 9 undef,.pointer (some ⟨tx,0,none⟩),a.tmps.getD 11 undef,a.tmps.getD 12 undef,a.tmps.getD 13 undef,a.tmps.getD 14 undef,a.tmps.getD 15 undef,a.tmps.getD 16 undef,a.tmps.getD 17 undef,a.tmps.getD 18 undef,a.tmps.getD 19 undef,a.tmps.getD 20 undef,a.tmps.getD 21 undef,a.tmps.getD 22 undef,a.tmps.getD 23 undef,a.tmps.getD 24 undef,a.tmps.getD 25 undef,a.tmps.getD 26 undef,a.tmps.getD 27 undef,a.tmps.getD 28 undef,a.tmps.getD 29 undef,a.tmps.getD 30 undef,a.tmps.getD 31 undef,a.tmps.getD 32 undef,a.tmps.getD 33 undef,a.tmps.getD 34 undef,a.tmps.getD 35 undef,a.tmps.getD 36 undef,a.tmps.getD 37 undef,a.tmps.getD 38 undef,a.tmps.getD 39 undef,a.tmps.getD 40 undef,a.tmps.getD 41 undef,a.tmps.getD 42 undef,a.tmps.getD 43 undef,a.tmps.getD 44 undef,a.tmps.getD 45 undef,a.tmps.getD 46 undef,a.tmps.getD 47 undef,a.tmps.getD 48 undef,a.tmps.getD 49 undef,a.tmps.getD 50 undef,a.tmps.getD 51 undef,a.tmps.getD 52 undef,a.tmps.getD 53 undef,.slice (some ⟨fg,fo,none⟩) fl.length fcap,.int .i64 fl.length,.int .i64 ((q:Int)+1),a.tmps.getD 57 undef,a.tmps.getD 58 undef,a.tmps.getD 59 undef,a.tmps.getD 60 undef,a.tmps.getD 61 undef,a.tmps.getD 62 undef,a.tmps.getD 63 undef,a.tmps.getD 64 undef,a.tmps.getD 65 undef,a.tmps.getD 66 undef,a.tmps.getD 67 undef,a.tmps.getD 68 undef,a.tmps.getD 69 undef,a.tmps.getD 70 undef,a.tmps.getD 71 undef,a.tmps.getD 72 undef,a.tmps.getD 73 undef,a.tmps.getD 74 undef,a.tmps.getD 75 undef,a.tmps.getD 76 undef,a.tmps.getD 77 undef,a.tmps.getD 78 undef,a.tmps.getD 79 undef,a.tmps.getD 80 undef,a.tmps.getD 81 undef,a.tmps.getD 82 undef,a.tmps.getD 83 undef,a.tmps.getD 84 undef,a.tmps.getD 85 undef,a.tmps.getD 86 undef,a.tmps.getD 87 undef,a.tmps.getD 88 undef],[]⟩→fV Tryd.prog (some lr) [] (fun _ w'=>St w0 [] V [.blk kb 4 (Cj k l (pre ++ [x]))] w') [.code KIL,.inLoop KIL,.inBlock 4,.code Zr,.inBlock 3] a u:=fun a u hS ha=>by
    have h1:=hih _ (fun j=>a.tmps.getD j undef) hS
    rw [ha]
    exact h1
   exact key _ _ hS rfl
def Ad (v6 v7:Value) (f:Nat→Value):Array Value:=#[f 0,f 1,f 2,f 3,f 4,f 5,v6,v7,f 8,f 9,f 10,f 11,f 12,f 13,f 14,f 15,f 16,f 17,f 18,f 19,f 20,f 21,f 22,f 23,f 24,f 25,f 26,f 27,f 28,f 29,f 30,f 31,f 32,f 33,f 34,f 35,f 36,f 37,f 38,f 39,f 40,f 41,f 42,f 43,f 44,f 45,f 46,f 47,f 48,f 49,f 50,f 51,f 52,f 53,f 54,f 55,f 56,f 57,f 58,f 59,f 60,f 61,f 62,f 63,f 64,f 65,f 66,f 67,f 68,f 69,f 70,f 71,f 72,f 73,f 74,f 75,f 76,f 77,f 78,f 79,f 80,f 81,f 82,f 83,f 84,f 85,f 86,f 87,f 88]
theorem aa4 (p:Tmp) (v:Value) (T:Array Value):((#[p]:Array Tmp).zip #[v]).foldl (fun (t:Array Value) (q:Tmp × Value)=>t.setIfInBounds q.1 q.2) T=T.setIfInBounds p v:=by
 first | rfl | simp
set_option maxRecDepth 20000 in
theorem PZ {fn lr lb b7 kb D p:Nat} {k:Wk} {l ts:List Nat} {w0:World} {vv rv:Value} (f:Nat→Value) (hC:zO V p k ts vv rv) (hl6:l.length=6) (hlb:V.Range lb 0 (mM l)) (hb7:V.Cell b7 0 (.slice (some ⟨kb,0,none⟩) k.n k.n))
  (hlr:w0.heap.size≤lr) (hrec:V lr=some (.loop (jw fn (Ad (ptr lb) (ptr b7) f) #[43] KA KB D .ready none))) :
  Jq w0 V kb (Cj k l) lr (jw fn (Ad (ptr lb) (ptr b7) f) #[43] KA KB D .ready none) k.n ts:=by
 intro V' hV' pre x w hx hS
 have hrec':=hV' _ _ hrec
 have hn6:=hC.le
 have hC1:=(hC.mono hV').mono (V':=V') fun _ _ h=>h
 have hsw:=fun {w:World} (h:St w0 [] V' [.blk kb 4 (Cj k l pre)] w)=>Jp h hlr hrec' (.loop (jw fn (Ad (ptr lb) (ptr b7) f) #[43] KA KB D .busy none))
 have hV1lr:∀ j u,V j=some u→j≠lr→Vw V' lr (.loop (jw fn (Ad (ptr lb) (ptr b7) f) #[43] KA KB D .busy none)) j=some u:=fun j u h hj=>by
  rw [Vw.other _ _ hj];exact hV' j u h
 have hcel:∀ {b i:Nat} {v:Value},V.Cell b i v→(Vw V' lr (.loop (jw fn (Ad (ptr lb) (ptr b7) f) #[43] KA KB D .busy none))).Cell b i v:=fun {b i v} ⟨cs,t,fz,h1,h2⟩=>by
  refine ⟨cs,t,fz,hV1lr b _ h1 ?_,h2⟩
  rintro rfl
  rw [hrec] at h1
  cases h1
 have hfin:∀ {w2:World} {cc:List Value},St w0 [] (Vw V' lr (.loop (jw fn (Ad (ptr lb) (ptr b7) f) #[43] KA KB D .busy none))) [.blk kb 4 cc] w2 →
   ∃ w3,(Instr.endRound lr none).run Tryd.prog w2=.ok (.bool true) w3∧St w0 [] V' [.blk kb 4 cc] w3:=fun {w2 cc} h =>
  ⟨_,run_endRound none (h.view lr _ (Vw.same _ _ _)),(Jp h hlr (Vw.same _ _ _) _).weaken (Vw.back hrec')⟩
 obtain ⟨fv,hf5,hfs⟩:=hC.fil x hx
 obtain ⟨fa,fcap,rfl,hfc,hfm,hfe⟩:=hfs.is
 have hfl2:(k.fills x).length≤6:=by
  have:=wL k x
  omega
 have hnum:=hcel (hC.tun x hx 4 _ rfl)
 simp only [Nat.zero_add] at hnum
 have hf5':=hcel hf5
 have hlx:=hcel (hlb x (.int .u64 (l.getD x 0:Nat)) (wF (l:=l) (i:=x) (by omega)))
 rw [Nat.zero_add] at hlx
 have hb7':=hcel hb7
 have hcelC:zO (Vw V' lr (.loop (jw fn (Ad (ptr lb) (ptr b7) f) #[43] KA KB D .busy none))) p k ts vv rv:=by
  have sl:∀ {v n sz get},pW V v n sz get→pW (Vw V' lr (.loop (jw fn (Ad (ptr lb) (ptr b7) f) #[43] KA KB D .busy none))) v n sz get:=fun ⟨a,cap,h1,h2,h3,h4⟩ =>
   ⟨a,cap,h1,h2,h3,fun hn=>by obtain ⟨g,off,h5,h6⟩:=h4 hn;exact ⟨g,off,h5,fun i hi j v hj=>hcel (h6 i hi j v hj)⟩⟩
  refine ⟨hcel hC.c0,hcel hC.c1,?_,sl hC.ves,sl hC.rdg,fun i hi j v hj=>hcel (hC.tun i hi j v hj),fun i hi=>?_,hC.pos,hC.le⟩
  ·obtain ⟨g,cap,h1,h2⟩:=hC.c2
   exact ⟨g,cap,hcel h1,fun i hi=>hcel (h2 i hi)⟩
  ·obtain ⟨v,h1,h2⟩:=hC.fil i hi
   exact ⟨v,hcel h1,sl h2⟩
 have hlb':(Vw V' lr (.loop (jw fn (Ad (ptr lb) (ptr b7) f) #[43] KA KB D .busy none))).Range lb 0 (mM l):=fun j v hj=>hcel (hlb j v hj)
 have hmiss:l.getD x 0≠0→nG k l x=false:=fun h=>by
  unfold nG
  rw [Bool.and_eq_false_iff]
  exact .inl (by simpa using h)
 have hfe':0 < (k.fills x).length→∃ g off,fa=some ⟨g,off,none⟩∧∀ i,i < (k.fills x).length→(Vw V' lr (.loop (jw fn (Ad (ptr lb) (ptr b7) f) #[43] KA KB D .busy none))).Range g (off+i * 1) [ptr (ts.getD ((k.fills x).getD i 0) 0)]:=fun h=>by
  obtain ⟨g,off,h1,h2⟩:=hfe h
  exact ⟨g,off,h1,fun i hi j v hj=>hcel (h2 i hi j v hj)⟩
 have hin:=fun hz=>OW (V:=Vw V' lr (.loop (jw fn (Ad (ptr lb) (ptr b7) f) #[43] KA KB D .busy none))) (lr:=lr) (w0:=w0) (pre:=pre) (fcap:=fcap) hcelC hl6 hlb' hb7' hx hn6 hnum rfl hfl2 hz hfe' (k.fills x).length 0 (Nat.zero_add _) (fun j hj=>nomatch hj)
 have hrun:(Instr.beginRound lr).run Tryd.prog w=.ok () (w.putObj lr (.loop (jw fn (Ad (ptr lb) (ptr b7) f) #[43] KA KB D .busy none))):=run_beginRound (P:=Tryd.prog) (hS.view lr _ hrec') rfl
 have hS1:=hsw hS
 generalize Vw V' lr (.loop (jw fn (Ad (ptr lb) (ptr b7) f) #[43] KA KB D .busy none))=VB at *
 generalize w.putObj lr (.loop (jw fn (Ad (ptr lb) (ptr b7) f) #[43] KA KB D .busy none))=w1 at *
 clear hfe hfe' hC hC1 hf5 hlb hb7 hV1lr hcelC hlb' hb7'
 generalize ts.getD x 0=tx at *
 have hx0:(0:Int)≤x:=by omega
 have hx6:(x:Int) < 6:=by omega
 have e43:=aa4 43 (ptr tx) (Ad (ptr lb) (ptr b7) f)
 have e44:(Ad (ptr lb) (ptr b7) f).setIfInBounds 43 (ptr tx)=#[f 0,f 1,f 2,f 3,f 4,f 5,.pointer (some ⟨lb,0,none⟩),.pointer (some ⟨b7,0,none⟩),f 8,f 9,f 10,f 11,f 12,f 13,f 14,f 15,f 16,f 17,f 18,f 19,f 20,f 21,f 22,f 23,f 24,f 25,f 26,f 27,f 28,f 29,f 30,f 31,f 32,f 33,f 34,f 35,f 36,f 37,f 38,f 39,f 40,f 41,f 42,.pointer (some ⟨tx,0,none⟩),f 44,f 45,f 46,f 47,f 48,f 49,f 50,f 51,f 52,f 53,f 54,f 55,f 56,f 57,f 58,f 59,f 60,f 61,f 62,f 63,f 64,f 65,f 66,f 67,f 68,f 69,f 70,f 71,f 72,f 73,f 74,f 75,f 76,f 77,f 78,f 79,f 80,f 81,f 82,f 83,f 84,f 85,f 86,f 87,f 88]:=rfl
 rw [e44] at e43
 show fV Tryd.prog (some lr) [] _ [.code KA,.beginRound,.code KB] ⟨((#[43]:Array Tmp).zip #[ptr tx]).foldl (fun (t:Array Value) (q:Tmp × Value)=>t.setIfInBounds q.1 q.2) (Ad (ptr lb) (ptr b7) f),[]⟩ w
 rw [e43]
 refine qF rfl ?_
 go_wp2_with (fail)
 refine FZ hrun ?_
 clear hS hrun hsw
 have hS:=hS1
 clear hS1
 refine fV.mono (S:=fun _ w'=>St w0 [] VB [.blk kb 4 (Cj k l (pre ++ [x]))] w') ?_ fun a w2 h=>hfin h
 refine EM (pV (pV (qF rfl ?_)))
 by_cases hz:l.getD x 0=0
 ·have hin':=hin hz
  rw [hz] at hlx
  clear hin hmiss
  go_wp2_with (((with_reducible refine gL ?_);refine nC hS rfl rfl rfl ?_);refine ⟨_,zd,?_⟩;clear hS;(try clear w');intro a' hp;(try simp only [fr] at hp);subst hp;intro w' hS;(try simp only [sE] at hS))
  refine wM (t:=false) rfl (JJ ?_)
  refine pV (pV (qF rfl ?_))
  go_wp2_with (((with_reducible refine gL ?_);refine nC hS rfl rfl rfl ?_);refine ⟨_,zd,?_⟩;clear hS;(try clear w');intro a' hp;(try simp only [fr] at hp);subst hp;intro w' hS;(try simp only [sE] at hS))
  refine EM (Xr ?_)
  have key:∀ (a:Act) (u:World),St w0 [] VB [.blk kb 4 (Cj k l pre)] u→a=⟨#[a.tmps.getD 0 undef,a.tmps.getD 1 undef,a.tmps.getD 2 undef,a.tmps.getD 3 undef,a.tmps.getD 4 undef,a.tmps.getD 5 undef,.pointer (some ⟨lb,0,none⟩),.pointer (some ⟨b7,0,none⟩),a.tmps.getD 8 undef,a.tmps.getD 9 undef,.pointer (some ⟨tx,0,none⟩),a.tmps.getD 11 undef,a.tmps.getD 12 undef,a.tmps.getD 13 undef,a.tmps.getD 14 undef,a.tmps.getD 15 undef,a.tmps.getD 16 undef,a.tmps.getD 17 undef,a.tmps.getD 18 undef,a.tmps.getD 19 undef,a.tmps.getD 20 undef,a.tmps.getD 21 undef,a.tmps.getD 22 undef,a.tmps.getD 23 undef,a.tmps.getD 24 undef,a.tmps.getD 25 undef,a.tmps.getD 26 undef,a.tmps.getD 27 undef,a.tmps.getD 28 undef,a.tmps.getD 29 undef,a.tmps.getD 30 undef,a.tmps.getD 31 undef,a.tmps.getD 32 undef,a.tmps.getD 33 undef,a.tmps.getD 34 undef,a.tmps.getD 35 undef,a.tmps.getD 36 undef,a.tmps.getD 37 undef,a.tmps.getD 38 undef,a.tmps.getD 39 undef,a.tmps.getD 40 undef,a.tmps.getD 41 undef,a.tmps.getD 42 undef,a.tmps.getD 43 undef,a.tmps.getD 44 undef,a.tmps.getD 45 undef,a.tmps.getD 46 undef,a.tmps.getD 47 undef,a.tmps.getD 48 undef,a.tmps.getD 49 undef,a.tmps.getD 50 undef,a.tmps.getD 51 undef,a.tmps.getD 52 undef,a.tmps.getD 53 undef,.slice fa (k.fills x).length fcap,.int .i64 (k.fills x).length,.int .i64 (0:Nat),a.tmps.getD 57 undef,a.tmps.getD 58 undef,a.tmps.getD 59 undef,a.tmps.getD 60 undef,a.tmps.getD 61 undef,a.tmps.getD 62 undef,a.tmps.getD 63 undef,a.tmps.getD 64 undef,a.tmps.getD 65 undef,a.tmps.getD 66 undef,a.tmps.getD 67 undef,a.tmps.getD 68 undef,a.tmps.getD 69 undef,a.tmps.getD 70 undef,a.tmps.getD 71 undef,a.tmps.getD 72 undef,a.tmps.getD 73 undef,a.tmps.getD 74 undef,a.tmps.getD 75 undef,a.tmps.getD 76 undef,a.tmps.getD 77 undef,a.tmps.getD 78 undef,a.tmps.getD 79 undef,a.tmps.getD 80 undef,a.tmps.getD 81 undef,a.tmps.getD 82 undef,a.tmps.getD 83 undef,a.tmps.getD 84 undef,a.tmps.getD 85 undef,a.tmps.getD 86 undef,a.tmps.getD 87 undef,a.tmps.getD 88 undef],[]⟩ →
    fV Tryd.prog (some lr) [] (fun _ w'=>St w0 [] VB [.blk kb 4 (Cj k l (pre ++ [x]))] w') [.code KIL,.inLoop KIL,.inBlock 4,.code Zr,.inBlock 3] a u:=fun a u hS ha=>by
   have h1:=hin' _ (fun j=>a.tmps.getD j undef) hS
   rw [ha]
   exact h1
  exact key _ _ hS rfl
 ·have hzb:(((l.getD x 0:Nat):Int) != 0)=true:=by
   have:((l.getD x 0:Nat):Int)≠0:=by omega
   simpa using this
  have HM:=JW k l pre (hmiss hz)
  clear hin hmiss
  generalize l.getD x 0=lx at hlx hz hzb
  have hz':¬ (lx:Int)=0:=by omega
  go_wp2_with (((with_reducible refine gL ?_);refine nC hS rfl rfl rfl ?_);refine ⟨_,zd,?_⟩;clear hS;(try clear w');intro a' hp;(try simp only [fr] at hp);subst hp;intro w' hS;(try simp only [sE] at hS))
  refine wM (t:=true) rfl (JQ rfl (Jj (tgt:=[]) ?_))
  rw [← HM]
  exact hS
end Go.Proofs.YtjjmefieegcddaaDoor
