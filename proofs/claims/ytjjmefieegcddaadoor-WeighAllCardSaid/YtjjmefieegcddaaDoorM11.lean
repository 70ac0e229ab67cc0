/- A part of the proof: T25, T26, W56, W57, W58, W59, W60, W61, W66, X1, W71, W72, W73, S21, S22, S23, S24, S25, W74, W75. -/
import Derived.Test.YtjjmefieegcddaaDoorM10
import Derived.RangeFuncRecord
import Derived.RangeFuncWrites
import Derived.OrdersHeld
import Derived.TacticsIn
import Derived.Test.YtjjmefieegcddaaDoorM08
import Derived.Scope
import Derived.Deep.OwnRows
import Derived.Shelf.Abstract
import Derived.Test.YtjjmefieegcddaaDoorM09
import Derived.Test.YtjjmefieegcddaaDoorRows
import Derived.Test.YtjjmefieegcddaaDoorM04
import Derived.ChangeSame
import Derived.ChangeVars
import Derived.JoinedOf
import Derived.RowKit
import Derived.RowKitTokens
import Derived.LaidLaws
import Derived.LaidHandle
import Derived.Stop.Joined
import Derived.Conc.LeavingOf
import Derived.Carry
import Derived.SevenTiedAt
set_option linter.unusedVariables false
set_option linter.unusedSimpArgs false
set_option maxHeartbeats 8000000
set_option maxRecDepth 20000
namespace Go.Tm
open Go
open Go.Conc
variable {P:Program}
def fV (P:Program) (ro:Option Nat) (tgt:List Item) (S:Act->World->Prop) (todo:List Item) (a:Act) (w:World):Prop :=
 ∀ (b:Frame) (cs:List Frame),b.kind=.normal->b.roundOf=ro->∃ a' w',S a' w'/\Steps P (lone (b.atR a todo) cs w) (lone (b.atR a' tgt) cs w')
section
variable {mid todo:List Item} {w':World} {id l:Nat} {assign body x y:Code} {f:FuncId} {S':Act->World->Prop}
variable {ro:Option Nat} {tgt k:List Item} {S:Act->World->Prop} {a:Act} {w:World}
theorem Jj (h:S a w):fV P ro tgt S tgt a w:=fun _ _ _ _=>⟨a,w,h,.refl _ _⟩
theorem mW {todo':List Item} {a':Act} (hs:∀ (b:Frame) (cs:List Frame),b.kind=.normal->b.roundOf=ro->step P (lone (b.atR a todo) cs w)=.next (lone (b.atR a' todo') cs w')) (h:fV P ro tgt S todo' a' w'):fV P ro tgt S todo a w:=by
 intro b cs hb hr;obtain⟨a2,w2,h1,h2⟩:=h b cs hb hr;exact⟨a2,w2,h1,.head (hs b cs hb hr) h2⟩
theorem JJ (h:fV P ro tgt S k a w):fV P ro tgt S (.code .skip::k) a w:=mW (fun _ _ _ _=>stepR_skip) h
theorem Vk (h:fV P ro tgt S k a w):fV P ro tgt S (.code (.label l)::k) a w:=mW (fun _ _ _ _=>stepR_label) h
theorem pV (h:fV P ro tgt S (.code x::.code y::k) a w):fV P ro tgt S (.code (.seq x y)::k) a w:=mW (fun _ _ _ _=>stepR_seq) h
theorem EM (h:fV P ro tgt S (.code x::.inBlock id::k) a w):fV P ro tgt S (.code (.block id x)::k) a w:=mW (fun _ _ _ _=>stepR_block) h
theorem EO (h:fV P ro tgt S k a w):fV P ro tgt S (.inBlock id::k) a w:=mW (fun _ _ _ _=>stepR_inBlock) h
theorem Xr (h:fV P ro tgt S (.code x::.inLoop x::k) a w):fV P ro tgt S (.code (.loop x)::k) a w:=mW (fun _ _ _ _=>stepR_loop) h
theorem Tf (h:fV P ro tgt S (.code x::.inLoop x::k) a w):fV P ro tgt S (.inLoop x::k) a w:=mW (fun _ _ _ _=>stepR_inLoop) h
theorem wM {o:Operand} {t:Bool} (hc:a.eval o=.bool t) (h:fV P ro tgt S (.code (if t then x else y)::k) a w):fV P ro tgt S (.code (.cond o x y)::k) a w:=mW (fun _ _ _ _=>stepR_cond hc) h
theorem JQ {k':List Item} (hk:exitTo id k=some k') (h:fV P ro tgt S k' a w):fV P ro tgt S (.code (.exit id)::k) a w:=mW (fun _ _ _ _=>stepR_exit hk) h
theorem UO {ops:Array Oper} {i:Nat} {rest:List Nat} {o:Oper} {tmps:Array Value} (ho:ops[i]? = some o) (hw:Region.wanted o (yielded ops a.tmps)=true) (hd:∀ c,o.op≠.defer c) (hr:(execOp a.eval o).run P w=.ok (.round l f tmps assign body) w')
 (h:fV P (some l) [] (fun _ w2=>∃ v w3,(Instr.endRound l none).run P w2=.ok v w3/\fV P ro tgt S (.inRegion ops rest::k) (a.put o.dst v) w3) [.code assign,.beginRound,.code body] ⟨tmps,[]⟩ w'):fV P ro tgt S (.inRegion ops (i::rest)::k) a w:=by
 intro b cs hb hro;let br:Frame:={(default:Frame)with fn:=f,kind:=.normal,roundOf:=some l};have hb0:Frame.round l f tmps assign body .normal=br.atR {tmps:=tmps,defers:=[]} [.code assign,.beginRound,.code body]:=by
  simp[Frame.round,Frame.atR,br]
 obtain⟨a1,w2,⟨v,w3,hend,hR⟩,hst⟩:=h br (b.atR a (.inRegion ops (i::rest)::k)::cs) rfl rfl;obtain⟨a',w4,hs,hst2⟩:=hR b cs hb hro;have hg:=stepGR_op (P:=P) (b:=b) (a:=a) (k:=k) (cs:=cs) (w:=w) (rest:=rest) ho hw;have henter:step P (lone (b.atR a (.inRegion ops (i::rest)::k)) cs w)=.next (lone (Frame.round l f tmps assign body .normal) (b.atR a (.inRegion ops (i::rest)::k)::cs) w') :=
  step_lone_go (by rw[hg,Oper.semAt_eq _ _ _ hd];simp[stepG.apply,hr,Frame.atR])
 have hfin:(b.atR a (.inRegion ops (i::rest)::k)).finish v=b.atR (a.put o.dst v) (.inRegion ops rest::k):=by rw[Frame.finish_atR,ho];rfl
 refine⟨a',w4,hs,.head henter ?_⟩;rw[hb0];refine Steps.trans hst (.head ?_ hst2);rw[<- hfin];exact stepR_round_end rfl rfl hend
theorem FZ (hr:(Instr.beginRound l).run P w=.ok () w') (h:fV P (some l) tgt S k a w'):fV P (some l) tgt S (.beginRound::k) a w :=
 mW (fun _ _ _ hb=>stepR_beginRound hb hr) h
theorem fV.mono (h:fV P ro tgt S todo a w) (hs:∀ a w,S a w->S' a w):fV P ro tgt S' todo a w:=fun b cs hb hr=>by
 obtain⟨a',w',h1,h2⟩:=h b cs hb hr;exact⟨a',w',hs _ _ h1,h2⟩
theorem fV.bind (h:fV P ro mid S' todo a w) (hs:∀ a w,S' a w->fV P ro tgt S mid a w):fV P ro tgt S todo a w:=fun b cs hb hr=>by
 obtain⟨a',w',h1,h2⟩:=h b cs hb hr;obtain⟨a2,w2,h3,h4⟩:=hs _ _ h1 b cs hb hr;exact⟨a2,w2,h3,Steps.trans h2 h4⟩
theorem Gs (h:fV P none tgt S todo a w):fA P tgt S todo a w:=fun b cs hb=>by
 obtain⟨a',w',h1,h2⟩:=h {b with roundOf:=none} cs hb rfl;exact⟨a',w',h1,h2⟩
theorem GN (h:fA P tgt S todo a w):fV P none tgt S todo a w:=fun b cs hb hr=>by
 obtain⟨a',w',h1,h2⟩:=h b cs hb;refine⟨a',w',h1,?_⟩;rw[Frame.atR_of_none hr,Frame.atR_of_none hr];exact h2
theorem fA.bind (h:fA P mid S' todo a w) (hs:∀ a w,S' a w->fA P tgt S mid a w):fA P tgt S todo a w:=fun b cs hb=>by
 obtain⟨a',w',h1,h2⟩:=h b cs hb;obtain⟨a2,w2,h3,h4⟩:=hs _ _ h1 b cs hb;exact⟨a2,w2,h3,Steps.trans h2 h4⟩
theorem Qp {n:Nat} (h:x.wpIn (Fence.wide.inRound l) n P (fun e a' w'=>e=.normal/\fV P (some l) tgt S k a' w') a w):fV P (some l) tgt S (.code x::k) a w:=by
 intro b cs hb hr;obtain⟨e,a1,w1,⟨rfl,hR⟩,harr⟩:=h b k cs hr trivial (room_wide _);obtain⟨a',w',hs,hst⟩:=hR b cs hb hr;exact⟨a',w',hs,Steps.trans (StepsIn.steps harr) hst⟩
def jw (fn:FuncId) (tmps:Array Value) (ps:Array Tmp) (assign body:Code) (D:Nat) (st:LoopState) (pe:Option Code):Loop :=
 {state:=st,pending:=pe,fn,tmps,params:=ps,assign,body,defers:=D}
theorem FV {g:Operand} {ps:Array Tmp} {gf:Nat} {lb:Array Value} (hg:a.eval g=.func (.func gf) #[] lb) (eg:∀ args w,(callFunc gf args).run P w=.ok (.enter gf args) w)
  (h:∀ fn,Calls P gf (#[.func (.yield (w.heap.size+1)) #[] #[]] ++ lb) ((w.alloc (.deferred (some []))).alloc (.loop (jw fn a.tmps ps assign body w.heap.size .ready none))) fun e w3=>∃ v,e=.returned v /\
   w3.heap[w.heap.size+1]? = some (.loop (jw fn a.tmps ps assign body w.heap.size .ready none)) /\
   fA P tgt S k {a with defers:={target:=.collected w.heap.size,args:=#[]}::a.defers} (w3.putObj (w.heap.size+1) (.loop (jw fn a.tmps ps assign body w.heap.size .exhausted none)))) :
  fA P tgt S (.code (.rangeFunc g ps assign body)::k) a w:=by
 refine aA (wpIn_wide.1 (wpIn_rangeFunc (n:=1) fun fn _=>?_));have hc:=h fn;obtain⟨W1,hW1⟩:∃ W1,(w.alloc (.deferred (some []))).alloc (.loop (jw fn a.tmps ps assign body w.heap.size .ready none))=W1:=⟨_,rfl⟩;rw[hW1]at hc;refine⟨w.heap.size+1,[{target:=.collected w.heap.size,args:=#[]}],W1,{target:=.fn (.func gf) lb,args:=#[.func (.yield (w.heap.size+1)) #[] #[]]},W1,gf,
  #[.func (.yield (w.heap.size+1)) #[] #[]] ++ lb,W1,?_,?_,fun _ _=>trivial,?_,fun _=>Nat.le_refl _,callsIn_wide.2 ?_⟩
 ·rw[<- hW1];exact run_enterLoop_outer _ _ _ _ _
 ·simp only[resolve,hg];simp[go_sem]
 ·simp[invoke,go_sem,eg]
 ·refine hc.mono ?_;rintro e w3 ⟨v,rfl,h1,h2⟩;exact⟨none,_,run_endLoop h1 (by simp[jw]),rfl,h2⟩
def shutAll:List Nat->World->World
 | [],w=>w
 |d::ds,w=>shutAll ds (w.putObj d (.deferred none))
def marks (ds:List Nat):List Deferred:=ds.map fun d=>{target:=.collected d,args:=#[]}
theorem xk {ds:List Nat} {w:World} {j:Nat} (h:j ∉ ds):(shutAll ds w).heap[j]? = w.heap[j]?:=by
 induction ds generalizing w with
 |nil=>rfl
 |cons d ds ih =>
  rw[shutAll,ih (fun hj=>h (List.mem_cons_of_mem _ hj)),World.putObj_heap_other (fun e=>h (by rw[e];exact List.mem_cons_self ..))]
theorem Jo {ds:List Nat} {w:World}:(shutAll ds w).heap.size=w.heap.size:=by
 induction ds generalizing w with
 |nil=>rfl
 |cons d ds ih=>rw[shutAll,ih,World.putObj_size]
theorem Dp {ds:List Nat} {w:World}:(shutAll ds w).os=w.os/\(shutAll ds w).output=w.output:=by
 induction ds generalizing w with
 |nil=>exact⟨rfl,rfl⟩
 |cons d ds ih=>rw[shutAll];exact ih
theorem MZ {fr:Frame} {cs:List Frame} {ds:List Nat} {w:World} (hm:fr.mode=.returning) (hd:fr.defers=marks ds) (hn:ds.Nodup) (hh:∀ d∈ds,w.heap[d]? = some (.deferred (some []))) :
  Steps P (lone fr cs w) (lone {fr with defers:=[]} cs (shutAll ds w)):=by
 induction ds generalizing fr w with
 |nil =>
  have:{fr with defers:=[]}=fr:=by cases fr;simp only[marks,List.map_nil]at hd;subst hd;rfl
  rw[this];exact .refl _ _
 | cons d ds ih =>
  have h1:=step_collected (P:=P) (cs:=cs) (fr:=fr) (d:={target:=.collected d,args:=#[]}) (ds:=marks ds) (by rw[hm];simp) hd rfl (run_takeDeferred (hh d (List.mem_cons_self ..)));have hnd:=List.nodup_cons.1 hn;refine .head h1 ?_;have:=ih (fr:={fr with defers:=[] ++ marks ds}) (w:=w.putObj d (.deferred none)) hm rfl hnd.2 fun x hx=>by
   rw[World.putObj_heap_other (fun e=>hnd.1 (by rw[<- e];exact hx))];exact hh x (List.mem_cons_of_mem _ hx)
  exact this
theorem yU {fn:Func} {c:Code} {args:Array Value} {R:Ending->World->Prop} {k0:List Item} (hf:P.funcs[f]? = some fn) (hb:fn.body=some c)
  (h:fA P (.code .ret::k0) (fun a' w'=>∃ ds v,a'.defers=marks ds/\ds.Nodup/\(∀ d∈ds,w'.heap[d]? = some (.deferred (some [])))/\(results fn a'.tmps).run P (shutAll ds w')=.ok v (shutAll ds w')/\R (.returned v) (shutAll ds w'))
   [.code c] {tmps:=args ++ Array.replicate (fn.ntmps-args.size) undef,defers:=[]} w):Calls P f args w R:=by
 intro cs;let b:Frame:={(default:Frame)with fn:=f,kind:=.normal,roundOf:=none};have henter:Frame.enter P f args .normal=b.at {tmps:=args ++ Array.replicate (fn.ntmps-args.size) undef,defers:=[]} [.code c]:=by
  simp[Frame.enter,Frame.at,hf,hb,b]
 obtain⟨a',w',⟨ds,v,hd,hn,hh,hrs,hR⟩,hst⟩:=h b cs rfl;refine⟨.returned v,shutAll ds w',{ {b.at a' (.code .ret::k0)with mode:=.returning}with defers:=[]},hR,?_,rfl,?_⟩
 ·rw[henter];refine Steps.trans hst (.head (m₁:=lone {b.at a' (.code .ret::k0)with mode:=.returning} cs w') ?_ (MZ rfl hd hn hh));have:=stepR_ret (P:=P) (b:=b) (a:=a') (k:=k0) (cs:=cs) (w:=w') rfl;exact this
 ·exact⟨rfl,rfl,rfl,fn,hf,hrs⟩
end
def EP (o:Oper):Bool:=match o.op with
 |.defer _=>false
 |_=>true
theorem LW {o:Oper} (h:EP o=true):∀ c,o.op≠.defer c:=by
 intro c hc;simp[EP,hc]at h
theorem O5 {l n:Nat} {row:String} {args:Array Value} {w:World} {R:Value->World->Prop} (h:Rows P row args w R):RowsIn (Fence.wide.inRound l) n P row args w R:=fun c cs _=>by
 obtain⟨v,w',r,s⟩:=h c cs;exact⟨v,w',r,stepsIn_wide.2 s⟩
theorem Xk {l n:Nat} {o:Oper} {a:Act} {next next':Act->World->Prop} {Q:Exit->Act->World->Prop} {r:Result Next} (hn:∀ a w,next a w->next' a w) (h:o.upon P a next Q r):o.uponIn (Fence.wide.inRound l) n P a next' Q r:=by
 cases r with
 | ok nx w' =>
  cases nx with
  |value v=>exact hn _ _ h
  |skip=>exact hn _ _ h
  |defer d=>exact hn _ _ h
  |enter f args =>
   refine And.intro (fun h=>Bool.noConfusion (show false=true from h)) (callsIn_wide.2 (Calls.mono h fun e w'' he=>?_));cases e with
   |returned v=>exact hn _ _ he
   |panicked c=>exact he
   |outgrown=>exact he
  |row row args=>exact And.intro (fun h=>Bool.noConfusion (show false=true from h)) (O5 (Rows.mono h fun u w'' he=>hn _ _ he))
  |_=>exact h.elim
 |halt x w' =>
  cases x with
  |panic u=>exact h
  |_=>exact h.elim
theorem Yp {l n:Nat} {o:Oper} {a:Act} {w:World} {next next':Act->World->Prop} {Q:Exit->Act->World->Prop} (hd:EP o=true) (hn:∀ a w,next a w->next' a w) (h:o.wp P a w next Q):o.wpIn (Fence.wide.inRound l) n P a w next' Q:=by
 refine⟨fun _ _=>trivial,?_⟩;have e:o.semAt (Fence.wide.inRound l).round a.eval=execOp a.eval o:=Oper.semAt_eq _ _ _ (LW hd);rw[e];exact Xk hn h
theorem Am {l n:Nat} {ops:Array Oper} {Q:Exit->Act->World->Prop} (hQ:¬ LetsOut Q):∀ (os:List Oper),os.all EP=true->∀ (a:Act) (w:World),wpList P ops Q os a w->wpListIn (Fence.wide.inRound l) n P ops Q os a w
 | [],_,_,_,h=>h
 | o::os,hd,a,w,h=>by
  rw[List.all_cons,Bool.and_eq_true]at hd;simp only[wpList,wpListIn]at h |-;split at h
  ·rename_i hw;rw [if_pos hw];rcases h with h | h
   ·exact Yp hd.1 (fun a w h=>Am hQ os hd.2 a w h) h
   ·exact(hQ h.2).elim
  ·rename_i hw;rw[if_neg hw];exact⟨fun _ _=>trivial,Am hQ os hd.2 _ _ h⟩
theorem akX {l n:Nat} {ops:Array Oper} {Q:Exit->Act->World->Prop} (hQ:¬ LetsOut Q) (hd:∀ (i:Nat) (o:Oper),ops[i]? = some o->EP o=true):∀ (is:List Nat) (a:Act) (w:World),wpOps P ops Q is a w->wpOpsIn (Fence.wide.inRound l) n P ops Q is a w
 | [],_,_,h=>h
 | i::is,a,w,h=>by
  simp only[wpOps,wpOpsIn]at h |-;cases ho:ops[i]? with
  |none =>
   simp only[ho]at h |-;exact akX hQ hd is a w h
  | some o =>
   simp only[ho]at h |-;split at h
   ·rename_i hw;rw [if_pos hw];rcases h with h | h
    ·exact Yp (hd i o ho) (fun a w h=>akX hQ hd is a w h) h
    ·exact(hQ h.2).elim
   ·rename_i hw;rw[if_neg hw];exact⟨fun _ _=>trivial,akX hQ hd is _ _ h⟩
section
variable {id:Nat} {os:List Oper}
variable {tgt k:List Item} {S:Act->World->Prop} {a:Act} {w:World} {l:Nat}
theorem YC {R:Act->World->Prop}:¬ LetsOut (fun e a' w'=>e=Exit.normal/\R a' w'):=fun⟨_,_,h⟩=>nomatch h.1
theorem qF (hd:os.all EP=true) (h:wpList P os.toArray (fun e a' w'=>e=.normal/\fV P (some l) tgt S k a' w') os a w):fV P (some l) tgt S (.code (.region id os.toArray false)::k) a w :=
 Qp (n:=0) (wpIn_region_lit (Am YC _ hd _ _ h))
theorem Yg {S0:World->Prop} (bs:List Bool) (hb:bs=List.replicate os.length false) (hm:P.follows .mixedOrders=true) (hd:os.all EP=true)
 (h:wpAnyH P .any os.toArray (fun e a' w'=>e=.normal/\fV P (some l) tgt S k a' w') S0 os.length bs.toArray a {w with drawn:=w.drawn+1}):fV P (some l) tgt S (.code (.region id os.toArray true)::k) a w:=by
 subst hb;have e:(List.replicate os.length false).toArray=Array.replicate os.toArray.size false:=by apply Array.ext';simp
 rw[e,show os.length=os.toArray.size by simp]at h;refine Qp (n:=0) (wpIn_region_draw fun t=>?_);refine akX YC (fun i o ho=>?_) _ _ _ ?_
 ·have:os[i]? = some o:=by simpa using ho
  exact List.all_eq_true.1 hd o (List.mem_of_getElem? this)
 ·simp only[Region.schedule,hm,Bool.true_or,if_true];exact wpAny_sound _ t _ a _ (wpAny_of_held _ _ _ _ h)
end
end Go.Tm
namespace Go.Proofs.YtjjmefieegcddaaDoor
open Go.RowKit Go.Wg Go.Mm Go.Wk
open Go Go.Sr Go.Ph Go.Tm Go.Conc
variable {b7 bt i j kb lb lr n p:Nat} {w0:World} {X ds l ts:List Nat} {L:List dF} {o:Obj} {ρ:Operand->Value} {k:Wk} {rv vv:Value} {c:Code} {tgt:List Item} {S:Act->World->Prop} {a:Act}
variable {w:World} {V:View}
def Vw (V:View) (j:Nat) (o:Obj):View:=fun i=>if i=j then some o else V i
theorem Vw.same (V:View) (j:Nat) (o:Obj):Vw V j o j=some o:=by simp[Vw]
theorem Vw.other (V:View) (o:Obj) (h:i≠j):Vw V j o i=V i:=by simp[Vw,h]
theorem Jp (h:St w0 X V L w) (hj:w0.heap.size<=j) (hv:V j=some o) (o':Obj):St w0 X (Vw V j o') L (w.putObj j o'):=by
 have hlt:j<w.heap.size:=lt_of_heap (h.view j o hv);have hne:∀ e∈L,∀ b,e.foot=some b->b≠j:=fun e he b hb hbj=>by
  have:=h.off e he b hb;rw[hbj,hv]at this;cases this
 refine⟨h.os,h.output,by rw[World.putObj_size];exact h.size,fun k hk hx=>?_,fun k u hk=>?_,fun e he=>?_,h.new,fun e he b hb=>?_,h.nd⟩
 ·rw[World.putObj_heap_other zw];exact h.old k hk hx
 ·by_cases e:k=j
  ·subst e;rw[Vw.same]at hk;cases hk;exact World.putObj_heap_same hlt
  ·rw[Vw.other V o' e]at hk;rw[World.putObj_heap_other e];exact h.view k u hk
 ·exact(h.has e he).of_heap fun g hg=>World.putObj_heap_other (hne e he g hg)
 ·rw[Vw.other V o' (hne e he b hb)];exact h.off e he b hb
theorem Vw.back {V:View} {o':Obj} (hv:V j=some o):∀ k u,V k=some u->Vw (Vw V j o') j o k=some u:=fun k u hk=>by
 by_cases e:k=j
 ·subst e;rw[Vw.same];rw[hv]at hk;exact hk
 ·rw[Vw.other _ _ e,Vw.other _ _ e];exact hk
theorem Vw.sub {V:View} (hv:V j=none):∀ k u,V k=some u->Vw V j o k=some u:=fun k u hk=>by
 by_cases e:k=j
 ·subst e;rw[hv]at hk;cases hk
 ·rw[Vw.other _ _ e];exact hk
theorem LD {o:Oper} {x y:Operand} {ats:Array TypeId} {l:Nat} {r:Loop} {v:Value} (ho:o.op=.call {callee:=.value x,args:=#[y],argTypes:=ats}) (hx:ρ x=.func (.yield l) #[] #[]) (hy:ρ y=v)
 (h:w.heap[l]? = some (.loop r)) (hs:r.params.size=1):(execOp ρ o).run Tryd.prog w=.ok (.round l r.fn ((r.params.zip #[v]).foldl (fun t (p,u)=>t.setIfInBounds p u) r.tmps) r.assign r.body) w:=by
 have hr:=run_yield (P:=Tryd.prog) (args:=#[v]) h (by rw[hs];rfl);unfold execOp;simp[ho,resolve,invoke,hx,hy,go_sem,hr]
theorem kP (ti:Nat) (w:World):Calls Tryd.prog 94 #[ptr ti] w fun e w'=>∃ g,e=.returned (.func (.func 121) #[] #[ptr g])/\Kp w w'/\w.heap.size<=g/\w'.heap[g]? = some (.cells [ptr ti].toArray 124 (0,0)):=by
 have hS:=St.start w (fun _=>none) (fun k o h=>by cases h);unfold ptr;go_enter Tryd.func94,Tryd.ntmps94
 go_wp2_with (refine yb 1 ?_;clear hS;intro b1 w' hS)
 (refine yj ?_;refine bK ⟨_,by exact bH (r1:=.tmp 2) zk (by exact bD rfl),?_⟩ rfl)
 exact⟨b1,rfl,hS.bM,hS.newAt (b:=b1),hS.dR (b:=b1)⟩
def Jq (w0:World) (V:View) (kb:Nat) (c:List Nat->List Value) (lr:Nat) (rec:Loop) (n:Nat) (ts:List Nat):Prop :=
 ∀ V':View,(∀ j u,V j=some u->V' j=some u)->∀ (pre:List Nat) (x:Nat) (w:World),x < n->St w0 [] V' [.blk kb 4 (c pre)] w ->
  fV Tryd.prog (some lr) [] (fun _ w2=>∃ w3,(Instr.endRound lr none).run Tryd.prog w2=.ok (.bool true) w3/\St w0 [] V' [.blk kb 4 (c (pre ++ [x]))] w3)
   [.code rec.assign,.beginRound,.code rec.body] ⟨(rec.params.zip #[ptr (ts.getD x 0)]).foldl (fun t (p,u)=>t.setIfInBounds p u) rec.tmps,[]⟩ w
noncomputable def abh:Code:=match Tryd.f122.body with|some c=>c|none=>.skip
theorem Xq {p:Nat} {k:Wk} {ts:List Nat} {vv rv:Value} (hC:zO V p k ts vv rv) (hok:k.Ok) {w0:World} {kb lr by_ bf:Nat} {c:List Nat->List Value} {rec:Loop}
  (hby:V.Cell by_ 0 (.func (.yield lr) #[] #[])) (hbf:V.Cell bf 0 (.func (.func 122) #[] #[ptr by_,ptr bf])) (hrec:V lr=some (.loop rec)) (hps:rec.params.size=1) (hround:Jq w0 V kb c lr rec k.n ts) :
  ∀ (f i:Nat),i<k.n->k.n-i<=f->∀ pre w,St w0 [] V [.blk kb 4 (c pre)] w ->
   Calls Tryd.prog 122 #[ptr (ts.getD i 0),ptr by_,ptr bf] w fun e w'=>e=.returned (.bool true)/\St w0 [] V [.blk kb 4 (c (pre ++ Cb k f i))] w':=by
 intro f
 induction f with
 |zero=>intro i hi hf;omega
 | succ f ih =>
  intro i hi hf pre w hS;have hR:=hround V (fun _ _ h=>h) pre i w hi hS;obtain⟨fv,hf5,hfs⟩:=hC.fil i hi;obtain⟨fa,fcap,rfl,hfc,hfm,hfe⟩:=hfs.is;have hfl2:(k.fills i).length<=6:=by
   have:=wL k i;have:=hC.le;omega
  refine yU (k0:=[]) Tryd.func122 (show Tryd.f122.body=some abh from rfl) ?_;have e22:Tryd.f122.ntmps-(#[ptr (ts.getD i 0),ptr by_,ptr bf]:Array Value).size=22:=by kernel_rfl
  rw[e22];have hcy:=hby.cell hS.view;have hcl:=hS.view lr _ hrec;unfold ptr at *
  generalize ts.getD i 0=ti at *;simp only[Array.replicate_succ,Array.replicate_zero,List.push_toArray,List.append_toArray,List.nil_append,List.cons_append];refine au (aA ?_);go_wp2_with (fail)
  refine au (au (ig ?_));refine cO (i:=0) (v:=.func (.yield lr) #[] #[]) (w':=w) rfl rfl (fP rfl rfl zk hcy) ?_;refine cO (i:=1) (v:=.pointer (some ⟨ti,0,none⟩)) (w':=w) rfl rfl rfl ?_;refine Gs (UO (i:=2) rfl rfl (LW rfl) (LD rfl rfl rfl hcl hps) (hR.mono ?_));rintro a w2 ⟨w3,hend,hS3⟩;refine⟨_,w3,hend,GN ?_⟩;clear hS hR hcy hcl;have hS:=hS3;clear hS3;refine cO (i:=3) (v:=.bool false) (w':=w3) rfl rfl rfl ?_;refine dH (dZ (t:=false) rfl (lu ?_));have HB:Cb k (f+1) i=i::(k.fills i).flatMap (Cb k f):=by rw[Cb]
  have hmem:∀ q,q<(k.fills i).length->i<(k.fills i).getD q 0/\(k.fills i).getD q 0<k.n:=fun q hq=>by
   refine rV hok ?_;rw[List.getD_eq_getElem?_getD,List.getElem?_eq_getElem hq];exact List.getElem_mem _
  have hihq:=fun q (hq:q<(k.fills i).length) pre w hS=>ih ((k.fills i).getD q 0) (hmem q hq).2 (by have:=(hmem q hq).1;omega) pre w hS
  have hst:∀ q,q<(k.fills i).length->pre ++ [i] ++ ((k.fills i).take (q+1)).flatMap (Cb k f)=pre ++ [i] ++ ((k.fills i).take q).flatMap (Cb k f) ++ Cb k f ((k.fills i).getD q 0):=fun q hq=>by
   rw[List.take_add_one,List.getElem?_eq_getElem hq,List.flatMap_append,List.getD_eq_getElem?_getD,List.getElem?_eq_getElem hq];simp
  have hS0:St w0 [] V [.blk kb 4 (c (pre ++ [i] ++ ((k.fills i).take 0).flatMap (Cb k f)))] w3:=by simpa using hS
  have hfin:pre ++ Cb k (f+1) i=pre ++ [i] ++ ((k.fills i).take (k.fills i).length).flatMap (Cb k f):=by rw[HB,List.take_length];simp
  rw[hfin];clear HB hmem ih hround hS hfin;have hS:=hS0;clear hS0;generalize hfl:k.fills i=fl at *;refine au (aA ?_);go_wp2_with (refine yy ?_;clear hS;intro w' hS)
  go_loopw [16] (fun qv wr=>∃ q:Nat,q<=fl.length/\qv=.int .i64 (q:Int)/\St w0 [] V [.blk kb 4 (c (pre ++ [i] ++ (fl.take q).flatMap (Cb k f)))] wr) (fun qv _=>fl.length-(intOf qv).toNat)
  case atStart=>exact⟨0,by omega,rfl,hS⟩
  case round =>
   clear hS;obtain⟨q,hq,rfl,hS⟩:=hrel;by_cases hql:q<fl.length
   ·have hq1:(q:Int) < fl.length:=by omega
    have hq0:(0:Int)<=q:=by omega
    obtain⟨fg,fo,rfl,hfr⟩:=hfe zw;have hpx:=hfr q hql 0 _ rfl;have hihx:=hihq q hql;have hstq:=hst q hql;simp only[Nat.mul_one,Nat.add_zero]at hpx;generalize ts.getD (fl.getD q 0) 0=tx at hpx hihx;generalize Cb k f (fl.getD q 0)=br at hihx hstq;generalize pre ++ [i] ++ (fl.take q).flatMap (Cb k f)=cur at hS hstq;clear hfr hihq hst hfe;replace hstq:=aj hstq;go_wp2_with (first|(refine yy ?_;clear hS;intro w' hS)|(go_at_call 122;refine(hihx _ _ hS).mono ?_;clear hihx hS;rintro e w' ⟨rfl,hS⟩))
    go_roundw
    case rel=>exact⟨q+1,by omega,by go_num,by rw[hstq.out];exact hS⟩
    case measure=>simp only[intOf];omega
   ·obtain rfl:q=fl.length:=by omega
    clear hihq hst hfe;go_wp2_with (fail)
    refine au (aA ?_);go_wp2_with (fail)
    refine bG (tgt:=[.code .ret]) ?_;refine⟨[],rfl,List.nodup_nil,(fun d hd=>nomatch hd),.bool true,?_,rfl,?_⟩
    ·exact results_tmp (t:=4) rfl _ _ _
    ·simp only[List.take_length,List.append_assoc,List.cons_append,List.nil_append]at hS;exact hS
theorem XZ (hC:zO V p k ts vv rv) (hok:k.Ok) {c:List Nat->List Value} {rec:Loop} (i:Nat) (hi:i<k.n)
 (hbt:V.Cell bt 0 (ptr (ts.getD i 0))) (hrec:V lr=some (.loop rec)) (hps:rec.params.size=1) (hround:Jq w0 V kb c lr rec k.n ts) (pre:List Nat) (hS:St w0 [] V [.blk kb 4 (c pre)] w) :
  Calls Tryd.prog 121 #[.func (.yield lr) #[] #[],ptr bt] w fun e w'=>∃ v,e=.returned v/\St w0 [] V [.blk kb 4 (c (pre ++ Cb k (k.n-i) i))] w':=by
 have hfr:=fun V1 (hV1:∀ j u,V j=some u->V1 j=some u) by_ bf h1 h2 w hS=>Xq (V:=V1) (hC.mono hV1) hok (w0:=w0) (kb:=kb) (lr:=lr) (by_:=by_) (bf:=bf) (c:=c) (rec:=rec) h1 h2 (hV1 _ _ hrec) hps (fun V' h=>hround V' fun j u hj=>h j u (hV1 j u hj)) (k.n-i) i hi (Nat.le_refl _) pre w hS
 unfold ptr at *;generalize ts.getD i 0=ti at *;clear hround;go_enter Tryd.func121,Tryd.ntmps121
 go_wp2_with (first|(refine ym ?_;clear hS;intro w' hS)|(refine ys ?_;clear hS;intro w' hS)|(refine ye ?_;clear hS;intro _ w' hS)|(refine yf ?_;clear hS;intro _ w' hS)|(go_at_call 122;obtain⟨V1,hV1,hc1,hS1⟩:=pin hS;obtain⟨V2,hV2,hc2,hS2⟩:=pin hS1;refine(hfr V2 (fun j u h=>hV2 _ _ (hV1 _ _ h)) _ _ (hc2 0 _ rfl) ((hc1 0 _ rfl).mono hV2) _ hS2).mono ?_;clear hS hS1 hS2;rintro e w' ⟨rfl,hS⟩))
 (refine yj ?_;refine bK ⟨_,by exact FB  zk,?_⟩ rfl)
 exact⟨_,rfl,hS.weaken fun j u h=>hV2 _ _ (hV1 _ _ h)⟩
noncomputable def B34:Code:=match Tryd.f34.body with|some c=>c|none=>.skip
noncomputable def K6:Code:=match B34 with | .seq _ (.seq _ (.seq _ (.seq _ (.seq _ r))))=>r|_=>.skip
noncomputable def KL:Code:=match K6 with | .seq (.seq _ (.block _ (.loop l))) _=>l|_=>.skip
noncomputable def KT:Code:=match K6 with | .seq _ r=>r|_=>.skip
noncomputable def KSc:Code:=match KL with | .seq _ (.seq _ (.seq (.block _ (.seq _ (.scope c))) _))=>c|_=>.skip
noncomputable def Z7:Code:=match KL with | .seq _ (.seq _ (.seq _ c))=>c|_=>.skip
noncomputable def KA:Code:=match KSc with | .seq _ (.seq _ (.block _ (.rangeFunc _ _ a _)))=>a|_=>.skip
noncomputable def KB:Code:=match KSc with | .seq _ (.seq _ (.block _ (.rangeFunc _ _ _ b)))=>b|_=>.skip
noncomputable def KIL:Code:=match KB with | .block _ (.seq _ (.seq (.seq _ (.block _ (.loop l))) _))=>l|_=>.skip
noncomputable def Zr:Code:=match KB with | .block _ (.seq _ (.seq _ c))=>c|_=>.skip
theorem OW {lr lb b7 kb tx x:Nat} {k:Wk} {l pre:List Nat} {ts fl:List Nat} {w0:World} {fa:Option Addr} {fcap:Nat} {p:Nat} {vv rv:Value} (hC:zO V p k ts vv rv) (hl6:l.length=6) (hlb:V.Range lb 0 (mM l)) (hb7:V.Cell b7 0 (.slice (some ⟨kb,0,none⟩) k.n k.n))
  (hx:x<k.n) (hn6:k.n<=6) (hnum:V.Cell tx 4 (.int .i64 (x:Int))) (hfl:k.fills x=fl) (hfl2:fl.length<=6) (hx0:l.getD x 0=0)
  (hfe:0<fl.length->∃ g off,fa=some ⟨g,off,none⟩/\∀ i,i<fl.length->V.Range g (off+i * 1) [ptr (ts.getD (fl.getD i 0) 0)]) :
  ∀ (m q:Nat),q+m=fl.length->(∀ j,j < q->l.getD (fl.getD j 0) 0≠0)->∀ (w:World) (f:Nat->Value),St w0 [] V [.blk kb 4 (Cj k l pre)] w ->
   fV Tryd.prog (some lr) [] (fun _ w'=>St w0 [] V [.blk kb 4 (Cj k l (pre ++ [x]))] w') [.code KIL,.inLoop KIL,.inBlock 4,.code Zr,.inBlock 3]
    ⟨#[f 0,f 1,f 2,f 3,f 4,f 5,.pointer (some ⟨lb,0,none⟩),.pointer (some ⟨b7,0,none⟩),f 8,f 9,.pointer (some ⟨tx,0,none⟩),f 11,f 12,f 13,f 14,f 15,f 16,f 17,f 18,f 19,f 20,f 21,f 22,f 23,f 24,f 25,f 26,f 27,f 28,f 29,f 30,f 31,f 32,f 33,f 34,f 35,f 36,f 37,f 38,f 39,f 40,f 41,f 42,f 43,f 44,f 45,f 46,f 47,f 48,f 49,f 50,f 51,f 52,f 53,.slice fa fl.length fcap,.int .i64 fl.length,.int .i64 q,f 57,f 58,f 59,f 60,f 61,f 62,f 63,f 64,f 65,f 66,f 67,f 68,f 69,f 70,f 71,f 72,f 73,f 74,f 75,f 76,f 77,f 78,f 79,f 80,f 81,f 82,f 83,f 84,f 85,f 86,f 87,f 88],[]⟩ w:=by
 intro m
 induction m with
 | zero =>
  intro q hq hall w f hS;obtain rfl:q=fl.length:=by omega
  have hkn:nG k l x=true:=by
   unfold nG;rw[hx0,hfl];simp only[beq_self_eq_true,Bool.true_and,List.all_eq_true];intro y hy;obtain⟨j,hj,rfl⟩:=List.getElem_of_mem hy;have e:fl.getD j 0=fl[j]:=by simp[List.getD_eq_getElem?_getD,hj]
   have:=hall j hj;rw[e]at this;simpa using this
  have HS:=X0 k l pre hx hkn;have HN:=zC k l pre;have h0:(0:Int)<=x:=by omega
  have h1:(x:Int)<k.n:=by omega
  replace HS:=aj HS;clear hall hkn hfe;refine pV (qF rfl ?_);go_wp2_with (fail)
  refine pV (wM (t:=false) rfl (JQ rfl ?_));(refine Yg (S0:=(St w0 [] V [])) (List.replicate 7 false) rfl zk rfl ?_;replace hS:=St.eY hS;(refine yh [.c 0,.m 1,.p 2,.p 3,.c 4,.p 5] ?_);(((refine jl 6 zk rfl hS rfl  rfl rfl ?_;refine⟨_,zd,?_⟩));clear hS;refine zH ?_;intro w' hS;(try simp only[sE]at hS);refine⟨(St.aG hS),?_⟩);refine wpAnyH_done zk ?_ _)
  refine⟨rfl,?_⟩;refine EO (Jj (tgt:=[]) ?_);rw[<- HS.out];exact hS
 | succ m ih =>
  intro q hq hall w f hS;have hql:q<fl.length:=by omega
  have hq1:(q:Int)<fl.length:=by omega
  have hq0:(0:Int)<=q:=by omega
  obtain⟨fg,fo,rfl,hfr⟩:=hfe zw;have hpx:=hfr q hql 0 _ rfl;simp only[Nat.mul_one,Nat.add_zero]at hpx;have hym:fl.getD q 0∈k.fills x:=by
   rw[hfl,List.getD_eq_getElem?_getD,List.getElem?_eq_getElem hql];exact List.getElem_mem _
  have hyn:fl.getD q 0<k.n:=List.mem_range.1 (List.mem_filter.1 hym).1;have hlast:∀ j,j<q+1->l.getD (fl.getD q 0) 0≠0->l.getD (fl.getD j 0) 0≠0:=fun j hj h=>by
   rcases Nat.lt_succ_iff_lt_or_eq.1 hj with h1|rfl
   ·exact hall j h1
   ·exact h
  have hihq:=fun(h:l.getD (fl.getD q 0) 0≠0)=>ih (q+1) zw (fun j hj=>hlast j hj h)
  have hmiss:l.getD (fl.getD q 0) 0=0->nG k l x=false:=fun h=>by
   unfold nG;rw[Bool.and_eq_false_iff];refine .inr ?_;rw[List.all_eq_false];exact⟨_,hym,by rw[h];decide⟩
  have hty:=hC.tun _ hyn 4 _ rfl;simp only[Nat.zero_add]at hty;generalize hgy:fl.getD q 0=y at hpx hyn hihq hmiss hty;generalize ts.getD y 0=ty at hpx hty;have hy6:(y:Int)<6:=by omega
  have hy0:(0:Int)<=y:=by omega
  have hly:=hlb y (.int .u64 (l.getD y 0:Nat)) (wF (l:=l) (i:=y) zw);rw[Nat.zero_add]at hly;clear hfr hall hlast ih hfe;unfold ptr at hpx;refine pV (qF rfl ?_);go_wp2_with (fail)
  refine pV (wM (t:=true) rfl (JJ ?_));refine pV (EM (pV (qF rfl ?_)));go_wp2_with (refine yy ?_;clear hS;intro w' hS)
  refine pV (qF rfl ?_);by_cases hz:l.getD y 0=0
  ·rw [hz] at hly;have HM:=JW k l pre (hmiss hz);clear hihq hmiss;go_wp2_with (refine yy ?_;clear hS;intro w' hS)
   refine wM (t:=true) rfl (JQ rfl (Jj (tgt:=[]) ?_));rw[<- HM];exact hS
  ·have hih:=hihq hz;have hzb:(((l.getD y 0:Nat):Int) == 0)=false:=by rw [beq_eq_false_iff_ne];omega
   clear hihq hmiss;generalize l.getD y 0=ly at hly hz hzb;go_wp2_with (refine yy ?_;clear hS;intro w' hS)
   refine wM (t:=false) rfl (JJ (EO ?_));refine qF rfl ?_;go_wp2_with (fail)
   refine Tf ?_;have key:∀ (a:Act) (u:World),St w0 [] V [.blk kb 4 (Cj k l pre)] u->a=⟨#[a.tmps.getD 0 undef,a.tmps.getD 1 undef,a.tmps.getD 2 undef,a.tmps.getD 3 undef,a.tmps.getD 4 undef,a.tmps.getD 5 undef,.pointer (some ⟨lb,0,none⟩),.pointer (some ⟨b7,0,none⟩),a.tmps.getD 8 undef,a.tmps.getD 9 undef,.pointer (some ⟨tx,0,none⟩),a.tmps.getD 11 undef,a.tmps.getD 12 undef,a.tmps.getD 13 undef,a.tmps.getD 14 undef,a.tmps.getD 15 undef,a.tmps.getD 16 undef,a.tmps.getD 17 undef,a.tmps.getD 18 undef,a.tmps.getD 19 undef,a.tmps.getD 20 undef,a.tmps.getD 21 undef,a.tmps.getD 22 undef,a.tmps.getD 23 undef,a.tmps.getD 24 undef,a.tmps.getD 25 undef,a.tmps.getD 26 undef,a.tmps.getD 27 undef,a.tmps.getD 28 undef,a.tmps.getD 29 undef,a.tmps.getD 30 undef,a.tmps.getD 31 undef,a.tmps.getD 32 undef,a.tmps.getD 33 undef,a.tmps.getD 34 undef,a.tmps.getD 35 undef,a.tmps.getD 36 undef,a.tmps.getD 37 undef,a.tmps.getD 38 undef,a.tmps.getD 39 undef,a.tmps.getD 40 undef,a.tmps.getD 41 undef,a.tmps.getD 42 undef,a.tmps.getD 43 undef,a.tmps.getD 44 undef,a.tmps.getD 45 undef,a.tmps.getD 46 undef,a.tmps.getD 47 undef,a.tmps.getD 48 undef,a.tmps.getD 49 undef,a.tmps.getD 50 undef,a.tmps.getD 51 undef,a.tmps.getD 52 undef,a.tmps.getD 53 undef,.slice (some ⟨fg,fo,none⟩) fl.length fcap,.int .i64 fl.length,.int .i64 ((q:Int)+1),a.tmps.getD 57 undef,a.tmps.getD 58 undef,a.tmps.getD 59 undef,a.tmps.getD 60 undef,a.tmps.getD 61 undef,a.tmps.getD 62 undef,a.tmps.getD 63 undef,a.tmps.getD 64 undef,a.tmps.getD 65 undef,a.tmps.getD 66 undef,a.tmps.getD 67 undef,a.tmps.getD 68 undef,a.tmps.getD 69 undef,a.tmps.getD 70 undef,a.tmps.getD 71 undef,a.tmps.getD 72 undef,a.tmps.getD 73 undef,a.tmps.getD 74 undef,a.tmps.getD 75 undef,a.tmps.getD 76 undef,a.tmps.getD 77 undef,a.tmps.getD 78 undef,a.tmps.getD 79 undef,a.tmps.getD 80 undef,a.tmps.getD 81 undef,a.tmps.getD 82 undef,a.tmps.getD 83 undef,a.tmps.getD 84 undef,a.tmps.getD 85 undef,a.tmps.getD 86 undef,a.tmps.getD 87 undef,a.tmps.getD 88 undef],[]⟩->fV Tryd.prog (some lr) [] (fun _ w'=>St w0 [] V [.blk kb 4 (Cj k l (pre ++ [x]))] w') [.code KIL,.inLoop KIL,.inBlock 4,.code Zr,.inBlock 3] a u:=fun a u hS ha=>by
    have h1:=hih _ (fun j=>a.tmps.getD j undef) hS;rw[ha];exact h1
   exact key _ _ hS rfl
def Ad (v6 v7:Value) (f:Nat->Value):Array Value:=#[f 0,f 1,f 2,f 3,f 4,f 5,v6,v7,f 8,f 9,f 10,f 11,f 12,f 13,f 14,f 15,f 16,f 17,f 18,f 19,f 20,f 21,f 22,f 23,f 24,f 25,f 26,f 27,f 28,f 29,f 30,f 31,f 32,f 33,f 34,f 35,f 36,f 37,f 38,f 39,f 40,f 41,f 42,f 43,f 44,f 45,f 46,f 47,f 48,f 49,f 50,f 51,f 52,f 53,f 54,f 55,f 56,f 57,f 58,f 59,f 60,f 61,f 62,f 63,f 64,f 65,f 66,f 67,f 68,f 69,f 70,f 71,f 72,f 73,f 74,f 75,f 76,f 77,f 78,f 79,f 80,f 81,f 82,f 83,f 84,f 85,f 86,f 87,f 88]
theorem aa4 (p:Tmp) (v:Value) (T:Array Value):((#[p]:Array Tmp).zip #[v]).foldl (fun(t:Array Value) (q:Tmp × Value)=>t.setIfInBounds q.1 q.2) T=T.setIfInBounds p v:=by
 first|rfl|simp
theorem PZ {fn D:Nat} (f:Nat->Value) (hC:zO V p k ts vv rv) (hl6:l.length=6) (hlb:V.Range lb 0 (mM l)) (hb7:V.Cell b7 0 (.slice (some ⟨kb,0,none⟩) k.n k.n))
 (hlr:w0.heap.size<=lr) (hrec:V lr=some (.loop (jw fn (Ad (ptr lb) (ptr b7) f) #[43] KA KB D .ready none))) :
  Jq w0 V kb (Cj k l) lr (jw fn (Ad (ptr lb) (ptr b7) f) #[43] KA KB D .ready none) k.n ts:=by
 intro V' hV' pre x w hx hS;have hrec':=hV' _ _ hrec;have hn6:=hC.le;have hC1:=(hC.mono hV').mono (V':=V') fun _ _ h=>h
 have hsw:=fun {w:World} (h:St w0 [] V' [.blk kb 4 (Cj k l pre)] w)=>Jp h hlr hrec' (.loop (jw fn (Ad (ptr lb) (ptr b7) f) #[43] KA KB D .busy none))
 have hV1lr:∀ j u,V j=some u->j≠lr->Vw V' lr (.loop (jw fn (Ad (ptr lb) (ptr b7) f) #[43] KA KB D .busy none)) j=some u:=fun j u h hj=>by
  rw[Vw.other _ _ hj];exact hV' j u h
 have hcel:∀ {b i:Nat} {v:Value},V.Cell b i v->(Vw V' lr (.loop (jw fn (Ad (ptr lb) (ptr b7) f) #[43] KA KB D .busy none))).Cell b i v:=fun {b i v} ⟨cs,t,fz,h1,h2⟩=>by
  refine⟨cs,t,fz,hV1lr b _ h1 ?_,h2⟩;rintro rfl;rw[hrec]at h1;cases h1
 have hfin:∀ {w2:World} {cc:List Value},St w0 [] (Vw V' lr (.loop (jw fn (Ad (ptr lb) (ptr b7) f) #[43] KA KB D .busy none))) [.blk kb 4 cc] w2 ->
   ∃ w3,(Instr.endRound lr none).run Tryd.prog w2=.ok (.bool true) w3/\St w0 [] V' [.blk kb 4 cc] w3:=fun {w2 cc} h =>
  ⟨_,run_endRound none (h.view lr _ (Vw.same _ _ _)),(Jp h hlr (Vw.same _ _ _) _).weaken (Vw.back hrec')⟩
 obtain⟨fv,hf5,hfs⟩:=hC.fil x hx;obtain⟨fa,fcap,rfl,hfc,hfm,hfe⟩:=hfs.is;have hfl2:(k.fills x).length<=6:=by
  have:=wL k x;omega
 have hnum:=hcel (hC.tun x hx 4 _ rfl);simp only[Nat.zero_add]at hnum;have hf5':=hcel hf5;have hlx:=hcel (hlb x (.int .u64 (l.getD x 0:Nat)) (wF (l:=l) (i:=x) zw));rw[Nat.zero_add]at hlx;have hb7':=hcel hb7;have hcelC:zO (Vw V' lr (.loop (jw fn (Ad (ptr lb) (ptr b7) f) #[43] KA KB D .busy none))) p k ts vv rv:=by
  have sl:∀ {v n sz get},pW V v n sz get->pW (Vw V' lr (.loop (jw fn (Ad (ptr lb) (ptr b7) f) #[43] KA KB D .busy none))) v n sz get:=fun⟨a,cap,h1,h2,h3,h4⟩ =>
   ⟨a,cap,h1,h2,h3,fun hn=>by obtain⟨g,off,h5,h6⟩:=h4 hn;exact⟨g,off,h5,fun i hi j v hj=>hcel (h6 i hi j v hj)⟩⟩
  refine⟨hcel hC.c0,hcel hC.c1,?_,sl hC.ves,sl hC.rdg,fun i hi j v hj=>hcel (hC.tun i hi j v hj),fun i hi=>?_,hC.pos,hC.le⟩
  ·obtain⟨g,cap,h1,h2⟩:=hC.c2;exact⟨g,cap,hcel h1,fun i hi=>hcel (h2 i hi)⟩
  ·obtain⟨v,h1,h2⟩:=hC.fil i hi;exact⟨v,hcel h1,sl h2⟩
 have hlb':(Vw V' lr (.loop (jw fn (Ad (ptr lb) (ptr b7) f) #[43] KA KB D .busy none))).Range lb 0 (mM l):=fun j v hj=>hcel (hlb j v hj)
 have hmiss:l.getD x 0≠0->nG k l x=false:=fun h=>by
  unfold nG;rw[Bool.and_eq_false_iff];exact .inl (by simpa using h)
 have hfe':0<(k.fills x).length->∃ g off,fa=some ⟨g,off,none⟩/\∀ i,i<(k.fills x).length->(Vw V' lr (.loop (jw fn (Ad (ptr lb) (ptr b7) f) #[43] KA KB D .busy none))).Range g (off+i * 1) [ptr (ts.getD ((k.fills x).getD i 0) 0)]:=fun h=>by
  obtain⟨g,off,h1,h2⟩:=hfe h;exact⟨g,off,h1,fun i hi j v hj=>hcel (h2 i hi j v hj)⟩
 have hin:=fun hz=>OW (V:=Vw V' lr (.loop (jw fn (Ad (ptr lb) (ptr b7) f) #[43] KA KB D .busy none))) (lr:=lr) (w0:=w0) (pre:=pre) (fcap:=fcap) hcelC hl6 hlb' hb7' hx hn6 hnum rfl hfl2 hz hfe' (k.fills x).length 0 (Nat.zero_add _) (fun j hj=>nomatch hj)
 have hrun:(Instr.beginRound lr).run Tryd.prog w=.ok () (w.putObj lr (.loop (jw fn (Ad (ptr lb) (ptr b7) f) #[43] KA KB D .busy none))):=run_beginRound (P:=Tryd.prog) (hS.view lr _ hrec') rfl;have hS1:=hsw hS;generalize Vw V' lr (.loop (jw fn (Ad (ptr lb) (ptr b7) f) #[43] KA KB D .busy none))=VB at *;generalize w.putObj lr (.loop (jw fn (Ad (ptr lb) (ptr b7) f) #[43] KA KB D .busy none))=w1 at *;clear hfe hfe' hC hC1 hf5 hlb hb7 hV1lr hcelC hlb' hb7';generalize ts.getD x 0=tx at *;have hx0:(0:Int)<=x:=by omega
 have hx6:(x:Int)<6:=by omega
 have e43:=aa4 43 (ptr tx) (Ad (ptr lb) (ptr b7) f);have e44:(Ad (ptr lb) (ptr b7) f).setIfInBounds 43 (ptr tx)=#[f 0,f 1,f 2,f 3,f 4,f 5,.pointer (some ⟨lb,0,none⟩),.pointer (some ⟨b7,0,none⟩),f 8,f 9,f 10,f 11,f 12,f 13,f 14,f 15,f 16,f 17,f 18,f 19,f 20,f 21,f 22,f 23,f 24,f 25,f 26,f 27,f 28,f 29,f 30,f 31,f 32,f 33,f 34,f 35,f 36,f 37,f 38,f 39,f 40,f 41,f 42,.pointer (some ⟨tx,0,none⟩),f 44,f 45,f 46,f 47,f 48,f 49,f 50,f 51,f 52,f 53,f 54,f 55,f 56,f 57,f 58,f 59,f 60,f 61,f 62,f 63,f 64,f 65,f 66,f 67,f 68,f 69,f 70,f 71,f 72,f 73,f 74,f 75,f 76,f 77,f 78,f 79,f 80,f 81,f 82,f 83,f 84,f 85,f 86,f 87,f 88]:=rfl;rw[e44]at e43;show fV Tryd.prog (some lr) [] _ [.code KA,.beginRound,.code KB] ⟨((#[43]:Array Tmp).zip #[ptr tx]).foldl (fun(t:Array Value) (q:Tmp × Value)=>t.setIfInBounds q.1 q.2) (Ad (ptr lb) (ptr b7) f),[]⟩ w;rw[e43];refine qF rfl ?_;go_wp2_with (fail)
 refine FZ hrun ?_;clear hS hrun hsw;have hS:=hS1;clear hS1;refine fV.mono (S:=fun _ w'=>St w0 [] VB [.blk kb 4 (Cj k l (pre ++ [x]))] w') ?_ fun a w2 h=>hfin h
 refine EM (pV (pV (qF rfl ?_)));by_cases hz:l.getD x 0=0
 ·have hin':=hin hz;rw [hz] at hlx;clear hin hmiss;go_wp2_with (refine yy ?_;clear hS;intro w' hS)
  refine wM (t:=false) rfl (JJ ?_);refine pV (pV (qF rfl ?_));go_wp2_with (refine yy ?_;clear hS;intro w' hS)
  refine EM (Xr ?_);have key:∀ (a:Act) (u:World),St w0 [] VB [.blk kb 4 (Cj k l pre)] u->a=⟨#[a.tmps.getD 0 undef,a.tmps.getD 1 undef,a.tmps.getD 2 undef,a.tmps.getD 3 undef,a.tmps.getD 4 undef,a.tmps.getD 5 undef,.pointer (some ⟨lb,0,none⟩),.pointer (some ⟨b7,0,none⟩),a.tmps.getD 8 undef,a.tmps.getD 9 undef,.pointer (some ⟨tx,0,none⟩),a.tmps.getD 11 undef,a.tmps.getD 12 undef,a.tmps.getD 13 undef,a.tmps.getD 14 undef,a.tmps.getD 15 undef,a.tmps.getD 16 undef,a.tmps.getD 17 undef,a.tmps.getD 18 undef,a.tmps.getD 19 undef,a.tmps.getD 20 undef,a.tmps.getD 21 undef,a.tmps.getD 22 undef,a.tmps.getD 23 undef,a.tmps.getD 24 undef,a.tmps.getD 25 undef,a.tmps.getD 26 undef,a.tmps.getD 27 undef,a.tmps.getD 28 undef,a.tmps.getD 29 undef,a.tmps.getD 30 undef,a.tmps.getD 31 undef,a.tmps.getD 32 undef,a.tmps.getD 33 undef,a.tmps.getD 34 undef,a.tmps.getD 35 undef,a.tmps.getD 36 undef,a.tmps.getD 37 undef,a.tmps.getD 38 undef,a.tmps.getD 39 undef,a.tmps.getD 40 undef,a.tmps.getD 41 undef,a.tmps.getD 42 undef,a.tmps.getD 43 undef,a.tmps.getD 44 undef,a.tmps.getD 45 undef,a.tmps.getD 46 undef,a.tmps.getD 47 undef,a.tmps.getD 48 undef,a.tmps.getD 49 undef,a.tmps.getD 50 undef,a.tmps.getD 51 undef,a.tmps.getD 52 undef,a.tmps.getD 53 undef,.slice fa (k.fills x).length fcap,.int .i64 (k.fills x).length,.int .i64 (0:Nat),a.tmps.getD 57 undef,a.tmps.getD 58 undef,a.tmps.getD 59 undef,a.tmps.getD 60 undef,a.tmps.getD 61 undef,a.tmps.getD 62 undef,a.tmps.getD 63 undef,a.tmps.getD 64 undef,a.tmps.getD 65 undef,a.tmps.getD 66 undef,a.tmps.getD 67 undef,a.tmps.getD 68 undef,a.tmps.getD 69 undef,a.tmps.getD 70 undef,a.tmps.getD 71 undef,a.tmps.getD 72 undef,a.tmps.getD 73 undef,a.tmps.getD 74 undef,a.tmps.getD 75 undef,a.tmps.getD 76 undef,a.tmps.getD 77 undef,a.tmps.getD 78 undef,a.tmps.getD 79 undef,a.tmps.getD 80 undef,a.tmps.getD 81 undef,a.tmps.getD 82 undef,a.tmps.getD 83 undef,a.tmps.getD 84 undef,a.tmps.getD 85 undef,a.tmps.getD 86 undef,a.tmps.getD 87 undef,a.tmps.getD 88 undef],[]⟩ ->
    fV Tryd.prog (some lr) [] (fun _ w'=>St w0 [] VB [.blk kb 4 (Cj k l (pre ++ [x]))] w') [.code KIL,.inLoop KIL,.inBlock 4,.code Zr,.inBlock 3] a u:=fun a u hS ha=>by
   have h1:=hin' _ (fun j=>a.tmps.getD j undef) hS;rw[ha];exact h1
  exact key _ _ hS rfl
 ·have hzb:(((l.getD x 0:Nat):Int) != 0)=true:=by
   have:((l.getD x 0:Nat):Int)≠0:=by omega
   simpa using this
  have HM:=JW k l pre (hmiss hz);clear hin hmiss;generalize l.getD x 0=lx at hlx hz hzb;have hz':¬ (lx:Int)=0:=by omega
  go_wp2_with (refine yy ?_;clear hS;intro w' hS)
  refine wM (t:=true) rfl (JQ rfl (Jj (tgt:=[]) ?_));rw[<- HM];exact hS
theorem NU (h:St w0 X V L w) (o:Obj):St w0 X (Vw V w.heap.size o) L (w.alloc o):=by
 have hlt:∀ e∈L,∀ b,e.foot=some b->b<w.heap.size:=fun e he b hb=>(h.has e he).lt hb
 have hold:∀ j,j<w.heap.size->(w.alloc o).heap[j]? = w.heap[j]?:=fun j hj=>heap_alloc_old w o hj
 refine⟨h.os,h.output,?_,fun j hj hx=>?_,fun j u hj=>?_,fun e he=>?_,h.new,fun e he b hb=>?_,h.nd⟩
 ·have:=h.size;show w0.heap.size<=(w.heap.push o).size;simp;omega
 ·rw[hold j (Nat.lt_of_lt_of_le hj h.size)];exact h.old j hj hx
 ·by_cases e:j=w.heap.size
  ·subst e;rw[Vw.same]at hj;cases hj;show(w.heap.push o)[w.heap.size]? = _;simp
  ·rw[Vw.other _ _ e]at hj;have:=h.view j u hj;rw[hold j (lt_of_heap this)];exact this
 ·exact(h.has e he).of_heap fun g hg=>hold g (hlt e he g hg)
 ·have:=hlt e he b hb;rw[Vw.other _ _ zw];exact h.off e he b hb
theorem IX (h:St w0 X V L w) (hj:w.heap.size<=j):V j=none:=by
 cases hv:V j with
 |none=>rfl
 |some o =>
  have:=lt_of_heap (h.view j o hv);omega
theorem Qq (h:St w0 X V L w) {g:Nat} (hg:w.heap[g]? = some o) (hn:∀ e∈L,e.foot≠some g):St w0 X (Vw V g o) L w/\∀ j u,V j=some u->Vw V g o j=some u:=by
 refine⟨⟨h.os,h.output,h.size,h.old,fun j u hj=>?_,h.has,h.new,fun e he b hb=>?_,h.nd⟩,fun j u hj=>?_⟩
 ·by_cases e:j=g
  ·subst e;rw[Vw.same]at hj;cases hj;exact hg
  ·rw[Vw.other _ _ e]at hj;exact h.view j u hj
 ·rw[Vw.other _ _ (fun e'=>hn e he (by rw[<- e'];exact hb))];exact h.off e he b hb
 ·by_cases e:j=g
  ·subst e;rw[Vw.same];have:=h.view j u hj;rw[hg]at this;exact this
  ·rw[Vw.other _ _ e];exact hj
theorem Xi (h:St w0 X V L w) (hd:∀ d∈ds,w0.heap.size<=d/\V d≠none):St w0 X (fun _=>none) L (shutAll ds w):=by
 refine⟨Dp.1.trans h.os,Dp.2.trans h.output,by rw[Jo];exact h.size,fun j hj hx=>?_,fun j u hj=>(nomatch hj),fun e he=>?_,h.new,fun _ _ _ _=>rfl,h.nd⟩
 ·rw[xk fun hm=>by have:=(hd j hm).1;omega];exact h.old j hj hx
 ·exact(h.has e he).of_heap fun g hg=>xk fun hm=>(hd g hm).2 (h.off e he g hg)
theorem Uc {k:List Item} (h:fA Tryd.prog tgt S (.code c::.inScope c::k) a w):fA Tryd.prog tgt S (.code (.scope c)::k) a w:=fun b cs hb=>by
 obtain⟨a',w',h1,h2⟩:=h b cs hb;exact⟨a',w',h1,.head step_scope h2⟩
theorem Lh {k:List Item} (h:fA Tryd.prog tgt S k a w):fA Tryd.prog tgt S (.inScope c::k) a w:=fun b cs hb=>by
 obtain⟨a',w',h1,h2⟩:=h b cs hb;exact⟨a',w',h1,.head step_inScope h2⟩
theorem Wu {o:Oper} {l c:Operand} (ho:o.op=.makeSlice 82 l c) (hl:ρ l=.int .i64 (n:Int)) (hc:ρ c=.int .i64 (n:Int)) (hn:n<=1000) (w:World) :
  (execOp ρ o).run Tryd.prog w=.ok (.value (.slice (some ⟨w.heap.size,0,none⟩) n n)) (w.alloc (.cells (List.replicate n (.bool false)).toArray 4)):=by
 have h:=run_make_row' (P:=Tryd.prog) 82 4 (.bool false) 1 Tryd.underlying82 zk rfl .i64 .i64 n zw zw w;have e:madeCells #[.bool false] n=(List.replicate n (.bool false)).toArray:=by
  apply Array.ext';rw[toList_madeCells_one]
 rw[e]at h;unfold execOp;simp[ho,hl,hc,h,Sem.run_bind,Result.andThen]
theorem aay {ops:Array Oper} {o:Oper} {rest:List Oper} {Q:Exit->Act->World->Prop} (hS:St w0 X V L w) (hgd:Region.wanted o (yielded ops a.tmps)=true) {l c:Operand} (ho:o.op=.makeSlice 82 l c)
 (hl:a.eval l=.int .i64 (n:Int)) (hc:a.eval c=.int .i64 (n:Int)) (hn:n<=1000)
  (h:∀ b a',a.put o.dst (.slice (some ⟨b,0,none⟩) n n)=a'->∀ w',St w0 X V (.blk b 4 (List.replicate n (.bool false))::L) w'->wpList Tryd.prog ops Q rest a' w'):wpList Tryd.prog ops Q (o::rest) a w :=
 dU hgd (Wu ho hl hc hn w) (h _ _ rfl _ (hS.alloc 4 (List.replicate n (.bool false))))
theorem Pq {k0:List Item} {pre:List Nat} {f:Nat->Value} (hC:zO V p k ts vv rv) (hok:k.Ok) (hi:i<k.n) (hl6:l.length=6) (hlb:V.Range lb 0 (mM l)) (hb7:V.Cell b7 0 (.slice (some ⟨kb,0,none⟩) k.n k.n))
 (hf42:f 42=.func (.func 121) #[] #[ptr bt]) (hbt:V.Cell bt 0 (ptr (ts.getD i 0))) (hS:St w0 [] V [.blk kb 4 (Cj k l pre)] w)
  (hk:∀ w',St w0 [] (Vw V w.heap.size (.deferred (some []))) [.blk kb 4 (Cj k l (pre ++ Cb k (k.n-i) i))] w'->fA Tryd.prog tgt S k0 ⟨Ad (ptr lb) (ptr b7) f,marks (w.heap.size::ds)⟩ w') :
  fA Tryd.prog tgt S (.code (.rangeFunc (.tmp 42) #[43] KA KB)::k0) ⟨Ad (ptr lb) (ptr b7) f,marks ds⟩ w:=by
 refine FV (gf:=121) (lb:=#[ptr bt]) hf42 (Go.Proofs.enters_of Tryd.func121 zk rfl) fun fn=>?_
 have hS1:=NU (NU hS (.deferred (some []))) (.loop (jw fn (Ad (ptr lb) (ptr b7) f) #[43] KA KB w.heap.size .ready none));have hD:V w.heap.size=none:=IX hS (Nat.le_refl _);have hl:(Vw V w.heap.size (.deferred (some []))) (w.alloc (.deferred (some []))).heap.size=none:=IX (NU hS (.deferred (some []))) (Nat.le_refl _);have hsub:∀ j u,V j=some u->Vw (Vw V w.heap.size (.deferred (some []))) (w.alloc (.deferred (some []))).heap.size (.loop (jw fn (Ad (ptr lb) (ptr b7) f) #[43] KA KB w.heap.size .ready none)) j=some u:=fun j u hj=>Vw.sub hl j u (Vw.sub hD j u hj)
 have hsub2:∀ j u,(Vw V w.heap.size (.deferred (some []))) j=some u->Vw (Vw (Vw V w.heap.size (.deferred (some []))) (w.alloc (.deferred (some []))).heap.size (.loop (jw fn (Ad (ptr lb) (ptr b7) f) #[43] KA KB w.heap.size .ready none))) (w.alloc (.deferred (some []))).heap.size (.loop (jw fn (Ad (ptr lb) (ptr b7) f) #[43] KA KB w.heap.size .exhausted none)) j=some u:=fun j u hj=>by
  have hne:j≠(w.alloc (.deferred (some []))).heap.size:=by
   rintro rfl;rw[hl]at hj;cases hj
  rw[Vw.other _ _ hne,Vw.other _ _ hne];exact hj
 have hsz:(w.alloc (.deferred (some []))).heap.size=w.heap.size+1:=World.size_alloc _ _;rw[hsz]at hS1 hsub hsub2;have hlr:w0.heap.size<=w.heap.size+1:=by have:=hS.size;omega
 refine(XZ (hC.mono hsub) hok i hi (hbt.mono hsub) (Vw.same _ _ _) rfl (PZ f (hC.mono hsub) hl6 (hlb.mono hsub) (hb7.mono hsub) hlr (Vw.same _ _ _)) pre hS1).mono ?_;rintro e w3 ⟨v,rfl,hS3⟩;refine⟨v,rfl,hS3.view _ _ (Vw.same _ _ _),?_⟩;exact hk _ ((Jp hS3 hlr (Vw.same _ _ _) _).weaken hsub2)
structure KH (w0:World) (V V':View) (k:Wk) (l:List Nat) (kb m:Nat) (ds:List Nat) (w:World):Prop where
 sub:∀ j u,V j=some u->V' j=some u
 st:St w0 [] V' [.blk kb 4 (Cj k l (DC k m))] w
 nd:ds.Nodup
 ds:∀ d∈ds,w0.heap.size<=d/\V' d=some (.deferred (some []))
theorem Rk {S:Act->World->Prop} {p g cap lb b7 kb:Nat} {k:Wk} {l ts:List Nat} {w0:World} {vv rv:Value} (hC:zO V p k ts vv rv) (hok:k.Ok) (hl6:l.length=6) (hlb:V.Range lb 0 (mM l)) (hb7:V.Cell b7 0 (.slice (some ⟨kb,0,none⟩) k.n k.n))
  (hsr:∀ m,m<k.sources.length->V.Cell g m (ptr (ts.getD (k.sources.getD m 0) 0))) (hsl:k.sources.length<=6) (hcap:k.sources.length<=cap)
  (hend:∀ V' ds w (f:Nat->Value),KH w0 V V' k l kb k.sources.length ds w->fA Tryd.prog [.code .ret] S [.code KT] ⟨Ad (.pointer (some ⟨lb,0,none⟩)) (.pointer (some ⟨b7,0,none⟩)) f,marks ds⟩ w) :
  ∀ (c m:Nat),m+c=k.sources.length->∀ V' ds w (f:Nat->Value),KH w0 V V' k l kb m ds w->fA Tryd.prog [.code .ret] S [.code KL,.inLoop KL,.inBlock 0,.code KT] ⟨#[f 0,f 1,f 2,f 3,f 4,f 5,.pointer (some ⟨lb,0,none⟩),.pointer (some ⟨b7,0,none⟩),f 8,f 9,f 10,f 11,f 12,f 13,f 14,f 15,f 16,f 17,f 18,f 19,f 20,f 21,f 22,f 23,f 24,f 25,f 26,f 27,f 28,f 29,f 30,f 31,f 32,f 33,f 34,.slice (some ⟨g,0,none⟩) k.sources.length cap,.int .i64 k.sources.length,.int .i64 (m:Int),f 38,f 39,f 40,f 41,f 42,f 43,f 44,f 45,f 46,f 47,f 48,f 49,f 50,f 51,f 52,f 53,f 54,f 55,f 56,f 57,f 58,f 59,f 60,f 61,f 62,f 63,f 64,f 65,f 66,f 67,f 68,f 69,f 70,f 71,f 72,f 73,f 74,f 75,f 76,f 77,f 78,f 79,f 80,f 81,f 82,f 83,f 84,f 85,f 86,f 87,f 88],marks ds⟩ w:=by
 intro c
 induction c with
 | zero =>
  intro m hm V' ds w f hK;obtain rfl:m=k.sources.length:=by omega
  have hS:=hK.st;have hend':=hend V' ds;refine au (aA ?_);go_wp2_with (fail)
  refine au (dZ (t:=false) rfl (lG rfl ?_));have key:∀ a:Act,a=⟨#[a.tmps.getD 0 undef,a.tmps.getD 1 undef,a.tmps.getD 2 undef,a.tmps.getD 3 undef,a.tmps.getD 4 undef,a.tmps.getD 5 undef,.pointer (some ⟨lb,0,none⟩),.pointer (some ⟨b7,0,none⟩),a.tmps.getD 8 undef,a.tmps.getD 9 undef,a.tmps.getD 10 undef,a.tmps.getD 11 undef,a.tmps.getD 12 undef,a.tmps.getD 13 undef,a.tmps.getD 14 undef,a.tmps.getD 15 undef,a.tmps.getD 16 undef,a.tmps.getD 17 undef,a.tmps.getD 18 undef,a.tmps.getD 19 undef,a.tmps.getD 20 undef,a.tmps.getD 21 undef,a.tmps.getD 22 undef,a.tmps.getD 23 undef,a.tmps.getD 24 undef,a.tmps.getD 25 undef,a.tmps.getD 26 undef,a.tmps.getD 27 undef,a.tmps.getD 28 undef,a.tmps.getD 29 undef,a.tmps.getD 30 undef,a.tmps.getD 31 undef,a.tmps.getD 32 undef,a.tmps.getD 33 undef,a.tmps.getD 34 undef,a.tmps.getD 35 undef,a.tmps.getD 36 undef,a.tmps.getD 37 undef,a.tmps.getD 38 undef,a.tmps.getD 39 undef,a.tmps.getD 40 undef,a.tmps.getD 41 undef,a.tmps.getD 42 undef,a.tmps.getD 43 undef,a.tmps.getD 44 undef,a.tmps.getD 45 undef,a.tmps.getD 46 undef,a.tmps.getD 47 undef,a.tmps.getD 48 undef,a.tmps.getD 49 undef,a.tmps.getD 50 undef,a.tmps.getD 51 undef,a.tmps.getD 52 undef,a.tmps.getD 53 undef,a.tmps.getD 54 undef,a.tmps.getD 55 undef,a.tmps.getD 56 undef,a.tmps.getD 57 undef,a.tmps.getD 58 undef,a.tmps.getD 59 undef,a.tmps.getD 60 undef,a.tmps.getD 61 undef,a.tmps.getD 62 undef,a.tmps.getD 63 undef,a.tmps.getD 64 undef,a.tmps.getD 65 undef,a.tmps.getD 66 undef,a.tmps.getD 67 undef,a.tmps.getD 68 undef,a.tmps.getD 69 undef,a.tmps.getD 70 undef,a.tmps.getD 71 undef,a.tmps.getD 72 undef,a.tmps.getD 73 undef,a.tmps.getD 74 undef,a.tmps.getD 75 undef,a.tmps.getD 76 undef,a.tmps.getD 77 undef,a.tmps.getD 78 undef,a.tmps.getD 79 undef,a.tmps.getD 80 undef,a.tmps.getD 81 undef,a.tmps.getD 82 undef,a.tmps.getD 83 undef,a.tmps.getD 84 undef,a.tmps.getD 85 undef,a.tmps.getD 86 undef,a.tmps.getD 87 undef,a.tmps.getD 88 undef],marks ds⟩->fA Tryd.prog [.code .ret] S [.code KT] a w:=fun a ha=>by
   rw[ha];exact hend' w (fun j=>a.tmps.getD j undef) hK
  exact key _ rfl
 | succ c ih =>
  intro m hm V' ds w f hK;have hml:m<k.sources.length:=by omega
  have hm1:(m:Int)<k.sources.length:=by omega
  have hm0:(0:Int)<=m:=by omega
  have hih:=ih (m+1) zw;obtain⟨s,hs⟩:∃ s,k.sources.getD m 0=s:=⟨_,rfl⟩;have hsm:s∈k.sources:=by
   rw[<- hs,List.getD_eq_getElem?_getD,List.getElem?_eq_getElem hml];exact List.getElem_mem _
  have hsn:s<k.n:=List.mem_range.1 (List.mem_filter.1 hsm).1;have hbr:=Tj k hml;have hc0:=(hsr m hml).mono hK.sub;rw[hs]at hc0 hbr;have hCC:=hC.mono hK.sub;have hS:=hK.st;refine au (aA ?_);go_wp2_with (fail)
  refine au (dZ (t:=true) rfl (lu ?_));refine au (jg (au (aA ?_)));unfold ptr at hc0;go_wp2_with (refine yy ?_;clear hS;intro w' hS)
  refine Uc (au (Gs (Vk (GN ?_))));refine au (aA ?_);go_wp2_with (go_at_call 94;refine(kP _ _).mono ?_;rintro e w' ⟨bt,rfl,hkp,hlt,hbk⟩;replace hS:=hS.fresh hkp (e:=.blk bt 124 [ptr (ts.getD s 0)]) hbk (fun b hb=>by cases hb;exact hlt))
  refine jg ?_;obtain⟨V1,hV1,hc1,hS1⟩:=pin hS;clear hS;have hbt:=hc1 0 _ rfl;have hsub1:∀ j u,V j=some u->V1 j=some u:=fun j u h=>hV1 j u (hK.sub j u h)
  have key:∀ a:Act,a=⟨#[a.tmps.getD 0 undef,a.tmps.getD 1 undef,a.tmps.getD 2 undef,a.tmps.getD 3 undef,a.tmps.getD 4 undef,a.tmps.getD 5 undef,.pointer (some ⟨lb,0,none⟩),.pointer (some ⟨b7,0,none⟩),a.tmps.getD 8 undef,a.tmps.getD 9 undef,a.tmps.getD 10 undef,a.tmps.getD 11 undef,a.tmps.getD 12 undef,a.tmps.getD 13 undef,a.tmps.getD 14 undef,a.tmps.getD 15 undef,a.tmps.getD 16 undef,a.tmps.getD 17 undef,a.tmps.getD 18 undef,a.tmps.getD 19 undef,a.tmps.getD 20 undef,a.tmps.getD 21 undef,a.tmps.getD 22 undef,a.tmps.getD 23 undef,a.tmps.getD 24 undef,a.tmps.getD 25 undef,a.tmps.getD 26 undef,a.tmps.getD 27 undef,a.tmps.getD 28 undef,a.tmps.getD 29 undef,a.tmps.getD 30 undef,a.tmps.getD 31 undef,a.tmps.getD 32 undef,a.tmps.getD 33 undef,a.tmps.getD 34 undef,a.tmps.getD 35 undef,a.tmps.getD 36 undef,a.tmps.getD 37 undef,a.tmps.getD 38 undef,a.tmps.getD 39 undef,a.tmps.getD 40 undef,a.tmps.getD 41 undef,a.tmps.getD 42 undef,a.tmps.getD 43 undef,a.tmps.getD 44 undef,a.tmps.getD 45 undef,a.tmps.getD 46 undef,a.tmps.getD 47 undef,a.tmps.getD 48 undef,a.tmps.getD 49 undef,a.tmps.getD 50 undef,a.tmps.getD 51 undef,a.tmps.getD 52 undef,a.tmps.getD 53 undef,a.tmps.getD 54 undef,a.tmps.getD 55 undef,a.tmps.getD 56 undef,a.tmps.getD 57 undef,a.tmps.getD 58 undef,a.tmps.getD 59 undef,a.tmps.getD 60 undef,a.tmps.getD 61 undef,a.tmps.getD 62 undef,a.tmps.getD 63 undef,a.tmps.getD 64 undef,a.tmps.getD 65 undef,a.tmps.getD 66 undef,a.tmps.getD 67 undef,a.tmps.getD 68 undef,a.tmps.getD 69 undef,a.tmps.getD 70 undef,a.tmps.getD 71 undef,a.tmps.getD 72 undef,a.tmps.getD 73 undef,a.tmps.getD 74 undef,a.tmps.getD 75 undef,a.tmps.getD 76 undef,a.tmps.getD 77 undef,a.tmps.getD 78 undef,a.tmps.getD 79 undef,a.tmps.getD 80 undef,a.tmps.getD 81 undef,a.tmps.getD 82 undef,a.tmps.getD 83 undef,a.tmps.getD 84 undef,a.tmps.getD 85 undef,a.tmps.getD 86 undef,a.tmps.getD 87 undef,a.tmps.getD 88 undef],marks ds⟩->a.tmps.getD 42 undef=.func (.func 121) #[] #[ptr bt]->(∀ a' w4,a'=⟨a.tmps,marks (w'.heap.size::ds)⟩->St w0 [] (Vw V1 w'.heap.size (.deferred (some []))) [.blk kb 4 (Cj k l (DC k m ++ Cb k (k.n-s) s))] w4->fA Tryd.prog [.code .ret] S [.inBlock 2,.inScope KSc,.inBlock 1,.code Z7,.inLoop KL,.inBlock 0,.code KT] a' w4) ->
    fA Tryd.prog [.code .ret] S [.code (.rangeFunc (.tmp 42) #[43] KA KB),.inBlock 2,.inScope KSc,.inBlock 1,.code Z7,.inLoop KL,.inBlock 0,.code KT] a w':=fun a ha h42 hk=>by
   have h1:=Pq (tgt:=[.code .ret]) (S:=S) (k0:=[.inBlock 2,.inScope KSc,.inBlock 1,.code Z7,.inLoop KL,.inBlock 0,.code KT]) (f:=fun j=>a.tmps.getD j undef) (ds:=ds) (hC.mono hsub1) hok hsn hl6 (hlb.mono hsub1) (hb7.mono hsub1) h42 hbt hS1 (fun w4 h4=>?_)
   ·rw[ha];exact h1
   ·refine hk _ w4 ?_ h4;have e:a.tmps=Ad (ptr lb) (ptr b7) (fun j=>a.tmps.getD j undef):=by
     have:=congrArg Act.tmps ha;exact this
    rw[<- e]
  refine key _ rfl rfl ?_;rintro a' w4 rfl hS4;clear key;refine jE (Lh (jE (aA ?_)));have hS:=hS4;conv=>enter [2];whnf
  go_wp2_with (fail)
  refine jr ?_;have hK':KH w0 V (Vw V1 w'.heap.size (.deferred (some []))) k l kb (m+1) (w'.heap.size::ds) w4:=by
   have hD:V1 w'.heap.size=none:=IX hS1 (Nat.le_refl _);have hsub:∀ j u,V1 j=some u->Vw V1 w'.heap.size (.deferred (some [])) j=some u:=Vw.sub hD;refine⟨fun j u h=>hsub j u (hsub1 j u h),by rw[hbr];exact hS4,List.nodup_cons.2 ⟨fun hm=>?_,hK.nd⟩,fun d hd=>?_⟩
   ·have:=(hK.ds _ hm).2;have h2:=hV1 _ _ this;rw[hD]at h2;cases h2
   ·rcases List.mem_cons.1 hd with rfl | hd
    ·exact⟨hS1.size,Vw.same _ _ _⟩
    ·exact⟨(hK.ds d hd).1,hsub _ _ (hV1 _ _ (hK.ds d hd).2)⟩
  have key:∀ a:Act,a=⟨#[a.tmps.getD 0 undef,a.tmps.getD 1 undef,a.tmps.getD 2 undef,a.tmps.getD 3 undef,a.tmps.getD 4 undef,a.tmps.getD 5 undef,.pointer (some ⟨lb,0,none⟩),.pointer (some ⟨b7,0,none⟩),a.tmps.getD 8 undef,a.tmps.getD 9 undef,a.tmps.getD 10 undef,a.tmps.getD 11 undef,a.tmps.getD 12 undef,a.tmps.getD 13 undef,a.tmps.getD 14 undef,a.tmps.getD 15 undef,a.tmps.getD 16 undef,a.tmps.getD 17 undef,a.tmps.getD 18 undef,a.tmps.getD 19 undef,a.tmps.getD 20 undef,a.tmps.getD 21 undef,a.tmps.getD 22 undef,a.tmps.getD 23 undef,a.tmps.getD 24 undef,a.tmps.getD 25 undef,a.tmps.getD 26 undef,a.tmps.getD 27 undef,a.tmps.getD 28 undef,a.tmps.getD 29 undef,a.tmps.getD 30 undef,a.tmps.getD 31 undef,a.tmps.getD 32 undef,a.tmps.getD 33 undef,a.tmps.getD 34 undef,.slice (some ⟨g,0,none⟩) k.sources.length cap,.int .i64 k.sources.length,.int .i64 ((m:Int)+1),a.tmps.getD 38 undef,a.tmps.getD 39 undef,a.tmps.getD 40 undef,a.tmps.getD 41 undef,a.tmps.getD 42 undef,a.tmps.getD 43 undef,a.tmps.getD 44 undef,a.tmps.getD 45 undef,a.tmps.getD 46 undef,a.tmps.getD 47 undef,a.tmps.getD 48 undef,a.tmps.getD 49 undef,a.tmps.getD 50 undef,a.tmps.getD 51 undef,a.tmps.getD 52 undef,a.tmps.getD 53 undef,a.tmps.getD 54 undef,a.tmps.getD 55 undef,a.tmps.getD 56 undef,a.tmps.getD 57 undef,a.tmps.getD 58 undef,a.tmps.getD 59 undef,a.tmps.getD 60 undef,a.tmps.getD 61 undef,a.tmps.getD 62 undef,a.tmps.getD 63 undef,a.tmps.getD 64 undef,a.tmps.getD 65 undef,a.tmps.getD 66 undef,a.tmps.getD 67 undef,a.tmps.getD 68 undef,a.tmps.getD 69 undef,a.tmps.getD 70 undef,a.tmps.getD 71 undef,a.tmps.getD 72 undef,a.tmps.getD 73 undef,a.tmps.getD 74 undef,a.tmps.getD 75 undef,a.tmps.getD 76 undef,a.tmps.getD 77 undef,a.tmps.getD 78 undef,a.tmps.getD 79 undef,a.tmps.getD 80 undef,a.tmps.getD 81 undef,a.tmps.getD 82 undef,a.tmps.getD 83 undef,a.tmps.getD 84 undef,a.tmps.getD 85 undef,a.tmps.getD 86 undef,a.tmps.getD 87 undef,a.tmps.getD 88 undef],marks (w'.heap.size::ds)⟩->fA Tryd.prog [.code .ret] S [.code KL,.inLoop KL,.inBlock 0,.code KT] a w4:=fun a ha=>by
   have h1:=hih _ _ w4 (fun j=>a.tmps.getD j undef) hK';rw[ha];exact h1
  exact key _ rfl
theorem TY (k:Wk):DC k 0=[]:=by simp[DC]
def KS (w:World) (k:Wk) (a:Act) (w':World):Prop :=
 ∃ (V3:View) (p g cap lb b7 kb:Nat) (ts:List Nat) (vv rv:Value),(∃ f:Nat->Value,a=⟨#[f 0,f 1,f 2,f 3,f 4,f 5,.pointer (some ⟨lb,0,none⟩),.pointer (some ⟨b7,0,none⟩),f 8,f 9,f 10,f 11,f 12,f 13,f 14,f 15,f 16,f 17,f 18,f 19,f 20,f 21,f 22,f 23,f 24,f 25,f 26,f 27,f 28,f 29,f 30,f 31,f 32,f 33,f 34,.slice (some ⟨g,0,none⟩) k.sources.length cap,.int .i64 k.sources.length,.int .i64 ((0:Nat):Int),f 38,f 39,f 40,f 41,f 42,f 43,f 44,f 45,f 46,f 47,f 48,f 49,f 50,f 51,f 52,f 53,f 54,f 55,f 56,f 57,f 58,f 59,f 60,f 61,f 62,f 63,f 64,f 65,f 66,f 67,f 68,f 69,f 70,f 71,f 72,f 73,f 74,f 75,f 76,f 77,f 78,f 79,f 80,f 81,f 82,f 83,f 84,f 85,f 86,f 87,f 88],marks []⟩)/\zO V3 p k ts vv rv/\V3.Range lb 0 (mM (up k (aN k aC)))/\V3.Cell b7 0 (.slice (some ⟨kb,0,none⟩) k.n k.n) /\
  (∀ m,m<k.sources.length->V3.Cell g m (ptr (ts.getD (k.sources.getD m 0) 0)))/\k.sources.length<=6/\k.sources.length<=cap/\KH w V3 V3 k (up k (aN k aC)) kb 0 [] w'
theorem OV (vv rv:Value) (k:Wk) (hk:iJ V vv rv k) (hG:GV V) (hV:V.In w) (hb:aS k []=0) :
  fA Tryd.prog [.code KL,.inLoop KL,.inBlock 0,.code KT] (KS w k) [.code B34] {tmps:=#[.agg #[vv,rv]] ++ Array.replicate 88 undef,defers:=[]} w:=by
 have hk0:=hk;obtain⟨va,vcap,rfl,hvc,hvm,hve⟩:=hk0.ves.is;obtain⟨ra,rcap,rfl,hrc,hrm,hre⟩:=hk0.rdg.is;have hS:=St.start w V hV;clear hk0 hve hre;have hok:=dP hb;have hpos:=vY hok;have hn6:=hok.le;have hwf:=gG k aC;have hll:(up k (aN k aC)).length=6:=kZ k _ k.n;replace hb:=aj hb;simp only[Array.replicate_succ,Array.replicate_zero,List.push_toArray,List.append_toArray,List.nil_append,List.cons_append];refine au (aA ?_);go_wp2_with (refine yf ?_;clear hS;intro _ w' hS)
 refine au (aA ?_);go_wp2_with (first|(refine yy ?_;clear hS;intro w' hS)|(go_at_call 77;refine eG hS hk pG (by simp) hb.out ?_;clear hS;intro p V' w' hVV hcel hS;have hG':GV V':=hG.mono hVV))
 obtain⟨ts,vv',rv',hC⟩:=id hcel;obtain⟨cg,ccap,hc2,hcc⟩:=hC.c2;refine au (au (aA ?_));go_wp2_with (fail)
 refine dZ (t:=false) rfl (lu ?_);have hup:=fun w' hV'=>YF V' p k hcel (aN k aC) hwf w' hV'
 generalize hl:up k (aN k aC)=l at hup hll;have hLl:(mM l).length=6:=by rw[cZ,hll]
 refine au (aA ?_);go_wp2_with (first|(refine ys ?_;clear hS;intro w' hS)|(refine ya 6 ?_;clear hS;intro b6 w' hS)|(go_at_call 79;refine aH hS ⟨_,zL V' p k hcel hok _ rfl _ (St.view hS),?_⟩;clear hS;intro w' hS)|(go_at_call 92;refine aH hS ⟨_,hup _ (St.view hS),?_⟩;clear hS;intro w' hS))
 refine au (aA ?_);go_wp2_with (first|(refine ym ?_;clear hS;intro w' hS)|(refine ys ?_;clear hS;intro w' hS)|(refine ya 7 ?_;clear hS;intro b7 w' hS)|(refine aay hS rfl rfl rfl rfl zw ?_;clear hS;intro kb a' hp;(try simp only[fr]at hp);subst hp;intro w' hS))
 refine au (au (aA ?_));go_wp2_with (go_at_call 93;refine(Fq _ p k ts vv' rv' hC _ (St.view hS)).mono ?_;rintro _ w4 ⟨sl,rfl,hkp,hrow,hnew⟩;obtain⟨g,cap,cur,rfl,hc2',hc3,hcur,hget⟩:=oz hrow.1 hpos)
 have hlt0:∀ e∈_,∀ b,dF.foot e=some b->b<w'.heap.size:=fun e he b hb=>(hS.has e he).lt hb
 replace hS:=hS.kp hkp;have hgn:=hnew g rfl;refine jg (zh ?_);obtain⟨V1,hV1,hp1,hS1⟩:=pin hS;clear hS;obtain⟨V2,hV2,hp2,hS2⟩:=pin (hS1.perm (List.Perm.swap _ _ _));have hS3:=hS2.sub (List.Sublist.cons_cons _ (List.nil_sublist _));clear hS1 hS2;obtain⟨hS4,hV4⟩:=Qq hS3 hcur (fun e he hf=>by
  simp only[List.mem_singleton]at he;subst he;have:kb=g:=Option.some.inj hf;have:=hlt0 (.blk kb 4 (List.replicate k.n (.bool false))) (by simp) kb rfl;omega)
 have hsub:∀ j u,V' j=some u->Vw V2 g (.cells cur 124 (0,0)) j=some u:=fun j u h=>hV4 j u (hV2 j u (hV1 j u h))
 have hcell:∀ m,m<k.sources.length->(Vw V2 g (.cells cur 124 (0,0))).Cell g m (ptr (ts.getD (k.sources.getD m 0) 0)):=fun m hm=>by
  refine⟨cur,124,(0,0),Vw.same _ _ _,?_⟩;have h1:(cur.toList.take k.sources.length)[m]? = some (ptr (ts.getD (k.sources.getD m 0) 0)):=by
   rw[hget,List.getElem?_map,List.getElem?_eq_getElem hm,List.getD_eq_getElem?_getD (l:=k.sources),List.getElem?_eq_getElem hm];rfl
  rw[List.getElem?_take,if_pos hm]at h1;simpa using h1
 have hsl:k.sources.length<=6:=Nat.le_trans (sD k k.n) hn6;rw[<- hl]at hp2;have key:∀ a:Act,a=⟨#[a.tmps.getD 0 undef,a.tmps.getD 1 undef,a.tmps.getD 2 undef,a.tmps.getD 3 undef,a.tmps.getD 4 undef,a.tmps.getD 5 undef,.pointer (some ⟨b6,0,none⟩),.pointer (some ⟨b7,0,none⟩),a.tmps.getD 8 undef,a.tmps.getD 9 undef,a.tmps.getD 10 undef,a.tmps.getD 11 undef,a.tmps.getD 12 undef,a.tmps.getD 13 undef,a.tmps.getD 14 undef,a.tmps.getD 15 undef,a.tmps.getD 16 undef,a.tmps.getD 17 undef,a.tmps.getD 18 undef,a.tmps.getD 19 undef,a.tmps.getD 20 undef,a.tmps.getD 21 undef,a.tmps.getD 22 undef,a.tmps.getD 23 undef,a.tmps.getD 24 undef,a.tmps.getD 25 undef,a.tmps.getD 26 undef,a.tmps.getD 27 undef,a.tmps.getD 28 undef,a.tmps.getD 29 undef,a.tmps.getD 30 undef,a.tmps.getD 31 undef,a.tmps.getD 32 undef,a.tmps.getD 33 undef,a.tmps.getD 34 undef,.slice (some ⟨g,0,none⟩) k.sources.length cap,.int .i64 k.sources.length,.int .i64 ((0:Nat):Int),a.tmps.getD 38 undef,a.tmps.getD 39 undef,a.tmps.getD 40 undef,a.tmps.getD 41 undef,a.tmps.getD 42 undef,a.tmps.getD 43 undef,a.tmps.getD 44 undef,a.tmps.getD 45 undef,a.tmps.getD 46 undef,a.tmps.getD 47 undef,a.tmps.getD 48 undef,a.tmps.getD 49 undef,a.tmps.getD 50 undef,a.tmps.getD 51 undef,a.tmps.getD 52 undef,a.tmps.getD 53 undef,a.tmps.getD 54 undef,a.tmps.getD 55 undef,a.tmps.getD 56 undef,a.tmps.getD 57 undef,a.tmps.getD 58 undef,a.tmps.getD 59 undef,a.tmps.getD 60 undef,a.tmps.getD 61 undef,a.tmps.getD 62 undef,a.tmps.getD 63 undef,a.tmps.getD 64 undef,a.tmps.getD 65 undef,a.tmps.getD 66 undef,a.tmps.getD 67 undef,a.tmps.getD 68 undef,a.tmps.getD 69 undef,a.tmps.getD 70 undef,a.tmps.getD 71 undef,a.tmps.getD 72 undef,a.tmps.getD 73 undef,a.tmps.getD 74 undef,a.tmps.getD 75 undef,a.tmps.getD 76 undef,a.tmps.getD 77 undef,a.tmps.getD 78 undef,a.tmps.getD 79 undef,a.tmps.getD 80 undef,a.tmps.getD 81 undef,a.tmps.getD 82 undef,a.tmps.getD 83 undef,a.tmps.getD 84 undef,a.tmps.getD 85 undef,a.tmps.getD 86 undef,a.tmps.getD 87 undef,a.tmps.getD 88 undef],marks []⟩->KS w k a w4:=fun a ha =>
  ⟨Vw V2 g (.cells cur 124 (0,0)),p,g,cap,b6,b7,kb,ts,vv',rv',⟨fun j=>a.tmps.getD j undef,ha⟩,hC.mono hsub,fun j v hj=>by rw [Nat.zero_add];exact (hp2 j v hj).mono hV4,((hp1 0 _ rfl).mono hV2).mono hV4,hcell,hsl,hc2',
   ⟨fun _ _ h=>h,by rw[TY,XQ];exact hS4,List.nodup_nil,fun d hd=>nomatch hd⟩⟩
 exact bG (tgt:=[.code KL,.inLoop KL,.inBlock 0,.code KT]) (key _ rfl)
def KE (w:World) (k:Wk) (l:List Nat) (a:Act) (w':World):Prop :=
 ∃ (V4:View) (ds:List Nat) (v:Value),a.defers=marks ds/\ds.Nodup/\(∀ d∈ds,w.heap.size<=d/\V4 d=some (.deferred (some [])))/\a.tmps[2]? = some v/\a.tmps[3]? = some (.int .i64 0) /\
  St w [] V4 [.row v 3 1 (jI k l k.n).length (aV (jI k l k.n))] w'
theorem VD {V':View} (hok:k.Ok) (f:Nat->Value) (hb7:V.Cell b7 0 (.slice (some ⟨kb,0,none⟩) k.n k.n)) (hK:KH w0 V V' k (up k (aN k aC)) kb k.sources.length ds w) :
  fA Tryd.prog [.code .ret] (KE w0 k (up k (aN k aC))) [.code KT] ⟨Ad (.pointer (some ⟨lb,0,none⟩)) (.pointer (some ⟨b7,0,none⟩)) f,marks ds⟩ w:=by
 have hn6:=hok.le;have hS0:=hK.st;rw[Xo hok]at hS0;obtain⟨V4,hV4,hcel,hS1⟩:=pin hS0;have hb7':=(hb7.mono hK.sub).mono hV4;have hds:∀ d∈ds,w0.heap.size<=d/\V4 d=some (.deferred (some [])):=fun d hd=>⟨(hK.ds d hd).1,hV4 _ _ (hK.ds d hd).2⟩
 have hnd:=hK.nd;have hS:=hS1.nilRow 3 1;clear hS0 hS1 hK hb7;generalize up k (aN k aC)=l at *;have hcel':∀ i,i<k.n->V4.Cell kb i (.bool (nG k l i)):=fun i hi=>hcel i _ (by simp[hi])
 clear hcel;rw[show Ad (.pointer (some ⟨lb,0,none⟩)) (.pointer (some ⟨b7,0,none⟩)) f=#[f 0,f 1,f 2,f 3,f 4,f 5,.pointer (some ⟨lb,0,none⟩),.pointer (some ⟨b7,0,none⟩),f 8,f 9,f 10,f 11,f 12,f 13,f 14,f 15,f 16,f 17,f 18,f 19,f 20,f 21,f 22,f 23,f 24,f 25,f 26,f 27,f 28,f 29,f 30,f 31,f 32,f 33,f 34,f 35,f 36,f 37,f 38,f 39,f 40,f 41,f 42,f 43,f 44,f 45,f 46,f 47,f 48,f 49,f 50,f 51,f 52,f 53,f 54,f 55,f 56,f 57,f 58,f 59,f 60,f 61,f 62,f 63,f 64,f 65,f 66,f 67,f 68,f 69,f 70,f 71,f 72,f 73,f 74,f 75,f 76,f 77,f 78,f 79,f 80,f 81,f 82,f 83,f 84,f 85,f 86,f 87,f 88]from rfl];refine au (aA ?_);go_wp2_with (fail)
 refine au (aA ?_);go_wp2_with (refine yy ?_;clear hS;intro w' hS)
 go_loopw [13,77] (fun sv iv wr=>∃ i:Nat,i<=k.n/\iv=.int .i64 (i:Int)/\sv.oneCell'=true/\St w0 [] V4 [.row sv 3 1 (jI k l i).length (aV (jI k l i))] wr) (fun _ iv _=>k.n-(intOf iv).toNat)
 case atStart=>exact⟨0,by omega,rfl,rfl,hS⟩
 case round =>
  clear hS;obtain⟨i,hi,rfl,hone,hS⟩:=hrel;by_cases hlt:i<k.n
  ·have h0:(0:Int)<=i:=by omega
   have h1:(i:Int)<k.n:=by omega
   have hll:=Kv k l i;have HT:=JI k l i;have hc:=hcel' i hlt;generalize jI k l i=xs at hS hll HT;have hil:=iD xs;clear hcel';cases hq:nG k l i with
   | true =>
    rw[hq]at hc HT;simp only[if_true]at HT;replace HT:=aj HT;go_wp2_with (first|(refine yy ?_;clear hS;intro w' hS)|(refine yg ?_;clear hS;intro _ w' hS)|(refine yp ?_;clear hS;intro va w' hS;have hva:=dY hS va))
    go_roundw
    case rel =>
     refine⟨i+1,by omega,by go_num,hva,?_⟩;rw[HT.out];have ei:aV (xs ++ [(i:Int)])=aV xs ++ [.int .i64 (i:Int)]:=by simp[aV]
     simp only[ei,List.length_append,List.length_cons,List.length_nil,Nat.zero_add];exact hS.aG
    case measure=>simp only[intOf];omega
   | false =>
    rw[hq]at hc HT;simp only[Bool.false_eq_true,if_false]at HT;replace HT:=aj HT;go_wp2_with (refine yy ?_;clear hS;intro w' hS)
    go_roundw
    case rel =>
     refine⟨i+1,by omega,by go_num,hone,?_⟩;rw[HT.out];exact hS.aG
    case measure=>simp only[intOf];omega
  ·obtain rfl:i=k.n:=by omega
   clear hcel';go_wp2_with (fail)
   refine au (aA ?_);go_wp2_with (fail)
   refine bG (tgt:=[.code .ret]) ?_;unfold KE;exact⟨V4,ds,_,rfl,hnd,hds,rfl,rfl,hS⟩
theorem SB (vv rv:Value) (k:Wk) (hk:iJ V vv rv k) (hV:V.In w) (hb:¬ aS k []=0) :
  Calls Tryd.prog 34 #[.agg #[vv,rv]] w fun r w'=>∃ v,r=.returned (.tuple #[v,.int .i64 (qQ k).2])/\Kp w w'/\tY w w' v (qQ k).1:=by
 have hk0:=hk;obtain⟨va,vcap,rfl,hvc,hvm,hve⟩:=hk0.ves.is;obtain⟨ra,rcap,rfl,hrc,hrm,hre⟩:=hk0.rdg.is;have hS:=(St.start w V hV).nilRow 3 1;clear hk0 hve hre;have hC:qQ k=([],aS k []):=by unfold qQ;rw[if_neg hb]
 rw[hC];simp only;have hb':(aS k [] == 0)=false:=by rw[beq_eq_false_iff_ne];exact hb
 have hE:Go.RowKit.Hid (∃ e,aS k []=e):=aj ⟨_,rfl⟩;obtain⟨e,he⟩:=hE.out;rw[he]at hb' |-;replace hC:=aj hC;replace he:=aj he;go_enter Tryd.func34,Tryd.ntmps34
 go_wp2_with (first|(refine yy ?_;clear hS;intro w' hS)|(refine yf ?_;clear hS;intro _ w' hS)|(go_at_call 77;refine fF hS hk pG (by simp) hb ?_;rw[he.out];clear hS;intro w' hS))
 (refine yj ?_;refine bK ⟨_,by exact dA (r1:=.tmp 2) (r2:=.tmp 3) zk (by exact bD rfl) (by exact bD rfl),?_⟩ rfl)
 exact⟨_,rfl,hS.bM,vK hS (l:=[]) (j:=1) rfl⟩
theorem VK (vv rv:Value) (k:Wk) (hk:iJ V vv rv k) (hG:GV V) (hV:V.In w) :
  Calls Tryd.prog 34 #[.agg #[vv,rv]] w fun r w'=>∃ v,r=.returned (.tuple #[v,.int .i64 (qQ k).2])/\Kp w w'/\tY w w' v (qQ k).1:=by
 by_cases hb:aS k []=0
 ·have hok:=dP hb;have hC:qQ k=(jI k (up k (aN k aC)) k.n,0):=by unfold qQ;rw [if_pos hb]
  rw[hC];simp only;refine yU (k0:=[]) Tryd.func34 (show Tryd.f34.body=some B34 from rfl) ?_;have e88:Tryd.f34.ntmps-(#[.agg #[vv,rv]]:Array Value).size=88:=by kernel_rfl
  rw[e88];refine fA.mono (S:=KE w k (up k (aN k aC))) ?_ ?_
  ·refine(OV vv rv k hk hG hV hb).bind ?_;rintro a w1 ⟨V3,p,g,cap,lb,b7,kb,ts,vv',rv',⟨f,rfl⟩,hcel,hlb,hb7,hsr,hsl,hcap,hK⟩;exact Rk hcel hok (kZ k _ k.n) hlb hb7 hsr hsl hcap (fun V' ds w f hK=>VD hok f hb7 hK) k.sources.length 0 (Nat.zero_add _) V3 [] w1 f hK
  ·rintro a w1 ⟨V4,ds,v,h1,h2,h3,h4,h5,h6⟩;have hsh:=Xi h6 (ds:=ds) fun d hd=>⟨(h3 d hd).1,by rw [(h3 d hd).2];exact fun h=>nomatch h⟩
   have g:∀ {j:Nat} {u:Value},a.tmps[j]? = some u->a.tmps.getD j undef=u:=fun h=>by
    rw[Array.getD_eq_getD_getElem?,h];rfl
   refine⟨ds,.tuple #[v,.int .i64 0],h1,h2,fun d hd=>h6.view d _ (h3 d hd).2,?_,v,rfl,hsh.bM,vK hsh (j:=0) rfl⟩;exact dA (r1:=.tmp 2) (r2:=.tmp 3) zk (yS (g h4)) (yS (g h5))
 ·exact SB vv rv k hk hV hb
end Go.Proofs.YtjjmefieegcddaaDoor
namespace Go.Proofs.YtjjmefieegcddaaDoor
open Go.RowKit Go.Wg Go.Mm
variable {w:World} {V:View}
abbrev VI (V:View) (v:Value) (l:List Int):Prop:=pW V v l.length 1 fun j=>[.int .i64 (l.getD j 0)]
theorem OZ {l1 l2:List Int} (h:l1.length=l2.length) (h2:∀ j,j<l1.length->l1.getD j 0=l2.getD j 0):l1=l2:=by
 refine List.ext_getElem h fun j h3 h4=>?_
 have:=h2 j h3;simpa[List.getD_eq_getElem?_getD,List.getElem?_eq_getElem h3,List.getElem?_eq_getElem h4]using this
theorem SI (l1 l2:List Int) (a b:Value) (ha:VI V a l1) (hb:VI V b l2) (n1:l1.length<=100) (n2:l2.length<=100) (hV:V.In w) :
  Calls Tryd.prog 31 #[a,b] w fun e w'=>e=.returned (.bool (decide (l1=l2)))/\Kp w w':=by
 obtain⟨aa,acap,rfl,hac,ham,hae⟩:=ha.is;obtain⟨ba,bcap,rfl,hbc,hbm,hbe⟩:=hb.is;have hS:=St.start w V hV;clear ha hb;go_enter Tryd.func31,Tryd.ntmps31
 go_wp2_with (fail)
 go_loopw [5] (fun iv wr=>∃ i:Nat,i<=l1.length/\i<=l2.length/\iv=.int .i64 (i:Int)/\(∀ j,j<i->l1.getD j 0=l2.getD j 0)/\St w [] V [] wr) (fun iv _=>l1.length-(intOf iv).toNat)
 case atStart=>exact⟨0,by omega,by omega,rfl,(fun j hj=>absurd hj zw),hS⟩
 case round =>
  clear hS;obtain⟨i,hi1,hi2,rfl,hall,hS⟩:=hrel;have h0:(0:Int)<=i:=by omega
  by_cases h1:i<l1.length
  ·have h1':(i:Int) < l1.length:=by omega
   by_cases h2:i<l2.length
   ·have h2':(i:Int) < l2.length:=by omega
    obtain⟨ag,ao,rfl,har⟩:=hae zw;obtain⟨bg,bo,rfl,hbr⟩:=hbe zw;have hca:=har i h1 0 _ rfl;have hcb:=hbr i h2 0 _ rfl;simp only[Nat.mul_one,Nat.add_zero]at hca hcb;have hnx:l1.getD i 0=l2.getD i 0->∀ j,j<i+1->l1.getD j 0=l2.getD j 0:=fun h j hj=>by
     rcases Nat.lt_succ_iff_lt_or_eq.1 hj with hj|rfl
     ·exact hall j hj
     ·exact h
    have hne:l1.getD i 0≠l2.getD i 0->decide (l1=l2)=false:=fun h=>decide_eq_false fun he=>h (by rw[he])
    generalize hx:l1.getD i 0=x at hca hnx hne;generalize hy:l2.getD i 0=y at hcb hnx hne;replace hx:=aj hx;replace hy:=aj hy;clear hae hbe har hbr;by_cases he:x=y
    ·subst he;have hnx':=hnx rfl;replace hnx':=aj hnx';clear hall hnx hne;go_wp2_with (fail)
     (refine bF (S:=(St w [] V [])) (List.replicate 9 false) rfl zk ?_;replace hS:=St.eY hS;(refine yh [.m 0,.m 1,.p 2,.c 3,.m 4,.m 5,.p 6,.c 7,.p 8] ?_);refine wpAnyH_done zk ?_ _)
     go_wp2_with (fail)
     go_roundw
     case rel=>exact⟨i+1,by omega,by omega,by go_num,hnx'.out,hS⟩
     case measure=>simp only[intOf];omega
    ·have hf:=hne he;have hxy:(x != y)=true:=by simpa using he
     replace hf:=aj hf;clear hall hnx hne;go_wp2_with (fail)
     (refine bF (S:=(St w [] V [])) (List.replicate 9 false) rfl zk ?_;replace hS:=St.eY hS;(refine yh [.m 0,.m 1,.p 2,.c 3,.m 4,.m 5,.p 6,.c 7,.p 8] ?_);refine wpAnyH_done zk ?_ _)
     go_wp2_with (fail)
     (refine yj ?_;refine bK ⟨_,by exact bH (r1:=.tmp 4) zk (by exact bD rfl),?_⟩ rfl)
     exact⟨by rw[hf.out],hS.bM⟩
   ·obtain rfl:i=l2.length:=by omega
    have hf:decide (l1=l2)=false:=decide_eq_false fun he=>by rw[he]at h1;omega
    have hl:((l1.length:Int) == (l2.length:Int))=false:=by rw[beq_eq_false_iff_ne];omega
    have hl':¬ ((l1.length:Int)=(l2.length:Int)):=by omega
    replace hf:=aj hf;clear hall hae hbe;go_wp2_with (fail)
    (refine yj ?_;refine bK ⟨_,by exact bH (r1:=.tmp 4) zk (by exact bD rfl),?_⟩ rfl)
    exact⟨by rw[hf.out];try simp[hl'],hS.bM⟩
  ·obtain rfl:i=l1.length:=by omega
   by_cases he:l1.length=l2.length
   ·have hf:decide (l1=l2)=true:=decide_eq_true (OZ he hall);have hl':(l1.length:Int)=(l2.length:Int):=by omega
    replace hf:=aj hf;clear hall hae hbe;go_wp2_with (fail)
    (refine yj ?_;refine bK ⟨_,by exact bH (r1:=.tmp 4) zk (by exact bD rfl),?_⟩ rfl)
    exact⟨by rw[hf.out];try simp[hl'],hS.bM⟩
   ·have hf:decide (l1=l2)=false:=decide_eq_false fun h=>he (by rw [h])
    have hl':¬ ((l1.length:Int)=(l2.length:Int)):=by omega
    replace hf:=aj hf;clear hall hae hbe;go_wp2_with (fail)
    (refine yj ?_;refine bK ⟨_,by exact bH (r1:=.tmp 4) zk (by exact bD rfl),?_⟩ rfl)
    exact⟨by rw[hf.out];try simp[hl'],hS.bM⟩
theorem Um {w0 w w':World} {X:List Nat} {L:List dF} {v:Value} {l:List Int} (hS:St w0 X V L w) (hk:Kp w w') (ho:tY w w' v l):∃ V',(∀ j o,V j=some o->V' j=some o)/\St w0 X V' L w'/\VI V' v l:=by
 have hS':=hS.kp hk;obtain⟨⟨hl,h⟩,hnew⟩:=ho;rcases h with⟨rfl,hn⟩|⟨g,cap,cur,rfl,_,hg,h1,h2,h3,h4⟩
 ·exact⟨V,fun _ _ h=>h,hS',⟨⟨none,0,by rw[hn],by omega,by decide,fun h=>by omega⟩⟩⟩
 ·have hgn:=hnew g rfl;obtain ⟨hS2,hsub⟩:=Qq hS' hg (fun e he hf=>by
   have:=(hS.has e he).lt hf;omega)
  refine⟨Vw V g (.cells cur 3 (0,0)),hsub,hS2,⟨⟨_,cap,rfl,h1,h2,fun _=>⟨g,0,rfl,fun i hi j u hj=>?_⟩⟩⟩⟩;cases j with
  |succ j=>simp at hj
  | zero =>
   simp at hj;subst hj;refine⟨cur,3,(0,0),Vw.same _ _ _,?_⟩;have:(cur.toList.take (l.length * 1))[i]? = some (.int .i64 (l.getD i 0)):=by
    rw[h4];simp[aV,List.getD_eq_getElem?_getD,List.getElem?_eq_getElem hi]
   rw[List.getElem?_take,if_pos zw]at this;simpa using this
end Go.Proofs.YtjjmefieegcddaaDoor
namespace Go
section
variable {H:Type} {enc:TypeId × Value->H}
open Go.Conc
theorem kE {a:Assume} {C:Checked} {os:Os} {f:FuncId} {fn:Func} {s:ChangeSpec} {conds:List PathCond} {apart fresh handsOn again:Bool} {X:World->Array Value->Prop}
  (hX:∀ (w w':World) (args:Array Value),w.heap=w'.heap->X w args->X w' args)
  (own:ownKnob C.prog.godebug=none) (started:os.Started) (hfn:C.prog.funcs[f]? = some fn)
  (witness:∃ (w:World) (tape:Tape) (i:Input),w.os=os/\(w.forCall tape i).Shaped C.prog/\i.vars=[]/\Input.okWide C.prog (w.forCall tape i) .any w.heap.size f i /\
   ((s.pre enc C.prog fn conds apart (w.forCall tape i).memory i.args/\X (w.forCall tape i).memory i.args)/\sizedMet enc C.prog fn (OpenSpec.ofChange s) apart (w.forCall tape i).memory i.args)/\a.holds C.prog (lone (Frame.enter C.prog f i.args .normal) [] (w.forCall tape i)))
  (runs:∀ (W:World) (base:Nat) (args:Array Value) (ds gs:List (DataW H)) (before:List MemPlace),
   (∀ (j:Nat) t v,fn.params[j]? = some t->args[j]? = some v->Value.okWide C.prog W .any base t v) ->
   DataW.Whole enc C.prog fn.params.toList s.vars apart W args.toList ds gs before ->
   (DataW.weightsEach C.prog (fn.params.toList ++ s.plain.varTypes C.prog) (ds ++ gs)).all (·<=reachBytes)=true->X W args ->
   ∃ M last o w' t',runNT C.prog (M+1) (solo (G (Frame.enter C.prog f args .normal) []) W) #[]=(.ended o w',t')/\runN C.prog M (solo (G (Frame.enter C.prog f args .normal) []) W)=.next last /\
    step C.prog last=.ended o w'/\Conc.Good C.prog (fun v W'=>s.post enc C.prog fn apart fresh handsOn again W args v W') last o w' t') :
  ReturnsInLeavingWide a C os f .any (fun w args=>(s.pre enc C.prog fn conds apart w args/\X w args)/\sizedMet enc C.prog fn (OpenSpec.ofChange s) apart w args) (s.post enc C.prog fn apart fresh handsOn again):=by
 refine returnsInLeavingWide_of_good own started witness ?_;intro w tape i _ _ _ hok hpre hholds;obtain⟨_,_,_,fn',hfn',_,_,_,_,hval⟩:=hok;have e:fn'=fn:=Option.some.inj (hfn'.symm.trans hfn);subst e;obtain⟨⟨⟨ds,gs,before,hw,hc⟩,hx⟩,hz⟩:=hpre;have hw':=DataW.Whole.of_heap (w':=w.forCall tape i) (by rfl) hw;obtain⟨M,last,o,w',t',h1,h2,h3,h4⟩:=runs (w.forCall tape i) w.heap.size i.args ds gs before hval hw' (hz.weights hw) (hX _ _ _ (by rfl) hx);exact⟨M,last,o,w',t',h1,h2,h3,h4.mono fun v hp=>ChangeSpec.post_blind hp⟩
theorem Claim7.xX (Lk:Looks) {p:Pinned} {s:OpenSpec} {c:OpenClaim} (kinds:List LaidKind) (tests:Bool) (har:Bool × String) (lk g:Bool)
  (hc:c.holds p s) (hw:c.wfByText s=true) (htie:c.laidByTextAt Lk p kinds tests)
  (hst:c.start=.entering) (hnb:c.noBlocks=false/\c.again=false) (hm:p.checked.prog.mainIs=some (har.1,har.2.toList)) (hn:(!har.1 && har.2.isEmpty && !lk)=false)
  (hl:∀ f fn,p.checked.prog.funcNamed c.func=some f->p.checked.prog.funcs[f]? = some fn->lk=p.checked.prog.looks []/\∀ (j:Nat) t,fn.params[j]? = some t->p.checked.prog.wantsStandIn t=false)
  (hg:g=c.goesBy p.checked.prog) :
  Claim7.holds p (.plain s) {stood:={row:=c,standIns:=[],harness:=har,looks:=lk},kinds:=[],alts:=[],goes:=g,laidByText:=true,laidKinds:=kinds,laidTests:=tests,laidLooks:=Lk}:=by
 have h6:Claim7.isSixth {stood:={row:=c,standIns:=[],harness:=har,looks:=lk},kinds:=[]}=false:=by simpa[Claim7.isSixth]using hn
 exact⟨Claim7.tied_new_at Lk kinds tests (Claim7.new_of_sixth hc har lk hst hnb hm h6 hl) hw,(fun D hD=>(nomatch hD)),htie,(fun h=>by cases h),hg⟩
theorem Si {a b:Bool} (h1:a=true) (h2:b=true):(a && b)=true:=by rw[h1,h2];rfl
end
end Go
namespace Go.Proofs.YtjjmefieegcddaaDoor
open Go Go.Tm Go.Conc Go.Sr Go.ChangeShapes Go.WideShapes Go.RowKit Go.Wg Go.Mm
variable {W w:World}
def cleaned (w:World):World:={w with heap:=w.heap.map fun o=>if strange o then Tm.clean else o}
theorem tq (w:World) (i:Nat):(cleaned w).heap[i]? = (w.heap[i]?).map fun o=>if strange o then Tm.clean else o:=by
 show(w.heap.map _)[i]? = _;rw[Array.getElem?_map]
theorem yV (w:World):(cleaned w).heap.size=w.heap.size:=by
 show(w.heap.map _).size=_;rw[Array.size_map]
theorem Gm (w:World):Tm.Alike w (fun _=>False) w (cleaned w):=by
 refine⟨rfl,rfl,rfl,rfl,yV w,Nat.le_refl _,fun i=>?_,fun i h=>h.elim⟩;rw[tq];cases hi:w.heap[i]? with
 |none=>exact .inl ⟨rfl,fun o _ h=>by cases h⟩
 |some o =>
  by_cases ho:strange o=true
  ·exact .inr ⟨o,ho,rfl,rfl,by simp[ho]⟩
  ·refine .inl ⟨by simp[ho],fun o' hs h=>?_⟩;cases h;exact(ho hs).elim
theorem uM (w:World):ay OC (cleaned w):=by
 intro i o h;rw[tq]at h;obtain⟨x,_,rfl⟩:=Option.map_eq_some_iff.1 h;cases x<;>simp[strange,lQ]
def Ar (w:World):View:=fun k=>match w.heap[k]? with
 |some o=>if strange o then none else some o
 |none=>none
theorem Hg (w:World):(Ar w).In (cleaned w):=by
 intro k o h;rw[tq];unfold Ar at h;cases hk:w.heap[k]? with
 |none=>rw[hk]at h;cases h
 | some x =>
  rw[hk]at h;dsimp only at h;split at h
  ·cases h
  ·next hs =>
   cases h;simp[hs]
theorem BP {b i:Nat} {v:Value} (h:w.cell? ⟨b,i,none⟩=some v):(Ar w).Cell b i v:=by
 unfold World.cell? at h;dsimp only at h;cases hb:w.heap[b]? with
 |none=>rw[hb]at h;cases h
 |some o =>
  rw[hb]at h;cases o<;>first|(cases h;done)|skip
  rename_i c t fr;exact⟨c,t,fr,by unfold Ar;rw[hb];rfl,h⟩
theorem X5 {v v1:World} (h:Tm.Alike w (fun _=>False) v v1) (k:Kp (cleaned w) v1):Kp w v:=by
 refine⟨h.os.symm.trans k.os,h.output.symm.trans k.output,h.size0,fun i hi=>?_⟩;have hk:=k.old i (by rw[yV];exact hi);rw[tq]at hk;rcases h.obj i with⟨e,hn⟩|⟨o,_,h2,h3,_⟩
 ·cases hx:w.heap[i]? with
  |none=>rw[Array.getElem?_eq_getElem hi]at hx;cases hx
  |some o =>
   rw[hx]at hk;by_cases ho:strange o=true
   ·refine(hn o ho hx ?_).elim;rw[hk];simp[ho]
   ·rw[<- e,hk];simp[ho]
 ·rw[h2,h3]
theorem good_row {f:FuncId} {args:Array Value} (hf:Tryd.prog.inits.idxOf? f=none)
 (h:kL Tryd.prog f args (cleaned W) fun r w'=>r=.returned (.bool true)/\Kp (cleaned W) w') :
  ∃ N last o w' t',runNT Tryd.prog (N+1) (solo (G (Frame.enter Tryd.prog f args .normal) []) W) #[]=(.ended o w',t')/\runN Tryd.prog N (solo (G (Frame.enter Tryd.prog f args .normal) []) W)=.next last /\
   step Tryd.prog last=.ended o w'/\Conc.Good Tryd.prog (fun v w'=>v=.bool true/\Kp W w') last o w' t' :=
 S9 (Post:=fun v w'=>v=.bool true/\Kp (cleaned W) w') aaq (Gm W) (uM W) (fun _ _ _ ha hp=>⟨hp.1,X5 ha hp.2⟩)
  (DF hf (fun _ _ _ hp=>⟨hp.1,⟨hp.2.os,hp.2.output,hp.2.size,hp.2.old⟩⟩) (h.mono fun _ _ hr=>⟨_,hr.1,rfl,hr.2⟩))
theorem aaV:ownKnob Tryd.prog.godebug=none:=by kernel_rfl
theorem abt:Tryd.prog.globalNamed "errors.errorType" = some 0:=by kernel_rfl
theorem abv:(Tryd.prog.cutTypes.find? (·.1 == "internal/reflectlite.rtype")).map (·.2)=some 187:=by kernel_rfl
theorem oneRow:((List.range 230).filter fun t=>Tryd.prog.rowNamed t [101,114,114,111,114])=[155]:=by kernel_rfl
theorem Y1:Tryd.prog.types.size=230:=by kernel_rfl
theorem aaF:Wg.gN=1:=by
 show Tryd.prog.globals.size=1;kernel_rfl
abbrev DT:List (String × DataW Unit):=[("errors.errorType", Rows.laid_errors_errorType)]
theorem handle_of_laid (h:laidMetH Tryd.prog DT W):W.cell? ⟨0,0,none⟩=some XF:=by
 have h':laidMet Tryd.prog [] W/\handlesMet Tryd.prog DT W:=h;obtain⟨name,u,ty,e1,e2,e3,e4,e5⟩:=h'.2 _ (List.mem_singleton.2 rfl);have en:name=[101,114,114,111,114]:=(Option.some.inj e1).symm;subst en;obtain rfl:=Option.some.inj (abv.symm.trans e2);have hm:ty∈(List.range 230).filter fun t=>Tryd.prog.rowNamed t [101,114,114,111,114]:=List.mem_filter.2 ⟨List.mem_range.2 (by rw[<- Y1];exact e3),e4⟩
 rw[oneRow]at hm;obtain rfl:=List.mem_singleton.1 hm;have hh:typeHandle Tryd.prog 155=.pointer (some ⟨1,155,none⟩):=by kernel_rfl
 rw[hh]at e5;simpa using World.var?_cell abt e5 0
theorem NP (h:laidMetH Tryd.prog DT W):Bs (Ar W)/\Wg.gN<=(cleaned W).heap.size:=by
 have hc:=BP (handle_of_laid h);obtain⟨c,t,fr,h1,h2⟩:=hc;refine⟨⟨⟨c,t,fr,h1,h2⟩,⟨_,by rw[aaF];exact h1⟩⟩,?_⟩;rw[aaF];have:=Hg W 0 _ h1;exact(Array.getElem?_eq_some_iff.1 this).1
noncomputable def laidWorld (os:Os):World :=
 let w0:=World.holding Tryd.prog os ⟨#[],#[],[]⟩
 { w0 with heap:=w0.heap.modify 0 fun
   |.cells _ t frozen=>.cells #[XF] t frozen
   |o=>o}
theorem laidWorld_met (os:Os) (args:Array Value):laidMetH Tryd.prog DT ((laidWorld os).forCall (fun _ _=>0) ⟨#[],args,[]⟩).memory :=
 laidMetH_of_parts (laidMet_nil _ _) (by kernel_rfl)
theorem Tc:laidOutB Tryd.prog=true:=by kernel_rfl
section
variable {H:Type} {enc:TypeId × Value->H} {W W':World}
theorem Bv (k:Kp W W'):Below W.heap.size W {W' with tape:=W.tape}:=⟨k.os,rfl,k.output,k.size,k.old⟩
theorem FK (k:Kp W W'):∀ {ts:List TypeId} {vs:List Value} {ds:List (DataW H)} {ps:List MemPlace},DataW.TrodAll enc Tryd.prog W 0 (fun _=>true) true ts vs ds ps ->
  (∀ t∈ts,Tryd.prog.readableRec t=true/\t<Tryd.prog.types.size)->(∀ x∈ps,x.block<W.heap.size)->DataW.TrodAll enc Tryd.prog W' 0 (fun b=>decide (b<W.heap.size)) true ts vs ds ps
 | [],vs,ds,ps,h,_,_=>by
  obtain⟨rfl,rfl,rfl⟩:=trodAll_nil h;exact trodAll_mk0
 |t::ts,vs,ds,ps,h,ht,hp=>by
  obtain⟨v,vs',d,ds',p,p',rfl,rfl,rfl,h1,h2⟩:=trodAll_cons h;have hb:=Bv k;have:=Below.trod Tc (ht t (by simp)).1 (ht t (by simp)).2 h1 hb (fun x hx=>hp x (by simp[hx]));exact⟨p,p',DataW.Trod.of_heap (w:={W' with tape:=W.tape}) (w':=W') rfl this,FK k h2 (fun t ht'=>ht t (by simp[ht'])) fun x hx=>hp x (by simp[hx]),rfl⟩
theorem Ym {s:ChangeSpec} {fn:Func} {args:Array Value} {ds:List (DataW H)} {before:List MemPlace} (hr:fn.resultTypes=#[4]) (hts:∀ t∈fn.params.toList,Tryd.prog.readableRec t=true/\t<Tryd.prog.types.size) (hs:s.vars=[])
  (hW:DataW.Whole enc Tryd.prog fn.params.toList s.vars false W args.toList ds [] before) (hk:Kp W W') (e:s.fn H ds={results:=[.lit (.bool true)],args:=ds}):s.post enc Tryd.prog fn false true false false W args (.bool true) W':=by
 have hW0:=hW;obtain⟨p,q,hA,hV,rfl,_,_⟩:=hW;have hlt:∀ x∈p,x.block<W.heap.size:=fun x hx=>hA.lt x hx
 have hb:=Bv hk;have hkb:∀ may,W.keptBut W' may:=fun may=>by
  have h:=hb.frame may;unfold World.keptBut at h |-;exact h
 have e':s.fn H (ds ++ [])={results:=[.lit (.bool true)],args:=ds}:=by rw[List.append_nil];exact e
 refine⟨ds,[],_,[],p,[],hW0,?_,?_,?_,hkb _,fun h=>by cases h⟩
 ·rw[e',hr];exact trodAll_mk1 (shut_bool Tryd.underlying4 true)
 ·rw[e'];exact FK hk hA hts hlt
 ·rw[e',hs];rfl
end
theorem P7 {H:Type} {enc:TypeId × Value->H} {W:World} {a0:Option Addr} {len cap:Nat} {d:DataW H} {p:List MemPlace} (h:DataW.Trod enc Tryd.prog W 0 (fun _=>true) true 30 (.slice a0 len cap) d p) :
  ∃ l:List Int,VI (Ar W) (.slice a0 len cap) l:=by
 obtain⟨fuel,hf⟩:=h;rcases open_ints Tryd.underlying30 Tryd.underlying3 (show Tryd.prog.cellsOf 3=1 by kernel_rfl) hf with⟨hcs,_⟩|⟨a,len',cap',zs,hcs,_,hl,hm,hz,_,hcell,_⟩
 ·simp[Value.cells]at hcs;obtain⟨rfl,rfl,rfl⟩:=hcs;exact⟨[],⟨⟨none,0,rfl,Nat.le_refl _,Nat.zero_le _,fun h=>absurd h (Nat.lt_irrefl _)⟩⟩⟩
 ·simp [Value.cells] at hcs;obtain ⟨rfl,rfl,rfl⟩:=hcs;simp only [if_true] at hz;have hlen:(zs.take len).length=len:=by rw [List.length_take];omega
  refine⟨zs.take len,⟨⟨some a,cap,by rw[hlen],by rw[hlen];exact hl,hm,fun hpos=>?_⟩⟩⟩;rw[hlen]at hpos;have hc0:=hcell 0 (by omega);obtain⟨g,off,spot⟩:=a;have hsp:spot=none:=by
   cases spot with
   |none=>rfl
   |some s =>
    unfold World.cell? at hc0;simp only[Addr.add]at hc0;split at hc0<;>simp at hc0
  subst hsp;refine⟨g,off,rfl,fun i hi=>?_⟩;rw[hlen]at hi;intro j v hj;have hj0:j=0:=by
   rcases j with _|j
   ·rfl
   ·simp at hj
  subst hj0;simp only[List.getElem?_cons_zero,Option.some.injEq]at hj;subst hj;have:=hcell i (by omega);have e:(zs.take len).getD i 0=zs.getD i 0:=by
   simp[List.getD_eq_getElem?_getD,List.getElem?_take,hi]
  rw[e];have e2:(⟨g,off,none⟩:Addr).add i=⟨g,off+i,none⟩:=by
   unfold Addr.add;split<;>simp_all
  rw[e2]at this;simpa using BP this
end Go.Proofs.YtjjmefieegcddaaDoor
namespace Go.Proofs.YtjjmefieegcddaaDoor
open Go.RowKit Go.Wg Go.Mm
variable {w:World} {V:View}
end Go.Proofs.YtjjmefieegcddaaDoor
namespace Go.Wg
open Go Go.Mm
variable {l:List nN} {ss ws:List Int} {n:Nat}
theorem Xn (n:Nat) (f g:Nat->Int) (i:Nat) (hi:i<n) (h:∀ j,j≠i->f j=g j):((List.range n).map g).sum=((List.range n).map f).sum+(g i-f i):=by
 induction n with
 |zero=>omega
 | succ n ih =>
  rw[List.range_succ,List.map_append,List.map_append,List.sum_append,List.sum_append];simp only[List.map_cons,List.map_nil,List.sum_cons,List.sum_nil];by_cases e:i=n
  ·subst e;have:(List.range i).map g=(List.range i).map f:=List.map_congr_left fun j hj=>(h j (by have:=List.mem_range.1 hj;omega)).symm
   rw[this];omega
  ·rw[ih (by omega),h n (fun e'=>e e'.symm)];omega
theorem TK (n:Nat) (f:Nat->Int) (c:Int) (h:∀ j,j<n->0<=f j/\f j<=c):0<=((List.range n).map f).sum/\((List.range n).map f).sum<=c * n:=by
 induction n with
 |zero=>simp
 |succ n ih =>
  rw[List.range_succ,List.map_append,List.sum_append];simp only[List.map_cons,List.map_nil,List.sum_cons,List.sum_nil];have h1:=ih fun j hj=>h j (by omega)
  have h2:=h n (by omega);have:c * ((n+1:Nat):Int)=c * n+c:=by rw[Int.natCast_add,Int.mul_add];omega
  omega
def sumF (fr:Nat->Int) (n:Nat) (ws:List Int) (j:Nat):Int:=((List.range n).map fun k=>if fr k=(j:Int) then ws.getD k 0 else 0).sum
theorem fC {α:Type} (l:List α) (i j:Nat) (x d:α) (hi:i<l.length):(l.set i x).getD j d=if i=j then x else l.getD j d:=by
 rw[List.getD_eq_getElem?_getD,List.getElem?_set];by_cases e:i=j
 ·subst e;simp[hi]
 ·rw[if_neg e,if_neg e,List.getD_eq_getElem?_getD]
theorem Un (fr:Nat->Int) (n:Nat) (ws:List Int) (hl:ws.length=n) (i:Nat) (hi:i<n) (x:Int) (j:Nat):sumF fr n (ws.set i x) j=sumF fr n ws j+if fr i=(j:Int) then x-ws.getD i 0 else 0:=by
 unfold sumF;rw[Xn n (fun k=>if fr k=(j:Int) then ws.getD k 0 else 0) (fun k=>if fr k=(j:Int) then(ws.set i x).getD k 0 else 0) i hi]
 ·have h1:(ws.set i x).getD i 0=x:=by rw [fC _ _ _ _ _ (hl ▸ hi),if_pos rfl]
  rw[h1];by_cases e:fr i=(j:Int)
  ·simp only[if_pos e]
  ·simp only[if_neg e];omega
 ·intro k hk;simp only[fC _ _ _ _ _ (hl ▸ hi),if_neg (Ne.symm hk)]
structure Truth (k:Wk) (ws:List Int):Prop where
 len:ws.length=k.n
 room:∀ i,i<k.n->0<=ws.getD i 0/\ws.getD i 0<=(k.v i).room
 loss:∀ i,i<k.n->(∃ j,j<k.n/\(k.v j).from_=(i:Int))->(k.v i).lo<=ws.getD i 0-sumF (fun j=>(k.v j).from_) k.n ws i/\ws.getD i 0-sumF (fun j=>(k.v j).from_) k.n ws i<=(k.v i).hi
 rdg:∀ r∈k.rdg,r.shown-r.err<=ws.getD r.vessel.toNat 0/\ws.getD r.vessel.toNat 0<=r.shown+r.err
structure nZ (l:List nN) (ws ss:List Int) (n m:Nat):Prop where
 ll:l.length=n
 wl:ws.length=n
 sl:ss.length=n
 fr:∀ j,j<n->-1<=(l.getD j default).from_/\(l.getD j default).from_<j
 zero:∀ j,j<m->ws.getD j 0=0
 sums:∀ j,j<m->ss.getD j 0=sumF (fun k=>(l.getD k default).from_) n ws j
 ok:∀ j,m<=j->j<n->(l.getD j default).Ok j/\0<=ws.getD j 0/\ws.getD j 0<=(l.getD j default).room
 loss:∀ j,m<=j->j<n->(∃ k,k<n/\(l.getD k default).from_=(j:Int))->(l.getD j default).lo<=ws.getD j 0-sumF (fun k=>(l.getD k default).from_) n ws j/\ws.getD j 0-sumF (fun k=>(l.getD k default).from_) n ws j<=(l.getD j default).hi
theorem nZ.bound {m:Nat} (h:nZ l ws ss n m) (hn:n<=6) (hm:m<=n) {j:Nat} (hj:j<m):0<=ss.getD j 0/\ss.getD j 0<=240:=by
 have hb:=TK n (fun k=>if (l.getD k default).from_=(j:Int) then ws.getD k 0 else 0) 40 fun k hk=>by
  have h1:0<=ws.getD k 0/\ws.getD k 0<=40:=by
   rcases Nat.lt_or_ge k m with hk2|hk2
   ·rw[h.zero k hk2];decide
   ·obtain⟨⟨_,_,_,o4,_⟩,o2,o3⟩:=h.ok k hk2 hk;omega
  by_cases e:(l.getD k default).from_=(j:Int)
  ·simp only[e,if_true];exact h1
  ·simp only[e,if_false];decide
 have e:sumF (fun k=>(l.getD k default).from_) n ws j=((List.range n).map fun k=>if (l.getD k default).from_=(j:Int) then ws.getD k 0 else 0).sum:=rfl;rw[h.sums j hj,e];have:(40:Int) * n<=240:=by omega
 omega
theorem Gf (l:List nN) (n:Nat) (hl:l.length=n) (hf:∀ j,j<n->-1<=(l.getD j default).from_/\(l.getD j default).from_<j):nZ l (List.replicate n 0) (List.replicate n 0) n n:=by
 have hz:∀ j,(List.replicate n (0:Int)).getD j 0=0:=fun j=>by
  rw[List.getD_eq_getElem?_getD,List.getElem?_replicate];split<;>rfl
 refine⟨hl,by simp,by simp,hf,fun j _=>hz j,fun j hj=>?_,fun j h1 h2=>absurd h2 (by omega),fun j h1 h2=>absurd h2 (by omega)⟩;rw[hz];unfold sumF;have:(List.range n).map (fun k=>if (l.getD k default).from_=(j:Int) then(List.replicate n (0:Int)).getD k 0 else 0)=(List.range n).map fun _=>(0:Int):=List.map_congr_left fun k _=>by
  split
  ·exact hz k
  ·rfl
 rw[this];clear this
 induction n with
 |zero=>rfl
 | succ n ih =>
  rw[List.range_succ,List.map_append,List.sum_append];have:((List.range n).map fun _=>(0:Int)).sum=0:=by
   clear ih hl hf hz hj
   induction n with
   |zero=>rfl
   |succ n ih=>rw[List.range_succ,List.map_append,List.sum_append,ih];rfl
  rw[this];rfl
theorem nZ.step {ss':List Int} {i:Nat} (h:nZ l ws ss n (i+1)) (hi:i<n) {s wt x y z:Int}
 (hs:(∃ k,k<n/\(l.getD k default).from_=(i:Int))->s=ss.getD i 0) (hwt:wt<=40) (hw0:0<=wt) (hlost:0<=wt-s) (hlost2:wt-s<=4) (hx:0<=x) (hy:0<=y) (hy2:y<=4) (hz:0<=z)
 (hsl:ss'.length=n) (hss:∀ j,j < i->ss'.getD j 0=ss.getD j 0+if (l.getD i default).from_=(j:Int) then wt else 0) :
  nZ (l.set i ⟨(l.getD i default).from_,min 40 (wt+z),max 0 (wt-s-x),wt-s+y⟩) (ws.set i wt) ss' n i:=by
 have hl:=h.ll;have hwl:=h.wl;have g1:∀ j,(l.set i ⟨(l.getD i default).from_,min 40 (wt+z),max 0 (wt-s-x),wt-s+y⟩).getD j default=if i=j then⟨(l.getD i default).from_,min 40 (wt+z),max 0 (wt-s-x),wt-s+y⟩ else l.getD j default:=fun j=>fC _ _ _ _ _ (by omega)
 have g2:∀ j,(ws.set i wt).getD j 0=if i=j then wt else ws.getD j 0:=fun j=>fC _ _ _ _ _ (by omega)
 have gf:(fun k=>((l.set i ⟨(l.getD i default).from_,min 40 (wt+z),max 0 (wt-s-x),wt-s+y⟩).getD k default).from_)=fun k=>(l.getD k default).from_:=by
  funext k;rw[g1];split
  ·next e=>subst e;rfl
  ·rfl
 have hsum:∀ j,sumF (fun k=>(l.getD k default).from_) n (ws.set i wt) j=sumF (fun k=>(l.getD k default).from_) n ws j+if (l.getD i default).from_=(j:Int) then wt else 0:=fun j=>by
  rw[Un _ n ws hwl i hi wt j,h.zero i (by omega)];simp
 have hfi:=h.fr i hi;refine⟨by simp[hl],by simp[hwl],hsl,fun j hj=>?_,fun j hj=>?_,fun j hj=>?_,fun j h1 h2=>?_,fun j h1 h2 h3=>?_⟩
 ·have:=congrFun gf j;rw[this];exact h.fr j hj
 ·rw[g2,if_neg (by omega)];exact h.zero j (by omega)
 ·rw[gf,hsum,hss j hj,h.sums j (by omega)]
 ·rw [g1,g2];by_cases e:i=j
  ·subst e;rw[if_pos rfl,if_pos rfl];refine⟨⟨hfi.1,hfi.2,?_,?_,?_,?_,?_,?_,?_⟩,?_,?_⟩<;>(try simp only)<;>omega
  ·rw[if_neg e,if_neg e];exact h.ok j (by omega) h2
 ·have h3':∃ k,k < n/\(l.getD k default).from_=(j:Int):=by
   obtain⟨k,hk,he⟩:=h3;exact⟨k,hk,by have:=congrFun gf k;rw[this]at he;exact he⟩
  rw[gf,hsum,g1,g2];by_cases e:i=j
  ·subst e;rw [if_pos rfl,if_pos rfl,if_neg (by omega),<- h.sums i (by omega),<- hs h3'];(try simp only)
   omega
  ·rw[if_neg e,if_neg e,if_neg (by omega)];have:=h.loss j (by omega) h2 h3';omega
def nT (fr:Nat->Int) (i:Nat):Nat->Bool
 |0=>false
 |m+1=>nT fr i m || decide (fr (i+1+m)=(i:Int))
theorem OD (fr:Nat->Int) (i n:Nat) (hi:i<n) (hf:∀ j,j<n->fr j<j):nT fr i (n-(i+1))=true↔∃ k,k<n/\fr k=(i:Int):=by
 have key:∀ m,nT fr i m=true↔∃ k,i<k/\k<i+1+m/\fr k=(i:Int):=fun m=>by
  induction m with
  |zero=>simp[nT];intro k h1 h2;omega
  | succ m ih =>
   rw[nT,Bool.or_eq_true,ih,decide_eq_true_eq];constructor
   ·rintro (⟨k,h1,h2,h3⟩ | h)
    ·exact⟨k,h1,by omega,h3⟩
    ·exact⟨i+1+m,by omega,by omega,h⟩
   ·rintro ⟨k,h1,h2,h3⟩;by_cases e:k=i+1+m
    ·subst e;exact .inr h3
    ·exact .inl ⟨k,h1,by omega,h3⟩
 rw[key];constructor
 ·rintro ⟨k,h1,h2,h3⟩;exact⟨k,by omega,h3⟩
 ·rintro ⟨k,h1,h2⟩;have:=hf k h1;exact⟨k,by omega,by omega,h2⟩
theorem nZ.done (h:nZ l ws ss n 0) (h0:0<n) (h6:n<=6) {rs:List je} (hr:rs.length<=4)
 (hro:∀ r∈rs,r.Ok n/\r.shown-r.err<=ws.getD r.vessel.toNat 0/\ws.getD r.vessel.toNat 0<=r.shown+r.err):(⟨l,rs⟩:Wk).Ok/\Truth ⟨l,rs⟩ ws:=by
 have hn:(⟨l,rs⟩:Wk).n=n:=h.ll;refine⟨⟨by rw[hn];exact h0,by rw[hn];exact h6,fun i hi=>(h.ok i (by omega) (by rw[hn]at hi;exact hi)).1,by show rs.length<=6;omega,fun i hi=>?_⟩,⟨by rw[hn];exact h.wl,fun i hi=>(h.ok i (by omega) (by rw[hn]at hi;exact hi)).2,fun i hi hx=>?_,fun r hr=>(hro r hr).2⟩⟩
 ·rw [hn];have hi':i < rs.length:=hi;have:(⟨l,rs⟩:Wk).rdg.getD i default=rs[i]:=by
   show rs.getD i default=_;simp[List.getD_eq_getElem?_getD,List.getElem?_eq_getElem hi']
  rw[this];exact(hro _ (List.getElem_mem hi')).1
 ·rw[hn]at hi hx |-;exact h.loss i (by omega) hi hx
theorem KP:(⟨[⟨-1,5,0,0⟩],[]⟩:Wk).Ok/\Truth ⟨[⟨-1,5,0,0⟩],[]⟩ [0]:=by
 refine⟨⟨by decide,by decide,fun i hi=>?_,by decide,fun i hi=>?_⟩,⟨rfl,fun i hi=>?_,fun i hi ⟨j,hj,he⟩=>?_,fun r hr=>by cases hr⟩⟩
 ·have:i=0:=by simpa [Wk.n] using hi
  subst this;simp[Wk.v,nN.Ok]
 ·simp at hi
 ·have:i=0:=by simpa [Wk.n] using hi
  subst this;simp[Wk.v]
 ·have:j=0:=by simpa [Wk.n] using hj
  subst this;simp[Wk.v]at he
end Go.Wg
namespace Go.Mm
open Go
variable {bh j:Nat} {Lc:List dF} {Vc:View} {lv:Value} {cn:Int}
variable {P:Program} {w0:World} {X:List Nat} {V:View} {L:List dF} {w w':World}
theorem St.lt (h:St w0 X V L w) {e:dF} (he:e∈L) {b:Nat} (hb:e.foot=some b):b<w.heap.size:=(h.has e he).lt hb
theorem St.free (h:St w0 X V L w) (hj:w.heap.size<=j):V j=none:=by
 cases hv:V j with
 |none=>rfl
 |some o =>
  have:=lt_of_heap (h.view j o hv);omega
theorem St.comp (h:St w0 X V L w) {g:Nat} {t:TypeId} {cs cs':List Value} (hj:L[j]? = some (.blk g t cs)) (hc:St w [g] Vc (.blk g t cs'::Lc) w') :
  St w0 X V (Lc ++ L.set j (.blk g t cs')) w':=by
 have hgw:g<w.heap.size:=h.lt (List.mem_of_getElem? hj) rfl;have hold:∀ k,k<w.heap.size->k≠g->w'.heap[k]? = w.heap[k]?:=fun k hk hn=>hc.old k hk (by simpa using hn)
 have hnd:=hc.nd;simp only[List.filterMap_cons,dF.foot,List.nodup_cons]at hnd;have hLc:∀ e∈Lc,∀ b,e.foot=some b->w.heap.size<=b:=fun e he b hb=>by
  rcases hc.new e (List.mem_cons_of_mem _ he) b hb with h1|h1
  ·exact h1
  ·have:b=g:=by simpa using h1
   subst this;exact absurd (List.mem_filterMap.2 ⟨e,he,hb⟩) hnd.1
 have hset:∀ e∈L.set j (.blk g t cs'),e=.blk g t cs'\/(e∈L/\∀ b,e.foot=some b->b≠g):=fun e he=>by
  obtain⟨i,hi⟩:=List.mem_iff_getElem?.1 he;by_cases e1:j=i
  ·subst e1;rw[List.getElem?_set_self (List.getElem?_eq_some_iff.1 hj).1]at hi;exact .inl (Option.some.inj hi).symm
  ·rw[List.getElem?_set_ne e1]at hi;exact .inr ⟨List.mem_of_getElem? hi,fun b hb hbg=>by
    subst hbg;exact CZ h.nd hj hi e1 rfl hb⟩
 have hLs:=Nat.le_trans h.size hc.size;refine⟨hc.os.trans h.os,hc.output.trans h.output,hLs,fun k hk hx=>?_,fun k o hk=>?_,fun e he=>?_,fun e he b hb=>?_,fun e he b hb=>?_,?_⟩
 ·have hkg:k≠g:=by
   rintro rfl;rcases h.new _ (List.mem_of_getElem? hj) k rfl with h1|h1
   ·omega
   ·exact hx h1
  rw[hold k (Nat.lt_of_lt_of_le hk h.size) hkg];exact h.old k hk hx
 ·have h1:=h.view k o hk;have hkg:k≠g:=by
   rintro rfl;have:=h.off _ (List.mem_of_getElem? hj) k rfl;rw[this]at hk;cases hk
  rw[hold k (lt_of_heap h1) hkg];exact h1
 ·rcases List.mem_append.1 he with he | he
  ·exact hc.has e (List.mem_cons_of_mem _ he)
  ·rcases hset e he with rfl | ⟨h1,h2⟩
   ·exact hc.has _ (List.mem_cons_self ..)
   ·exact(h.has e h1).of_heap fun b hb=>hold b (h.lt h1 hb) (h2 b hb)
 ·rcases List.mem_append.1 he with he | he
  ·exact .inl (Nat.le_trans h.size (hLc e he b hb))
  ·rcases hset e he with rfl | ⟨h1,_⟩
   ·exact h.new _ (List.mem_of_getElem? hj) b hb
   ·exact h.new e h1 b hb
 ·rcases List.mem_append.1 he with he | he
  ·exact h.free (hLc e he b hb)
  ·rcases hset e he with rfl | ⟨h1,_⟩
   ·exact h.off _ (List.mem_of_getElem? hj) b hb
   ·exact h.off e h1 b hb
 ·rw[List.filterMap_append,mX (f:=.blk g t cs') hj rfl,List.nodup_append];refine⟨hnd.2,h.nd,fun a ha b hb hab=>?_⟩;subst hab;obtain⟨e,he,hf⟩:=List.mem_filterMap.1 ha;obtain⟨e',he',hf'⟩:=List.mem_filterMap.1 hb;have:=hLc e he a hf;have:=h.lt he' hf';omega
theorem St.Nq (h:St w0 X V L w) (hc:St w [] Vc Lc w'):St w0 X V (Lc ++ L) w':=by
 have hold:∀ k,k<w.heap.size->w'.heap[k]? = w.heap[k]?:=fun k hk=>hc.old k hk (by simp)
 have hLc:∀ e∈Lc,∀ b,e.foot=some b->w.heap.size<=b:=fun e he b hb=>by
  rcases hc.new e he b hb with h1|h1
  ·exact h1
  ·cases h1
 refine⟨hc.os.trans h.os,hc.output.trans h.output,Nat.le_trans h.size hc.size,fun k hk hx=>?_,fun k o hk=>?_,fun e he=>?_,fun e he b hb=>?_,fun e he b hb=>?_,?_⟩
 ·rw[hold k (Nat.lt_of_lt_of_le hk h.size)];exact h.old k hk hx
 ·have h1:=h.view k o hk;rw[hold k (lt_of_heap h1)];exact h1
 ·rcases List.mem_append.1 he with he | he
  ·exact hc.has e he
  ·exact(h.has e he).of_heap fun b hb=>hold b (h.lt he hb)
 ·rcases List.mem_append.1 he with he | he
  ·exact .inl (Nat.le_trans h.size (hLc e he b hb))
  ·exact h.new e he b hb
 ·rcases List.mem_append.1 he with he | he
  ·exact h.free (hLc e he b hb)
  ·exact h.off e he b hb
 ·rw[List.filterMap_append,List.nodup_append];refine⟨hc.nd,h.nd,fun a ha b hb hab=>?_⟩;subst hab;obtain⟨e,he,hf⟩:=List.mem_filterMap.1 ha;obtain⟨e',he',hf'⟩:=List.mem_filterMap.1 hb;have:=hLc e he a hf;have:=h.lt he' hf';omega
abbrev bn (lv:Value) (cn st:Int):List Value:=[lv,.int .i64 cn,.int .u64 st]
structure Gg (bh:Nat) (lv:Value) (cn c:Int) (w w':World):Prop where
 kp:ni bh w w'
 hat:∃ cn' st',cn<=cn'/\cn'<=cn+c/\w'.heap[bh]? = some (.cells (bn lv cn' st').toArray 90 (0,0))
theorem eF {f:FuncId} {args:Array Value} {R:Ending->World->Prop} (hS:St w0 X V L w) {st:Int} [hj:Hs L bh j 90 (bn lv cn st)]
  (h:∃ (c:Int) (Pr:Value->Prop),(V bh=none->w.heap[bh]? = some (.cells (bn lv cn st).toArray 90 (0,0))->Calls P f args w fun e w'=>∃ v,e=.returned v/\Pr v/\Gg bh lv cn c w w') /\
   ∀ v cn' st' w',Pr v->cn<=cn'->cn'<=cn+c->St w0 X V (L.set j (.blk bh 90 (bn lv cn' st'))) w'->R (.returned v) w'):Calls P f args w R:=by
 obtain⟨c,Pr,hc,h⟩:=h;refine(hc (hS.off _ (List.mem_of_getElem? hj.ok) bh rfl) (hS.at hj.ok)).mono fun e w' ⟨v,he,hp,hk⟩=>?_
 subst he;obtain⟨cn',st',h1,h2,h3⟩:=hk.hat;exact h v cn' st' w' hp h1 h2 (hS.mut hj.ok hk.kp h3 rfl)
theorem uo {c cn' st':Int} (hS:St w0 [bh] V L w) [hj:Hs L bh j 90 (bn lv cn' st')] (h1:cn<=cn') (h2:cn'<=cn+c):Gg bh lv cn c w0 w:=⟨hS.Js,cn',st',h1,h2,hS.at hj.ok⟩
section
variable {bh j:Nat} {lv:Value} {cn st:Int}
variable {l:List Oper} {md:Region.Mode} {o:Oper} {a:Act} {Q:Exit->Act->World->Prop} {S:World->Prop} {fuel:Nat} {listed:Array Bool} {K:Act->World->Prop} {ops:Array Oper} {i₀:Nat}
theorem yB {f:FuncId} {args:Array Value} {R:Value->World->Prop} (hi:ops[i₀]? = some o) (hgd:Region.wanted o (yielded ops a.tmps)=true) (hr:(execOp a.eval o).run P w=.ok (.enter f args) w)
 (hc:Calls P f args w fun e w'=>∃ v,e=.returned v/\R v w') (h:∀ v w',R v w'->K (a.put o.dst v) w'):wpOp P ops Q i₀ K a w:=by
 unfold wpOp;simp only[hi];rw[hgd];refine .inl ?_;unfold Oper.wp;rw[hr];exact hc.mono fun e w' ⟨v,he,hR⟩=>by subst he;exact h v w' hR
theorem VX (i:Nat) (hi₀:l[i]? = some o) (hS:St w0 X V L w) (hw:Region.wanted o (yielded l.toArray a.tmps)=true) [hj:Hs L bh j 90 (bn lv cn st)]
  (h:∃ f args,(execOp a.eval o).run P w=.ok (.enter f args) w/\∃ (c:Int) (Pr:Value->Prop),(V bh=none->w.heap[bh]? = some (.cells (bn lv cn st).toArray 90 (0,0))->Calls P f args w fun e w'=>∃ v,e=.returned v/\Pr v/\Gg bh lv cn c w w') /\
   ∀ v cn' st' a' l',Pr v->cn<=cn'->cn'<=cn+c->a.put o.dst v=a'->listed.setIfInBounds i true=l'->∀ w',St w0 X V (L.set j (.blk bh 90 (bn lv cn' st'))) w'->S w'/\wpAnyH P md l.toArray Q S fuel l' a' w') :
  wpOp P l.toArray Q i (fun a' w'=>S w'/\wpAnyH P md l.toArray Q S fuel (listed.setIfInBounds i true) a' w') a w:=by
 obtain⟨f,args,hr,c,Pr,hc,h⟩:=h;refine yB (R:=fun v w'=>Pr v/\Gg bh lv cn c w w') (jV hi₀) hw hr (hc (hS.off _ (List.mem_of_getElem? hj.ok) bh rfl) (hS.at hj.ok)) fun v w' ⟨hp,hk⟩=>?_
 obtain⟨cn',st',h1,h2,h3⟩:=hk.hat;exact h v cn' st' _ _ hp h1 h2 rfl rfl w' (hS.mut hj.ok hk.kp h3 rfl)
theorem yC (i:Nat) (hr:Region.ready md l.toArray listed=[i]) (hi₀:l[i]? = some o) (hS:St w0 X V L w) (hw:Region.wanted o (yielded l.toArray a.tmps)=true) [hj:Hs L bh j 90 (bn lv cn st)]
  (h:∃ f args,(execOp a.eval o).run P w=.ok (.enter f args) w/\∃ (c:Int) (Pr:Value->Prop),(V bh=none->w.heap[bh]? = some (.cells (bn lv cn st).toArray 90 (0,0))->Calls P f args w fun e w'=>∃ v,e=.returned v/\Pr v/\Gg bh lv cn c w w') /\
   ∀ v cn' st' a' l',Pr v->cn<=cn'->cn'<=cn+c->a.put o.dst v=a'->listed.setIfInBounds i true=l'->∀ w',St w0 X V (L.set j (.blk bh 90 (bn lv cn' st'))) w'->S w'/\wpAnyH P md l.toArray Q S fuel l' a' w') :
  wpAnyH P md l.toArray Q S (fuel+1) listed a w:=mG hr (VX i hi₀ hS hw h)
theorem CU (i:Nat) (hi₀:l[i]? = some o) (hs:Region.noSelect l.toArray=true) (hf:Region.free md l.toArray listed i=true) (hr:(Region.ready md l.toArray listed).contains i=true)
 (hQ:∀ v c a w,Q (.panic c) (a.put o.dst v) w->Q (.panic c) a w) (hw:Region.wanted o (yielded l.toArray a.tmps)=true) (hS:S w)
 {ty:TypeId} {x:Operand} (ho:o.op=.load ty x) {b k:Nat} (hx:a.eval x=.pointer (some ⟨b,k,none⟩)) [hty:iR P ty]
 (h:∃ v,(∀ w,S w->w.cell? ⟨b,k,none⟩=some v)/\∀ a' l',a.put o.dst v=a'->listed.setIfInBounds i true=l'->wpAnyH P md l.toArray Q S fuel l' a' w):wpAnyH P md l.toArray Q S (fuel+1) listed a w:=by
 obtain⟨v,hv,h⟩:=h;exact wpAnyH_take (jV hi₀) hs hf hr (hQ v) (.inl ⟨hw,fun w hS=>fP ho hx hty.ok (hv w hS)⟩) hS (h _ _ rfl rfl)
end
theorem zf (hS:St w0 X V L w) {b b' j j':Nat} {t t':TypeId} {cs cs':List Value} [h:Hs L b j t cs] [h':Hs L b' j' t' cs'] (ht:t≠t'):b≠b':=by
 rintro rfl;have h1:=hS.at h.ok;rw[hS.at h'.ok]at h1;simp at h1;exact ht h1.2.symm
end Go.Mm
namespace Go.Wg
open Go Go.Mm Go.Proofs.YtjjmefieegcddaaDoor
variable {v:Value} {t:TypeId} {a a' b b' n s:Nat} {pad xs:List Value} {k:Wk}
variable {w0:World} {X:List Nat} {V:View} {L:List dF} {w:World}
theorem rO (h:St w0 X V (.row v t s n xs::L) w) :
  (v=.slice none 0 0/\n=0)\/∃ g cap pad,v=.slice (some ⟨g,0,none⟩) n cap/\n<=cap/\cap<=maxLen/\xs.length=n * s/\(xs ++ pad).length=cap * s/\(∀ c∈pad,iL c=true)/\St w0 X V (.blk g t (xs ++ pad)::L) w:=by
 obtain⟨⟨hl,hr⟩,hp⟩:=h.has _ (List.mem_cons_self ..);rcases hr with⟨hv,h0⟩|⟨g,cap,cur,rfl,_,hb,h1,h2,h3,h4⟩
 ·exact .inl ⟨hv,h0⟩
 ·refine .inr ?_;have hxs:xs ++ cur.toList.drop (n * s)=cur.toList:=by rw [<- h4,List.take_append_drop]
  have hb':w.heap[g]? = some (.cells cur t (0,0)):=by simpa using hb
  refine⟨g,cap,cur.toList.drop (n * s),rfl,h1,h2,hl,by rw[hxs];simpa using h3,fun c hc=>?_,?_⟩
  ·obtain⟨i,hi⟩:=List.mem_iff_getElem?.1 hc;rw[List.getElem?_drop]at hi;exact hp g rfl cur t (0,0) hb' (n * s+i) c (by omega) (by simpa using hi)
  ·rw [hxs];refine ⟨h.os,h.output,h.size,h.old,h.view,fun e he=>?_,fun e he b hb=>?_,fun e he b hb=>?_,h.nd⟩
   ·rcases List.mem_cons.1 he with rfl | he
    ·exact hb'
    ·exact h.has e (List.mem_cons_of_mem _ he)
   ·rcases List.mem_cons.1 he with rfl | he
    ·exact h.new _ (List.mem_cons_self ..) b hb
    ·exact h.new e (List.mem_cons_of_mem _ he) b hb
   ·rcases List.mem_cons.1 he with rfl | he
    ·exact h.off _ (List.mem_cons_self ..) b hb
    ·exact h.off e (List.mem_cons_of_mem _ he) b hb
theorem QC (h:St w0 X V (.row v t s n xs::L) w) (hn:0<n) :
  ∃ g cap pad,v=.slice (some ⟨g,0,none⟩) n cap/\n<=cap/\cap<=maxLen/\xs.length=n * s/\(xs ++ pad).length=cap * s/\(∀ c∈pad,iL c=true)/\St w0 X V (.blk g t (xs ++ pad)::L) w:=by
 rcases rO h with⟨_,h0⟩|h
 ·omega
 ·exact h
theorem XT {g cap:Nat} (h:St w0 X V (.blk g t (xs ++ pad)::L) w) (h1:n<=cap) (h2:cap<=maxLen) (hl:xs.length=n * s) (h3:(xs ++ pad).length=cap * s) (hp:∀ c∈pad,iL c=true) :
  St w0 X V (.row (.slice (some ⟨g,0,none⟩) n cap) t s n xs::L) w:=by
 have hb:w.heap[g]? = some (.cells (xs ++ pad).toArray t (0,0)):=h.has _ (List.mem_cons_self ..);refine⟨h.os,h.output,h.size,h.old,h.view,fun e he=>?_,fun e he b hb=>?_,fun e he b hb=>?_,h.nd⟩
 ·rcases List.mem_cons.1 he with rfl | he
  ·refine ⟨⟨hl,.inr ⟨g,cap,(xs ++ pad).toArray,rfl,Nat.zero_le _,hb,h1,h2,by simpa using h3,by simp [<- hl]⟩⟩,fun g' hg' cur t' fr hcur i c hi hc=>?_⟩;have:g'=g:=by simpa [Value.ownBlock] using hg'.symm
   subst this;rw[hb]at hcur;cases hcur;rw[List.getElem?_toArray,List.getElem?_append_right (by omega)]at hc;exact hp c (List.mem_of_getElem? hc)
  ·exact h.has e (List.mem_cons_of_mem _ he)
 ·rcases List.mem_cons.1 he with rfl | he
  ·exact h.new _ (List.mem_cons_self ..) b hb
  ·exact h.new e (List.mem_cons_of_mem _ he) b hb
 ·rcases List.mem_cons.1 he with rfl | he
  ·exact h.off _ (List.mem_cons_self ..) b hb
  ·exact h.off e (List.mem_cons_of_mem _ he) b hb
theorem oG {o:Obj} (hb:V b=none):∀ j u,V j=some u->(fun k=>if k=b then some o else V k) j=some u:=fun j u hj=>by
 have:j≠b:=by
  rintro rfl;rw[hb]at hj;cases hj
 simp[this,hj]
theorem En {V':View} {t:Nat} {α:Type} {f:α->List Value} (hf:∀ x,(f x).length=4) {l:List α} (hb:V' b=some (.cells (l.flatMap f ++ pad).toArray t (0,0))) {i:Nat} {x:α} (hx:l[i]? = some x):V'.Range b (0+i * 4) (f x):=fun j v hj=>by
 have hj4:j<4:=by
  have:=(List.getElem?_eq_some_iff.1 hj).1
  rwa [hf]at this
 refine⟨_,_,_,hb,?_⟩;have hi:=(List.getElem?_eq_some_iff.1 hx).1;rw[List.getElem?_toArray,Nat.zero_add,List.getElem?_append_left (by rw[jK f hf];omega),Ei f hf l i x hx j hj4];exact hj
theorem Eh {vv rv:Value} (h:St w0 [] V (.row vv 29 4 k.n (fD k.ves)::.row rv 59 4 k.rdg.length (fH k.rdg)::L) w) (hg:gN<=w0.heap.size) (hB:Bs V) (hn:0<k.n/\k.n<=100/\k.rdg.length<=100) :
  ∃ V',(∀ j o,V j=some o->V' j=some o)/\St w0 [] V' L w/\iJ V' vv rv k:=by
 have hv4:∀ v:nN,v.cells.length=4:=fun _=>rfl
 have hr4:∀ r:je,r.cells.length=4:=fun _=>rfl
 have hfl:∀ i,i<k.n->k.ves[i]? = some (k.v i):=fun i hi=>by
  unfold Wk.n at hi;simp[Wk.v,List.getD_eq_getElem?_getD,List.getElem?_eq_getElem hi]
 have hfr:∀ i,i<k.rdg.length->k.rdg[i]? = some (k.rdg.getD i default):=fun i hi=>by simp[List.getD_eq_getElem?_getD,List.getElem?_eq_getElem hi]
 have new0:∀ {L:List dF} {V:View} {w:World} {b t cs},St w0 [] V (.blk b t cs::L) w->gN<=b:=fun h=>by
  rcases h.new _ (List.mem_cons_self ..) _ rfl with h1|h1
  ·omega
  ·cases h1
 obtain⟨g,cap,pad,rfl,c1,c2,c3,c4,c5,h1⟩:=QC h hn.1;have hgV:=h1.off _ (List.mem_cons_self ..) g rfl;have hgn:=new0 h1;have h2:=h1.freeze;obtain⟨o,ho⟩:=hB.last;have hcv:∀ v∈(fD k.ves ++ pad).toArray,iL v=true:=fun v hv=>by
  rcases List.mem_append.1 (by simpa using hv)with hv|hv
  ·exact Gw _ v hv
  ·exact c5 v hv
 have hRv:∀ {V':View},V' g=some (.cells (fD k.ves ++ pad).toArray 29 (0,0))->pW V' (.slice (some ⟨g,0,none⟩) k.n cap) k.n 4 fun i=>(k.v i).cells:=fun hb=>⟨_,cap,rfl,c1,c2,fun _=>⟨g,0,rfl,fun i hi=>En hv4 hb (hfl i hi)⟩⟩
 rcases rO h2 with⟨rfl,r0⟩|⟨gr,capr,padr,rfl,r1,r2,r3,r4,r5,h3⟩
 ·refine ⟨_,oG hgV,h2.drop,⟨hRv (if_pos rfl),⟨none,0,by rw [r0],by omega,by decide,fun h=>by omega⟩,hn.2,?_⟩⟩;refine ⟨[g],⟨fun b hb=>?_,fun b hb=>?_,⟨o,oG hgV _ _ ho⟩⟩,.inr (.inr ⟨g,0,_,_,rfl,by simp⟩),.inl rfl⟩
  ·obtain rfl:b=g:=by simpa using hb
   exact⟨_,_,if_pos rfl,fun v hv=>.inl (hcv v hv)⟩
  ·obtain rfl:b=g:=by simpa using hb
   exact hgn
 ·have hrV:=h3.off _ (List.mem_cons_self ..) gr rfl;have hrn:=new0 h3;have h4:=h3.freeze;have hrg:g≠gr:=by
   rintro rfl;simp at hrV
  have hcr:∀ v∈(fH k.rdg ++ padr).toArray,iL v=true:=fun v hv=>by
   rcases List.mem_append.1 (by simpa using hv)with hv|hv
   ·exact zS _ v hv
   ·exact r5 v hv
  have m1:=oG (o:=.cells (fD k.ves ++ pad).toArray 29 (0,0)) hgV;have m2:=oG (V:=fun j=>if j=g then some (.cells (fD k.ves ++ pad).toArray 29 (0,0)) else V j) (o:=.cells (fH k.rdg ++ padr).toArray 59 (0,0)) hrV;have e1:=m2 g _ (if_pos rfl);refine⟨_,fun j u hj=>m2 j u (m1 j u hj),h4,⟨hRv e1,⟨_,capr,rfl,r1,r2,fun _=>⟨gr,0,rfl,fun i hi=>En hr4 (if_pos rfl) (hfr i hi)⟩⟩,hn.2,?_⟩⟩;refine⟨[g,gr],⟨fun b hb=>?_,fun b hb=>?_,⟨o,m2 _ _ (m1 _ _ ho)⟩⟩,.inr (.inr ⟨g,0,_,_,rfl,by simp⟩),.inr (.inr ⟨gr,0,_,_,rfl,by simp⟩)⟩
  ·rcases List.mem_cons.1 hb with rfl | hb
   ·exact⟨_,_,e1,fun v hv=>.inl (hcv v hv)⟩
   ·obtain rfl:b=gr:=by simpa using hb
    exact⟨_,_,if_pos rfl,fun v hv=>.inl (hcr v hv)⟩
  ·rcases List.mem_cons.1 hb with rfl | hb
   ·exact hgn
   ·obtain rfl:b=gr:=by simpa using hb
    exact hrn
def Sub (a b:Nat):Prop:=∀ i,a.testBit i=true->b.testBit i=true
theorem Sub.rfl:Sub a a:=fun _ h=>h
theorem Sub.and (h1:Sub a a') (h2:Sub b b'):Sub (a &&& b) (a' &&& b'):=fun i h=>by
 rw[Nat.testBit_and,Bool.and_eq_true]at h |-;exact⟨h1 i h.1,h2 i h.2⟩
theorem Sub.or (h1:Sub a a') (h2:Sub b b'):Sub (a ||| b) (a' ||| b'):=fun i h=>by
 rw[Nat.testBit_or,Bool.or_eq_true]at h |-;exact h.imp (h1 i) (h2 i)
theorem Sub.shl (h:Sub a a') (n j:Nat):Sub (a * 2 ^ n % 2 ^ j) (a' * 2 ^ n % 2 ^ j):=fun i hi=>by
 rw[Nat.testBit_mod_two_pow,<- Nat.shiftLeft_eq,Nat.testBit_shiftLeft,Bool.and_eq_true,Bool.and_eq_true]at hi |-;exact⟨hi.1,hi.2.1,h _ hi.2.2⟩
theorem Ua (h:a<=b) (i:Nat):(qW a b).testBit i=(decide (a<=i) && decide (i<=b)):=by
 have e:qW a b=(2 ^ (b+1-a)-1) <<< a:=by
  unfold qW;rw[Nat.shiftLeft_eq,Nat.sub_mul,Nat.one_mul,<- Nat.pow_add];congr 2;omega
 rw[e,Nat.testBit_shiftLeft,Nat.testBit_two_pow_sub_one];by_cases h1:a<=i
 ·simp only [h1,ge_iff_le,decide_true,Bool.true_and];by_cases h2:i<=b
  ·simp only[h2,decide_true,decide_eq_true_eq];omega
  ·simp only[h2,decide_false,decide_eq_false_iff_not];omega
 ·simp[h1]
theorem wI (lo hi:Int) (i:Nat):(dO lo hi).testBit i=(decide (lo<=i) && decide ((i:Int)<=hi) && decide (i<=40)):=by
 unfold dO;by_cases h:hi<0\/hi<lo
 ·rw[if_pos h,Nat.zero_testBit,Eq.comm,Bool.and_eq_false_iff,Bool.and_eq_false_iff];simp only[decide_eq_false_iff_not];omega
 ·rw [if_neg h];by_cases h2:40 < lo
  ·rw[if_pos h2,Nat.zero_testBit,Eq.comm,Bool.and_eq_false_iff,Bool.and_eq_false_iff];simp only[decide_eq_false_iff_not];omega
  ·rw[if_neg h2,Ua (by omega),Bool.eq_iff_iff];simp only[Bool.and_eq_true,decide_eq_true_eq];omega
structure abK (s s':SS):Prop where
 lim:∀ i,Sub (s.aK i) (s'.aK i)
 los:∀ i,Sub (dO (s.aP i).1 (s.aP i).2) (dO (s'.aP i).1 (s'.aP i).2)
theorem XA (k:Wk) (s:SS):can k s=true↔∀ i,i<k.n->(up k s).getD i 0≠0:=by
 unfold can settle;rw[Option.isNone_iff_eq_none,List.find?_eq_none];constructor
 ·intro h i hi;have:=h i (by simp[hi]);simpa using this
 ·intro h i hi;have:=h i (by simpa using hi);simpa using this
def Wk.more (k:Wk) (v:Nat) (n:Nat):Wk:=⟨k.ves.set v ⟨(k.v v).from_,(k.v v).room,(k.v v).lo,(k.v v).hi+n⟩,k.rdg⟩
theorem BF {l:List Int} (h:∀ e∈l,e=0):bC l=0:=by
 induction l with
 |nil=>rfl
 |cons e l ih=>rw[bC,if_pos (h e (by simp))];exact ih fun x hx=>h x (by simp[hx])
theorem afL {n lo hi:Int} (h1:lo<=n) (h2:n<=hi):fQ n lo hi=false:=by
 unfold fQ;rw[Bool.or_eq_false_iff,decide_eq_false_iff_not,decide_eq_false_iff_not];omega
theorem SC (h:k.Ok):nS k=0:=by
 have h0:=h.pos;have h6:=h.le;have hr:=h.rdl;have hv:wo k k.n=0:=BF fun e he=>by
  obtain⟨i,hi,rfl⟩:=List.mem_map.1 he;have hi:=List.mem_range.1 hi;obtain⟨h1,h2,h3,h4,h5,h6,h7,h8,h9⟩:=h.ves i hi;unfold Le;rw[afL (by omega) (by omega),afL h3 h4,afL h5 h6,afL h7 h8];simp[bI,bC,h9]
 have hd:uz k k.rdg.length=0:=BF fun e he=>by
  obtain⟨i,hi,rfl⟩:=List.mem_map.1 he;have hi:=List.mem_range.1 hi;obtain⟨h1,h2,h3,h4,h5,h6,h7,h8⟩:=h.rdg i hi;unfold KD;rw[afL h1 (by omega),afL h3 h4,afL h5 h6,afL h7 h8];simp[bI,bC]
 unfold nS;rw[hv,hd,if_neg (by omega)];simp[bI,bC,h0,h6]
theorem G7 (h:k.Ok) (ns:List Int) (hn:∀ n∈ns,0<=n/\n<k.n):aS k ns=0:=by
 unfold aS;rw[SC h];simp only[ne_eq,not_true,if_false];rw[if_pos];rw[List.all_eq_true];intro n hm;obtain⟨h1,h2⟩:=hn n hm;rw[afL h1 (by omega)];rfl
end Go.Wg
namespace Go.Proofs.YtjjmefieegcddaaDoor
open Go.RowKit Go.Wg Go.Mm
variable {bh:Nat} {lv:Value} {cn n st:Int} {cs:List Value}
variable {w:World} {V:View}
theorem MI (x:Int):0<=IntKind.u64.wrap x:=by
 unfold IntKind.wrap;simp only[IntKind.signed,Bool.false_eq_true,if_false];exact Int.emod_nonneg _ (by decide)
theorem BO (x y:Int):0<=bits .xor .u64 x y:=MI _
theorem Xy (bh:Nat) (l:List Int) (lv:Value) (hl:VI V lv l) (cn st:Int) (h0:0<=cn) (hc:cn<=1000000) (hVb:V bh=none) (hV:V.In w) (hg:w.heap[bh]? = some (.cells (bn lv cn st).toArray 90 (0,0))) :
  Calls Tryd.prog 96 #[ptr bh] w fun e w'=>∃ v,e=.returned v/\(∃ x:Int,v=.int .u64 x/\0<=x)/\Gg bh lv cn 1 w w':=by
 obtain⟨la,lcap,rfl,hlc,hlm,hle⟩:=hl.is;have hS:=St.xW w V hV hg hVb;clear hl hg;unfold ptr;by_cases hlt:cn<l.length
 ·obtain ⟨lg,lo,rfl,hlr⟩:=hle zw;obtain ⟨c,hcn⟩:∃ c:Nat,cn=(c:Int):=⟨cn.toNat,by omega⟩;subst hcn;have hcell:=hlr c zw 0 _ rfl;simp only [Nat.mul_one,Nat.add_zero] at hcell;generalize l.getD c 0=y at hcell;clear hle hlr;go_enter Tryd.func96,Tryd.ntmps96
  go_wp2_with (refine yy ?_;clear hS;intro w' hS)
  (refine bF (S:=(St w [bh] V [.blk bh 90 (bn (.slice (some ⟨lg,lo,none⟩) l.length lcap) (c:Int) st)])) (List.replicate 10 false) rfl zk ?_;replace hS:=St.eY hS;(refine yh [.m 0,.p 1,.p 2,.a 3,.m 4,.p 5,.p 6,.a 7,.p 8,.p 9] ?_);refine wpAnyH_done zk ?_ _)
  go_wp2_with (fail)
  (refine bF (S:=(St w [bh] V [.blk bh 90 (bn (.slice (some ⟨lg,lo,none⟩) l.length lcap) (c:Int) st)])) (List.replicate 15 false) rfl zk ?_;replace hS:=St.eY hS;(refine yh [.m 0,.m 1,.p 2,.p 3,.a 4,.m 5,.p 6,.p 7,.a 8,.p 9,.c 10,.p 11,.p 12,.p 13,.p 14] ?_);refine wpAnyH_done zk ?_ _)
  generalize bits .xor .u64 _ _=t3;go_wp2_with (first|(refine ym ?_;clear hS;intro w' hS)|(refine ys ?_;clear hS;intro w' hS))
  (refine bF (S:=(St w [bh] V [])) (List.replicate 14 false) rfl zk ?_;replace hS:=St.eY hS;(refine yh [.m 0,.m 1,.p 2,.p 3,.m 5,.p 6,.p 7] ?_);refine nP 4 8 zk ?_ ?_;rotate_left;(refine yK 8 rfl hS rfl  rfl rfl ?_;refine⟨_,zd,?_⟩;clear hS;refine zH ?_;intro w' hS;refine⟨(St.aG hS),?_⟩);(refine yh [.p 9] ?_);(refine AZ 4 zk rfl hS rfl rfl rfl ?_;refine⟨_,zd,?_⟩;clear hS;refine zH ?_;intro w' hS;refine⟨(St.aG hS),?_⟩);(refine yh [.p 10,.p 11,.p 12] ?_);((refine jl 13 zk rfl hS rfl  rfl rfl ?_;refine⟨_,zd,?_⟩);clear hS;refine zH ?_;intro w' hS;(try simp only[sE]at hS);refine⟨(St.aG hS),?_⟩);refine wpAnyH_done zk ?_ _;rotate_left;(refine yK 4 rfl hS rfl  rfl rfl ?_;refine⟨_,zd,?_⟩;clear hS;refine zH ?_;intro w' hS;refine⟨(St.aG hS),?_⟩);(refine AZ 8 zk rfl hS rfl rfl rfl ?_;refine⟨_,zd,?_⟩;clear hS;refine zH ?_;intro w' hS;refine⟨(St.aG hS),?_⟩);(refine yh [.p 9,.p 10,.p 11,.p 12] ?_);((refine jl 13 zk rfl hS rfl  rfl rfl ?_;refine⟨_,zd,?_⟩);clear hS;refine zH ?_;intro w' hS;(try simp only[sE]at hS);refine⟨(St.aG hS),?_⟩);refine wpAnyH_done zk ?_ _)
  all_goals (go_wp2_with (refine yy ?_;clear hS;intro w' hS))
  all_goals ((refine yj ?_;refine bK ⟨_,by exact bH (r1:=.tmp 2) zk (by exact bD rfl),?_⟩ rfl))
  all_goals exact⟨_,rfl,⟨_,rfl,Int.ediv_nonneg (BO _ _) (by decide)⟩,uo hS zw zw⟩
 ·clear hle;go_enter Tryd.func96,Tryd.ntmps96
  go_wp2_with (refine yy ?_;clear hS;intro w' hS)
  (refine bF (S:=(St w [bh] V [.blk bh 90 (bn (.slice la l.length lcap) cn st)])) (List.replicate 10 false) rfl zk ?_;replace hS:=St.eY hS;(refine yh [.m 0,.p 1,.p 2,.a 3,.m 4,.p 5,.p 6,.a 7,.p 8,.p 9] ?_);refine wpAnyH_done zk ?_ _)
  go_wp2_with (first|(refine ym ?_;clear hS;intro w' hS)|(refine ys ?_;clear hS;intro w' hS))
  (refine bF (S:=(St w [bh] V [])) (List.replicate 14 false) rfl zk ?_;replace hS:=St.eY hS;(refine yh [.m 0,.m 1,.p 2,.p 3,.m 5,.p 6,.p 7] ?_);refine nP 4 8 zk ?_ ?_;rotate_left;(refine yK 8 rfl hS rfl  rfl rfl ?_;refine⟨_,zd,?_⟩;clear hS;refine zH ?_;intro w' hS;refine⟨(St.aG hS),?_⟩);(refine yh [.p 9] ?_);(refine AZ 4 zk rfl hS rfl rfl rfl ?_;refine⟨_,zd,?_⟩;clear hS;refine zH ?_;intro w' hS;refine⟨(St.aG hS),?_⟩);(refine yh [.p 10,.p 11,.p 12] ?_);((refine jl 13 zk rfl hS rfl  rfl rfl ?_;refine⟨_,zd,?_⟩);clear hS;refine zH ?_;intro w' hS;(try simp only[sE]at hS);refine⟨(St.aG hS),?_⟩);refine wpAnyH_done zk ?_ _;rotate_left;(refine yK 4 rfl hS rfl  rfl rfl ?_;refine⟨_,zd,?_⟩;clear hS;refine zH ?_;intro w' hS;refine⟨(St.aG hS),?_⟩);(refine AZ 8 zk rfl hS rfl rfl rfl ?_;refine⟨_,zd,?_⟩;clear hS;refine zH ?_;intro w' hS;refine⟨(St.aG hS),?_⟩);(refine yh [.p 9,.p 10,.p 11,.p 12] ?_);((refine jl 13 zk rfl hS rfl  rfl rfl ?_;refine⟨_,zd,?_⟩);clear hS;refine zH ?_;intro w' hS;(try simp only[sE]at hS);refine⟨(St.aG hS),?_⟩);refine wpAnyH_done zk ?_ _)
  all_goals (go_wp2_with (refine yy ?_;clear hS;intro w' hS))
  all_goals ((refine yj ?_;refine bK ⟨_,by exact bH (r1:=.tmp 2) zk (by exact bD rfl),?_⟩ rfl))
  all_goals exact⟨_,rfl,⟨_,rfl,Int.ediv_nonneg (BO _ _) (by decide)⟩,uo hS zw zw⟩
structure xB (V:View) (bh:Nat) (lv:Value) (cn:Int):Prop where
 list:∃ l:List Int,VI V lv l
 pos:0<=cn
 small:cn<=1000000
class QO (cs:List Value) (l:outParam (List Int)):Prop where
 ok:cs=aV l
instance:QO [] []:=⟨rfl⟩
instance {x:Int} {cs:List Value} {l:List Int} [h:QO cs l]:QO (.int .i64 x::cs) (x::l):=⟨by rw[h.ok];rfl⟩
theorem xC (hh:xB V bh lv cn) (hn:n<=1000/\-1000<=n) (hV:V.In w) (hVb:V bh=none) (hg:w.heap[bh]? = some (.cells (bn lv cn st).toArray 90 (0,0))) :
  Calls Tryd.prog 39 #[.pointer (some ⟨bh,0,none⟩),.int .i64 n] w fun e w'=>∃ v,e=.returned v/\(∃ x:Int,v=.int .i64 x/\0<=x/\x<=max n 0)/\Gg bh lv cn 1 w w':=by
 obtain⟨⟨l,hl⟩,h0,hc⟩:=hh;obtain⟨hn1,hn2⟩:=hn;have hS:=St.xW w V hV hg hVb;have hst:=fun(w:World) (hV:V.In w)=>Xy (w:=w) bh l lv hl cn st h0 hc hVb hV
 clear hl hg;by_cases h1:n<1
 ·go_enter Tryd.func39,Tryd.ntmps39
  go_wp2_with (go_at_call 96;refine eF hS ⟨1,_,fun _ hg=>hst _ (St.view hS) hg,?_⟩;clear hS;intro v cn' st' w' hp k1 k2 hS;(try simp only[sE]at hS);obtain⟨x,rfl,hx⟩:=hp)
  (refine yj ?_;refine bK ⟨_,by exact bH (r1:=.tmp 4) zk (by exact bD rfl),?_⟩ rfl)
  exact⟨_,rfl,⟨_,rfl,by omega,by omega⟩,uo hS zw zw⟩
 ·have hw:IntKind.u64.wrap n=n:=wrap_u64 n zw zw;have hw2:IntKind.u64.wrap (n+1)=n+1:=wrap_u64 (n+1) zw zw;have hr:∀ x:Int,0<=wrap64 (x % (n+1))/\wrap64 (x % (n+1))<=n:=fun x=>by
   have h2:=Int.emod_nonneg x (b:=n+1) zw;have h3:=Int.emod_lt_of_pos x (b:=n+1) zw;unfold wrap64;omega
  replace hr:=aj hr;go_enter Tryd.func39,Tryd.ntmps39
  go_wp2_with (go_at_call 96;refine eF hS ⟨1,_,fun _ hg=>hst _ (St.view hS) hg,?_⟩;clear hS;intro v cn' st' w' hp k1 k2 hS;(try simp only[sE]at hS);obtain⟨x,rfl,hx⟩:=hp)
  (refine yj ?_;refine bK ⟨_,by exact bH (r1:=.tmp 4) zk (by exact bD rfl),?_⟩ rfl)
  obtain⟨k3,k4⟩:=hr.out x;exact⟨_,rfl,⟨_,rfl,k3,by omega⟩,uo hS zw zw⟩
theorem Qi {lo hi:Int} (hh:xB V bh lv cn) (hn:lo<=400/\-400<=lo/\hi<=400/\-400<=hi) (hV:V.In w) (hVb:V bh=none) (hg:w.heap[bh]? = some (.cells (bn lv cn st).toArray 90 (0,0))) :
  Calls Tryd.prog 95 #[.pointer (some ⟨bh,0,none⟩),.int .i64 lo,.int .i64 hi] w fun e w'=>∃ v,e=.returned v/\(∃ x:Int,v=.int .i64 x/\lo<=x/\x<=max lo hi)/\Gg bh lv cn 1 w w':=by
 have hS:=St.xW w V hV hg hVb;go_enter Tryd.func95,Tryd.ntmps95
 go_wp2_with (go_at_call 39;refine eF hS ⟨1,_,fun _ hg=>xC hh zw (St.view hS) hVb hg,?_⟩;clear hS;intro v cn' st' w' hp k1 k2 hS;(try simp only[sE]at hS);obtain⟨x,rfl,hx⟩:=hp)
 (refine yj ?_;refine bK ⟨_,by exact bH (r1:=.tmp 6) zk (by exact bD rfl),?_⟩ rfl)
 exact⟨_,rfl,⟨_,rfl,by omega,by omega⟩,uo hS zw zw⟩
theorem TG (hh:xB V bh lv cn) (hn:n<=1000/\0<=n) (hV:V.In w) (hVb:V bh=none) (hg:w.heap[bh]? = some (.cells (bn lv cn st).toArray 90 (0,0))) :
  Calls Tryd.prog 72 #[.pointer (some ⟨bh,0,none⟩),.int .i64 n] w fun e w'=>∃ v,e=.returned v/\(∃ x:Bool,v=.bool x)/\Gg bh lv cn 1 w w':=by
 have hS:=St.xW w V hV hg hVb;go_enter Tryd.func72,Tryd.ntmps72
 go_wp2_with (go_at_call 39;refine eF hS ⟨1,_,fun _ hg=>xC hh zw (St.view hS) hVb hg,?_⟩;clear hS;intro v cn' st' w' hp k1 k2 hS;(try simp only[sE]at hS);obtain⟨x,rfl,hx⟩:=hp)
 (refine yj ?_;refine bK ⟨_,by exact bH (r1:=.tmp 4) zk (by exact bD rfl),?_⟩ rfl)
 exact⟨_,rfl,⟨_,rfl⟩,uo hS zw zw⟩
theorem nI {l:List Int} (h:cs=aV l) {i:Nat} (hi:i<l.length):cs[i]? = some (.int .i64 (l.getD i 0)):=by
 subst h;simp[aV,List.getD_eq_getElem?_getD,List.getElem?_eq_getElem hi]
theorem tH {b n cap:Nat} {t:TypeId} {l2:List Int} [hcs:QO cs l2] (hh:xB V bh lv cn) (hb:w.heap[b]? = some (.cells cs.toArray t (0,0))) (hl:l2.length=n/\0<n/\n<=100) (hV:V.In w) (hVb:V bh=none) (hbb:b≠bh) (hg:w.heap[bh]? = some (.cells (bn lv cn st).toArray 90 (0,0))) :
  Calls Tryd.prog 91 #[.pointer (some ⟨bh,0,none⟩),.slice (some ⟨b,0,none⟩) n cap] w fun e w'=>∃ v,e=.returned v/\(∃ x:Int,v=.int .i64 x/\x∈l2)/\Gg bh lv cn 1 w w':=by
 have hcs':=hcs.ok;obtain⟨rfl,hn0,hn1⟩:=hl;have hsub:∀ j o,V j=some o->Vw V b (.cells cs.toArray t (0,0)) j=some o:=fun j o hj=>by
  by_cases e:j=b
  ·subst e;rw[Vw.same];have:=hV j o hj;rw[hb]at this;exact this
  ·rw[Vw.other _ _ e];exact hj
 have hV':(Vw V b (.cells cs.toArray t (0,0))).In w:=fun j o hj=>by
  by_cases e:j=b
  ·subst e;rw[Vw.same]at hj;cases hj;exact hb
  ·rw[Vw.other _ _ e]at hj;exact hV j o hj
 have hVb':(Vw V b (.cells cs.toArray t (0,0))) bh=none:=by rw[Vw.other _ _ (Ne.symm hbb)];exact hVb
 have hh':xB (Vw V b (.cells cs.toArray t (0,0))) bh lv cn:=by
  obtain⟨⟨l,hl⟩,h0,hc⟩:=hh;exact⟨⟨l,pW.mono hl hsub⟩,h0,hc⟩
 have hcell:∀ i:Nat,i<l2.length->(Vw V b (.cells cs.toArray t (0,0))).Cell b i (.int .i64 (l2.getD i 0)):=fun i hi=>⟨_,_,_,Vw.same _ _ _,by simpa using nI hcs' hi⟩
 generalize Vw V b (.cells cs.toArray t (0,0))=V2 at hV' hVb' hh' hcell;clear hV hVb hh hsub hcs hcs' hb;have hS:=St.xW w V2 hV' hg hVb';go_enter Tryd.func91,Tryd.ntmps91
 go_wp2_with (first|(refine yy ?_;clear hS;intro w' hS)|(go_at_call 39;refine eF hS ⟨1,_,fun _ hg=>xC hh' zw (St.view hS) hVb' hg,?_⟩;clear hS;intro v cn' st' w' hp k1 k2 hS;(try simp only[sE]at hS);obtain⟨x,rfl,hx0,hx1⟩:=hp;obtain⟨m,hm⟩:∃ m:Nat,x=(m:Int):=⟨x.toNat,by omega⟩;subst hm;have hc:=hcell m zw;have hm1:(m:Int)<l2.length:=by omega))
 (refine yj ?_;refine bK ⟨_,by exact bH (r1:=.tmp 4) zk (by exact bD rfl),?_⟩ rfl)
 refine⟨_,rfl,⟨_,rfl,?_⟩,uo hS zw zw⟩;rw[List.getD_eq_getElem?_getD,List.getElem?_eq_getElem zw];exact List.getElem_mem _
theorem SY (hlv:∃ a n c,lv=.slice a n c):Calls Tryd.prog 23 #[lv] w fun e w'=>∃ g,e=.returned (.pointer (some ⟨g,0,none⟩))/\Kp w w'/\w.heap.size<=g/\w'.heap[g]? = some (.cells (bn lv 0 11400714819323198485).toArray 90 (0,0)):=by
 obtain⟨a,n,c,rfl⟩:=hlv;have hS:=St.start w (fun _=>none) (fun _ _ h=>nomatch h);go_enter Tryd.func23,Tryd.ntmps23
 go_wp2_with (refine yf ?_;clear hS;intro _ w' hS)
 (refine yj ?_;refine bK ⟨_,by exact bH (r1:=.tmp 2) zk (by exact bD rfl),?_⟩ rfl)
 exact⟨_,rfl,hS.bM,hS.newAt,hS.dR⟩
end Go.Proofs.YtjjmefieegcddaaDoor
