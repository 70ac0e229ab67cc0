/- A part of the proof: T7, T8. -/
import Derived.Test.YtjjmefieegcddaaDoorA03
import Derived.Conc.Own3
import Derived.Conc.Own5
import Derived.Conc.Own4
set_option linter.unusedVariables false
set_option linter.unusedSimpArgs false
namespace Go.Tm
open Go
open Go.Conc
def Ins (R:Ending→World→Prop):Prop:=∀ e w τ d,R e w→R e (w.re τ d)
def CallsB (P:Program) (f:FuncId) (args:Array Value) (w:World) (R:Ending→World→Prop):Prop :=
 ∀ cs,ToB P (G (Frame.enter P f args .normal) cs) w (fun a' w'=>∃ e fr,a'=G fr cs∧R e w'∧fr.fn=f∧fr.leaving P w' e∧e≠.outgrown∧HeapOk OC w')
section
variable {P:Program} {f0:FuncId}
theorem leaving_re {fr:Frame} {w:World} {e:Ending} (hw:HeapOk OC w) (h:fr.leaving P w e) (τ:Nat→Question→Nat) (d:Nat):fr.leaving P (w.re τ d) e:=by
 cases e with
 | outgrown=>trivial
 | panicked chain=>exact h
 | returned v =>
  obtain ⟨hm,hd,hk,fn,hf,hr⟩:=h
  obtain ⟨j,h1,h2,h3,h4⟩:=run_local (P:=P) (φ:=fun _=>True) (s:=results fn fr.tmps) ((calm_results fn fr.tmps).t OC P) hw
  rw [hr] at h1 h4
  have hj:j=0:=by have:w.drawn=w.drawn+j:=h1;omega
  subst hj
  exact ⟨hm,hd,hk,fn,hf,h4 τ d (fun i hi=>by omega)⟩
theorem stk_enter {S:FuncId→Prop} (hS:Sok P S) {f:FuncId} (hf:S f) (args:Array Value):Stk f (Frame.enter P f args .normal) []:=⟨frOk_enter hS hf args (.inl rfl),rfl,rfl,rfl⟩
theorem CallsB.mono {f:FuncId} {args:Array Value} {w:World} {R R':Ending→World→Prop} (h:CallsB P f args w R) (hr:∀ e w,R e w→R' e w):CallsB P f args w R' :=
 fun cs=>(h cs).mono fun _ _ ⟨e,fr,h1,h2,h3⟩=>⟨e,fr,h1,hr _ _ h2,h3⟩
section
variable {b:Frame} {a:Act} {k:List Item} {cs:List Frame} {w:World} {Q:Goroutine→World→Prop}
theorem toB_move {fr fr':Frame} (h:∀ w,stepG P true (G fr cs) w=.go (G fr' cs) w) (h':ToB P (G fr' cs) w Q):ToB P (G fr cs) w Q :=
 toB_step rfl fun d=>⟨_,_,_,h _,by simp,h'.at⟩
theorem toB_block {id:Nat} {c:Code} (h:ToB P (G (b.at a (.code c :: .inBlock id :: k)) cs) w Q):ToB P (G (b.at a (.code (.block id c) :: k)) cs) w Q:=toB_move (fun _=>stepG_block) h
theorem toB_loop {c:Code} (h:ToB P (G (b.at a (.code c :: .inLoop c :: k)) cs) w Q):ToB P (G (b.at a (.code (.loop c) :: k)) cs) w Q:=toB_move (fun _=>stepG_loop) h
theorem toB_ret (h:ToB P (G { b.at a (.code .ret :: k) with mode:=.returning } cs) w Q):ToB P (G (b.at a (.code .ret :: k)) cs) w Q:=toB_move (fun _=>stepG_ret') h
theorem nd_listed {S:FuncId→Prop} (hS:Sok P S) {r:Bool} {fn:FuncId} {o:Oper} (ho:okOp r o.op=true) (hw:HeapOk OC w) (hl:∀ f,o.about P w a.eval=some f→S f) :
  (∀ e∈listed P fn a o w,ND e)∧∀ x w',(execOp a.eval o).run P w=.ok x w'→HeapOk OC w':=by
 have hf:=(fine_execOp hS (fun _=>rfl) ho hw hl (es:=#[])).facts
 have hnd:=nd_none hf.nd
 rw [Sem.runT_eq] at hnd hf
 refine ⟨fun e he=>?_,fun x w' hr=>?_⟩
 ·unfold listed at he
  exact hnd e (mem_seen he)
 ·have:=hf.heap
  rw [hr] at this
  exact this
def UponB (P:Program) (o:Oper) (b:Frame) (a:Act) (ops:Array Oper) (i:Nat) (rest:List Nat) (k:List Item) (cs:List Frame) (Q:Goroutine→World→Prop):Result Next→Prop
 | .ok (.value v) w'=>HeapOk OC w'→ToB P (G (b.at (a.put o.dst v) (.inRegion ops rest :: k)) cs) w' Q
 | .ok .skip w'=>HeapOk OC w'→ToB P (G (b.at (a.put o.dst undef) (.inRegion ops rest :: k)) cs) w' Q
 | .ok (.enter f args) w'=>HeapOk OC w'→ToB P (G (Frame.enter P f args .normal) (b.at a (.inRegion ops (i :: rest) :: k) :: cs)) w' Q
 | .ok (.defer df) w'=>HeapOk OC w'→ToB P (G (b.at ({ a with defers:=df :: a.defers }.put o.dst undef) (.inRegion ops rest :: k)) cs) w' Q
 | _=>False
theorem toB_op {S:FuncId→Prop} (hS:Sok P S) {ops:Array Oper} {i:Nat} {rest:List Nat} {o:Oper} {r:Bool} (ho:ops[i]? = some o) (hwt:Region.wanted o (yielded ops a.tmps)=true) (hk:b.kind≠.early) (hok:okOp r o.op=true)
  (hw:HeapOk OC w) (hl:∀ d f,o.about P (w.at d) a.eval=some f→S f) (h:∀ d,UponB P o b a ops i rest k cs Q ((execOp a.eval o).run P (w.at d))) :
  ToB P (G (b.at a (.inRegion ops (i :: rest) :: k)) cs) w Q:=by
 refine toB_step rfl fun d=>?_
 obtain ⟨hnd,hh⟩:=nd_listed (P:=P) (a:=a) (w:=w.at d) (fn:=b.fn) hS hok hw (hl d)
 have hd:=h d
 cases hr:(execOp a.eval o).run P (w.at d) with
 | halt hh w'=>rw [hr] at hd;exact hd.elim
 | ok x w' =>
  have hw':=hh x w' hr
  rw [hr] at hd
  cases x <;> first | exact hd.elim | skip
  case value v=>exact ⟨_,_,_,stepG_value ho hwt hk hr,hnd,hd hw'⟩
  case skip=>exact ⟨_,_,_,stepG_none ho hwt hk hr,hnd,hd hw'⟩
  case enter f args=>exact ⟨_,_,_,stepG_enter ho hwt hk hr,hnd,hd hw'⟩
  next df =>
   refine ⟨_,_,_,?_,hnd,hd hw'⟩
   have hfin:({ b.at a (.inRegion ops (i :: rest) :: k) with defers:=df :: a.defers }:Frame).finish undef=b.at ({ a with defers:=df :: a.defers }.put o.dst undef) (.inRegion ops rest :: k):=by
    have:=Frame.finish_at b { a with defers:=df :: a.defers } ops i rest k undef
    rw [ho] at this
    exact this
   have hk':(b.kind == CallKind.early)=false:=by simpa using hk
   rw [stepG_oper ho hwt]
   have hfin':=hfin
   simp only [Frame.at] at hfin' ⊢
   simp only [stepG.apply,if_true,Sem.runT_eq,hr,hk',Bool.false_eq_true,if_false,GStep.after,Array.append_empty,hfin',G,listed]
theorem toB_returned {fr c:Frame} {v:Value} (hw:HeapOk OC w) (h:fr.leaving P w (.returned v)) (h':ToB P (G (c.finish v) cs) w Q):ToB P (G fr (c :: cs)) w Q:=by
 refine toB_step rfl fun d=>?_
 obtain ⟨hm,hd,hk,fn,hf,hr⟩:=leaving_re hw h w.tape d
 refine ⟨G (c.finish v) cs,w.at d,seen P fr.fn ((results fn fr.tmps).events P (w.at d) #[]),?_,?_,h'.at⟩
 ·have hr':(results fn fr.tmps).run P (w.at d)=.ok v (w.at d):=hr
  have hu:stepG P true (G fr (c :: cs)) (w.at d)=unwind P true fr (c :: cs) none (w.at d):=by simp only [stepG,G,hm]
  rw [hu]
  simp only [unwind,hd,hm,hf,Sem.runT_eq,hr',doReturn,hk,GStep.after,Array.append_empty,G]
 ·have hf':=runT_facts (P:=P) (C:=OC) (φ:=fun _=>True) (results fn fr.tmps) ((calm_results fn fr.tmps).t OC P) (w.at d) #[] #[] 0 hw (by simp) (by omega)
  have:=nd_none hf'.nd
  rw [Sem.runT_eq] at this
  exact nd_seen this
theorem toB_panicked {fr c:Frame} {chain:List PanicEntry} (h:fr.leaving P w (.panicked chain)) (h':ToB P (G (c.raise chain) cs) w Q):ToB P (G fr (c :: cs)) w Q:=by
 obtain ⟨hm,hd,fn,hf⟩:=h
 refine toB_step rfl fun d=>⟨G (c.raise chain) cs,w.at d,#[],?_,by simp,h'.at⟩
 have hu:stepG P true (G fr (c :: cs)) (w.at d)=unwind P true fr (c :: cs) none (w.at d):=by simp only [stepG,G,hm]
 rw [hu]
 simp [unwind,Frame.catches,hm,hd,hf,G]
theorem toB_called {ops:Array Oper} {i:Nat} {rest:List Nat} {o:Oper} {f:FuncId} {args:Array Value} {R:Ending→World→Prop} (ho:ops[i]? = some o) (hc:CallsB P f args w R)
  (hret:∀ v w',R (.returned v) w'→HeapOk OC w'→ToB P (G (b.at (a.put o.dst v) (.inRegion ops rest :: k)) cs) w' Q)
  (hpan:∀ ch w',R (.panicked ch) w'→HeapOk OC w'→ToB P (G ((b.at a (.inRegion ops (i :: rest) :: k)).raise ch) cs) w' Q) :
  ToB P (G (Frame.enter P f args .normal) (b.at a (.inRegion ops (i :: rest) :: k) :: cs)) w Q:=by
 refine (hc _).bind fun a' w' ⟨e,fr,h1,h2,h3,h4,h5,h6⟩=>?_
 subst h1
 cases e with
 | outgrown=>exact (h5 rfl).elim
 | panicked ch=>exact toB_panicked h4 (hpan ch w' h2 h6)
 | returned v =>
  refine toB_returned h6 h4 ?_
  rw [Frame.finish_at,ho]
  exact hret v w' h2 h6
theorem toB_leave {f:FuncId} {fn:Func} {todo:List Item} {v:Value} {R:Ending→World→Prop} (hb:b.fn=f) (hbk:b.kind=.normal) (hd:a.defers=[]) (hf:P.funcs[f]? = some fn) (hw:HeapOk OC w) (hr:(results fn a.tmps).run P w=.ok v w) (hR:R (.returned v) w) (hins:Ins R) :
  ToB P (G { b.at a todo with mode:=.returning } cs) w (fun a' w'=>∃ e fr,a'=G fr cs∧R e w'∧fr.fn=f∧fr.leaving P w' e∧e≠.outgrown∧HeapOk OC w'):=by
 subst hb
 refine toB_here fun d=>⟨.returned v,_,rfl,hins _ _ w.tape d hR,rfl,?_,by simp,hw⟩
 have hl:({ b.at a todo with mode:=.returning }:Frame).leaving P w (.returned v):=⟨rfl,hd,hbk,fn,hf,hr⟩
 exact leaving_re hw hl w.tape d
end
theorem callsB_of_body {f:FuncId} {fn:Func} {c:Code} {args:Array Value} {w:World} {R:Ending→World→Prop} (hf:P.funcs[f]? = some fn) (hb:fn.body=some c)
  (h:∀ (cs:List Frame) (b:Frame),b.fn=f→b.kind=.normal→b.roundOf=none→ToB P (G (b.at { tmps:=args ++ Array.replicate (fn.ntmps - args.size) undef,defers:=[] } [.code c]) cs) w (fun a' w'=>∃ e fr,a'=G fr cs∧R e w'∧fr.fn=f∧fr.leaving P w' e∧e≠.outgrown∧HeapOk OC w')) :
  CallsB P f args w R:=by
 intro cs
 let b:Frame:={ (default:Frame) with fn:=f,kind:=.normal,roundOf:=none }
 have henter:Frame.enter P f args .normal=b.at { tmps:=args ++ Array.replicate (fn.ntmps - args.size) undef,defers:=[] } [.code c]:=by
  simp [Frame.enter,Frame.at,hf,hb,b]
 rw [henter]
 exact h cs b rfl rfl rfl
theorem good_of_callsB {f:FuncId} {args:Array Value} {w:World} {Post:Value→World→Prop} (hf0:P.inits.idxOf? f=none) (hpost:∀ v w d,Post v w→Post v (w.at d)) (h:CallsB P f args w (fun e w'=>∃ v,e=.returned v∧Post v w')) :
  ∃ N last o w' t',runNT P (N+1) (solo (G (Frame.enter P f args .normal) []) w) #[]=(.ended o w',t')∧runN P N (solo (G (Frame.enter P f args .normal) []) w)=.next last∧step P last=.ended o w'∧Good P Post last o w' t':=by
 obtain ⟨N,gs',a',w',sl',t',h1,h2,e,fr,h3,⟨v,h4,h5⟩,h6,h7,h8,h9⟩:=h [] #[G (Frame.enter P f args .normal) []] none #[] w.drawn ⟨rfl,⟨_,leavers_one P _⟩,⟨0,past_nil⟩⟩
 subst h4
 subst h3
 subst h6
 obtain ⟨q,hL⟩:=h2.old
 obtain ⟨B,hP⟩:=h2.past
 obtain ⟨hm,hd,hk,fn,hf,hr⟩:=h7
 have hev:∀ d,∀ e∈seen P fr.fn ((results fn fr.tmps).events P (w'.at d) #[]),ND e:=by
  intro d
  have hf':=runT_facts (P:=P) (C:=OC) (φ:=fun _=>True) (results fn fr.tmps) ((calm_results fn fr.tmps).t OC P) (w'.at d) #[] #[] 0 h9 (by simp) (by omega)
  have:=nd_none hf'.nd
  rw [Sem.runT_eq] at this
  exact nd_seen this
 have hrd:∀ d,(results fn fr.tmps).run P (w'.at d)=.ok v (w'.at d):=by
  intro d
  obtain ⟨_,_,_,fn2,hf2,hr2⟩:=leaving_re (e:=.returned v) h9 ⟨hm,hd,hk,fn,hf,hr⟩ w'.tape d
  rw [hf] at hf2
  cases hf2
  exact hr2
 have hsame:∀ d,(results fn fr.tmps).events P (w'.at d) #[]=(results fn fr.tmps).events P w' #[]:=by
  intro d
  obtain ⟨j,hj,_,hl⟩:=runT_local (P:=P) (C:=OC) (φ:=fun _=>True) (results fn fr.tmps) ((calm_results fn fr.tmps).t OC P) w' #[] h9
  rw [Sem.runT_eq] at hl hj
  rw [hr] at hl hj
  have hj0:j=0:=by have:w'.drawn=w'.drawn+j:=hj;omega
  subst hj0
  have:=hl w'.tape d (fun i hi=>by omega)
  rw [Sem.runT_eq] at this
  have h2:=congrArg Prod.snd this
  exact h2
 obtain ⟨B',hB'⟩:=low_all (seen P fr.fn ((results fn fr.tmps).events P w' #[]))
 obtain ⟨N2,last,o,w2,t2,k1,k2,k3,k4⟩:=beside_ends (P:=P) (Shun:=noShun) (B:=B+B') (D:=fun _ _ es=>∀ e∈es,EvL noShun (B+B') e) (Post:=Post) (fun _ _ _ h=>h) (sl:=sl') (n:=0) h2.zero hL (hP.mono (by omega)) (w:=w') (by
  intro w1 hw1
  obtain ⟨d,rfl⟩:=hw1
  refine ⟨rfl,v,seen P fr.fn ((results fn fr.tmps).events P (w'.at d) #[]),?_,?_,hpost _ _ d h5⟩
  ·have hu:stepG P true (G fr []) (w'.at d)=unwind P true fr [] none (w'.at d):=by simp only [stepG,G,hm]
   rw [hu]
   simp only [unwind,hd,hm,hf,Sem.runT_eq,hrd d,doReturn,hk,GStep.after,hf0]
   rfl
  ·intro e he
   exact ⟨fun x hx hs=>hs.elim,(hev d e he).1,(hev d e he).2,MemAct.low_mono (by omega) (hB' e (by rw [hsame] at he;exact he))⟩)
 have hs:crowd #[G (Frame.enter P fr.fn args .normal) []] (w.at w.drawn) none=solo (G (Frame.enter P fr.fn args .normal) []) w:=rfl
 rw [hs] at h1
 refine ⟨N+N2,last,o,w2,t2,?_,?_,k3,k4⟩
 ·rw [show N+N2+1=N+(N2+1) from by omega,runNT_add N _ _ _ _ _ h1]
  exact k1
 ·have:(runNT P N (solo (G (Frame.enter P fr.fn args .normal) []) w) #[]).1=runN P N (solo (G (Frame.enter P fr.fn args .normal) []) w):=runNT_fst _ _ _ _
  rw [h1] at this
  have h3:=runNT_fst P (N+N2) (solo (G (Frame.enter P fr.fn args .normal) []) w) #[]
  rw [runNT_add N _ _ _ _ _ h1,runNT_fst] at h3
  rw [← h3]
  exact k2
end
end Go.Tm
namespace Go.Sr
open Go
open Go.Tm
class Fns where
 ok:FuncId→Bool
abbrev BR:=Nat→Nat→Prop
def flat:Value→Bool
 | .bool _ | .int .. | .float .. | .complex .. | .string _ | .pointer none | .slice none .. | .map none | .chan none | .nilFunc | .nilIface=>true
 | .tuple vs=>vs.isEmpty
 | _=>false
def AR (R:BR) (a a':Addr):Prop:=R a.block a'.block∧a'.off=a.off∧a'.spot=a.spot
inductive VR0 (R:BR):Value→Value→Prop
 | flat {v:Value}:Sr.flat v=true→VR0 R v v
 | ptr {a a':Addr}:AR R a a'→VR0 R (.pointer (some a)) (.pointer (some a'))
 | slice {a a':Addr} {l c:Nat}:AR R a a'→VR0 R (.slice (some a) l c) (.slice (some a') l c)
 | chan {r r':Nat}:R r r'→VR0 R (.chan (some r)) (.chan (some r'))
def AF (r:Value→Value→Prop) (c c':Array Value):Prop:=c'.size=c.size∧∀ (i:Nat) (v:Value),c[i]? = some v→∃ v':Value,c'[i]? = some v'∧r v v'
mutual
inductive VR1 [Fns] (R:BR):Value→Value→Prop
 | base {v v':Value}:VR0 R v v'→VR1 R v v'
 | func {f:FuncId} {a a' c c':Array Value}:Fns.ok f=true→a'.size=a.size→(∀ (i:Nat) (v v':Value),a[i]? = some v→a'[i]? = some v'→VR R v v') →
   c'.size=c.size→(∀ (i:Nat) (v v':Value),c[i]? = some v→c'[i]? = some v'→VR R v v')→VR1 R (.func (.func f) a c) (.func (.func f) a' c')
inductive VR [Fns] (R:BR):Value→Value→Prop
 | base {v v':Value}:VR1 R v v'→VR R v v'
 | agg {c c':Array Value}:c'.size=c.size→(∀ (i:Nat) (v v':Value),c[i]? = some v→c'[i]? = some v'→VR1 R v v')→VR R (.agg c) (.agg c')
end
theorem AF.of_raw {r:Value→Value→Prop} {c c':Array Value} (h:c'.size=c.size) (h':∀ (i:Nat) (v v':Value),c[i]? = some v→c'[i]? = some v'→r v v'):AF r c c' :=
 ⟨h,fun i v hv=>by
  have hi:=(Array.getElem?_eq_some_iff.1 hv).1
  have hi':i < c'.size:=by rw [h];exact hi
  exact ⟨c'[i],Array.getElem?_eq_getElem hi',h' i v _ hv (Array.getElem?_eq_getElem hi')⟩⟩
theorem AF.raw {r:Value→Value→Prop} {c c':Array Value} (h:AF r c c') (i:Nat) (v v':Value) (h1:c[i]? = some v) (h2:c'[i]? = some v'):r v v':=by
 obtain ⟨x,h3,h4⟩:=h.2 i v h1
 rw [h2] at h3
 cases h3
 exact h4
theorem VR1.ofFunc [Fns] {R:BR} {f:FuncId} (hf:Fns.ok f=true) {a a' c c':Array Value} (h:AF (VR R) a a') (h':AF (VR R) c c'):VR1 R (.func (.func f) a c) (.func (.func f) a' c'):=.func hf h.1 h.raw h'.1 h'.raw
theorem VR.ofAgg [Fns] {R:BR} {c c':Array Value} (h:AF (VR1 R) c c'):VR R (.agg c) (.agg c'):=.agg h.1 h.raw
def le (R R':BR):Prop:=∀ b b',R b b'→R' b b'
theorem le_refl (R:BR):le R R:=fun _ _ h=>h
theorem le_trans {R R' R'':BR} (h:le R R') (h':le R' R''):le R R'':=fun _ _ x=>h' _ _ (h _ _ x)
section mono
variable {R R':BR}
theorem AR.mono (h:le R R') {a a':Addr} (x:AR R a a'):AR R' a a':=⟨h _ _ x.1,x.2⟩
theorem VR0.mono [Fns] (h:le R R') {v v':Value} (x:VR0 R v v'):VR0 R' v v':=by
 cases x with
 | flat h'=>exact .flat h'
 | ptr h'=>exact .ptr (h'.mono h)
 | slice h'=>exact .slice (h'.mono h)
 | chan h'=>exact .chan (h _ _ h')
theorem AF.mono {r r':Value→Value→Prop} (h:∀ v v',r v v'→r' v v') {c c':Array Value} (x:AF r c c'):AF r' c c':=⟨x.1,fun i v hv=>let ⟨v',h1,h2⟩:=x.2 i v hv;⟨v',h1,h _ _ h2⟩⟩
mutual
theorem VR1.mono [Fns] (h:le R R') {v v':Value}:VR1 R v v'→VR1 R' v v'
 | .base x=>.base (x.mono h)
 | .func h0 h1 h2 h3 h4=>.func h0 h1 (fun i v v' a b=>VR.mono h (h2 i v v' a b)) h3 (fun i v v' a b=>VR.mono h (h4 i v v' a b))
theorem VR.mono [Fns] (h:le R R') {v v':Value}:VR R v v'→VR R' v v'
 | .base x=>.base (VR1.mono h x)
 | .agg h1 h2=>.agg h1 (fun i v v' a b=>VR1.mono h (h2 i v v' a b))
end
end mono
theorem VR.of_flat [Fns] {R:BR} {v:Value} (h:flat v=true):VR R v v:=.base (.base (.flat h))
theorem VR.int [Fns] {R:BR} {k:IntKind} {n:Int}:VR R (.int k n) (.int k n):=.of_flat rfl
theorem VR.bool [Fns] {R:BR} {b:Bool}:VR R (.bool b) (.bool b):=.of_flat rfl
section arrays
variable {r:Value→Value→Prop}
theorem AF.empty:AF r #[] #[]:=⟨rfl,fun i v h=>by simp at h⟩
theorem AF.push {c c':Array Value} (h:AF r c c') {v v':Value} (hv:r v v'):AF r (c.push v) (c'.push v'):=by
 refine ⟨by simp [h.1],fun i x hx=>?_⟩
 rw [Array.getElem?_push] at hx ⊢
 split at hx
 ·cases hx
  rename_i hi
  exact ⟨v',by simp [h.1,hi],hv⟩
 ·obtain ⟨x',h1,h2⟩:=h.2 i x hx
  rename_i hi
  refine ⟨x',?_,h2⟩
  rw [if_neg (by rw [h.1];exact hi)]
  exact h1
theorem AF.set {c c':Array Value} (h:AF r c c') {i:Nat} {v v':Value} (hv:r v v'):AF r (c.setIfInBounds i v) (c'.setIfInBounds i v'):=by
 refine ⟨by simp [h.1],fun j x hx=>?_⟩
 rw [Array.getElem?_setIfInBounds] at hx ⊢
 split at hx
 ·split at hx
  ·cases hx
   rename_i h1 h2
   exact ⟨v',by rw [if_pos h1,if_pos (by rw [h.1];exact h2)],hv⟩
  ·cases hx
 ·rename_i hne
  obtain ⟨x',h1,h2⟩:=h.2 j x hx
  exact ⟨x',by simp [hne,h1],h2⟩
theorem AF.append {a a' c c':Array Value} (h:AF r a a') (h':AF r c c'):AF r (a ++ c) (a' ++ c'):=by
 refine ⟨by simp [h.1,h'.1],fun i x hx=>?_⟩
 rw [Array.getElem?_append] at hx ⊢
 rw [h.1]
 split at hx
 ·rename_i hi
  simp only [hi,if_true]
  exact h.2 i x hx
 ·rename_i hi
  simp only [hi,if_false]
  exact h'.2 _ x hx
theorem AF.get {c c':Array Value} (h:AF r c c') {d:Value} (hd:r d d) (i:Nat):r (c.getD i d) (c'.getD i d):=by
 rw [Array.getD_eq_getD_getElem?,Array.getD_eq_getD_getElem?]
 cases hc:c[i]? with
 | none =>
  have:c'[i]? = none:=by
   rw [Array.getElem?_eq_none_iff] at hc ⊢
   rw [h.1];exact hc
  rw [this];exact hd
 | some v =>
  obtain ⟨v',h1,h2⟩:=h.2 i v hc
  rw [h1];exact h2
theorem AF.get? {c c':Array Value} (h:AF r c c') (i:Nat):(c[i]? = none∧c'[i]? = none)∨∃ v v',c[i]? = some v∧c'[i]? = some v'∧r v v':=by
 cases hc:c[i]? with
 | none =>
  left
  refine ⟨rfl,?_⟩
  rw [Array.getElem?_eq_none_iff] at hc ⊢
  rw [h.1];exact hc
 | some v =>
  obtain ⟨v',h1,h2⟩:=h.2 i v hc
  exact .inr ⟨v,v',rfl,h1,h2⟩
theorem AF.replicate {n:Nat} {v:Value} (hv:r v v):AF r (Array.replicate n v) (Array.replicate n v):=⟨rfl,fun i x hx=>⟨x,hx,by
 rw [Array.getElem?_replicate] at hx
 split at hx
 ·cases hx;exact hv
 ·cases hx⟩⟩
theorem AF.map {α:Type} {f f':α→Value} (l:Array α) (h:∀ x∈l,r (f x) (f' x)):AF r (l.map f) (l.map f'):=by
 refine ⟨by simp,fun i x hx=>?_⟩
 rw [Array.getElem?_map] at hx ⊢
 obtain ⟨y,hy,rfl⟩:=Option.map_eq_some_iff.1 hx
 refine ⟨f' y,by rw [hy];rfl,h y ?_⟩
 obtain ⟨hi,rfl⟩:=Array.getElem?_eq_some_iff.1 hy
 exact Array.getElem_mem hi
theorem AF.self {c:Array Value} (h:∀ v∈c,r v v):AF r c c:=⟨rfl,fun i v hv=>⟨v,hv,h v (by
 obtain ⟨hi,rfl⟩:=Array.getElem?_eq_some_iff.1 hv
 exact Array.getElem_mem hi)⟩⟩
theorem AF.extract {c c':Array Value} (h:AF r c c') (i j:Nat):AF r (c.extract i j) (c'.extract i j):=by
 refine ⟨by simp [h.1],fun k x hx=>?_⟩
 rw [Array.getElem?_extract] at hx ⊢
 rw [h.1]
 split at hx
 ·rename_i hk
  simp only [hk,if_true]
  exact h.2 _ x hx
 ·cases hx
end arrays
theorem VR.cells [Fns] {R:BR} {v v':Value} (h:VR R v v'):AF (VR1 R) v.cells v'.cells:=by
 cases h with
 | agg h h'=>exact AF.of_raw h h'
 | base h =>
  have hv:∀ {v v':Value},VR1 R v v'→v.cells=#[v]∧v'.cells=#[v']:=by
   intro v v' h
   cases h with
   | func _ _=>exact ⟨rfl,rfl⟩
   | base h =>
    cases h with
    | flat hf=>cases v <;> first | exact ⟨rfl,rfl⟩ | cases hf
    | _=>exact ⟨rfl,rfl⟩
  rw [(hv h).1,(hv h).2]
  refine ⟨rfl,fun i x hx=>?_⟩
  rcases i with _ | i
  ·cases hx;exact ⟨_,rfl,h⟩
  ·simp at hx
def isCh:Obj→Bool
 | .chan .. => true
 | _=>false
def OR [Fns] (R:BR) (D:Prop) (o o':Obj):Prop :=
 (∃ c c' e f f',o=.cells c e f∧o'=.cells c' e f'∧AF (VR1 R) c c'∧(D→f=(0,c.size))∧(¬ D→f=(0,0)∧f'=(0,0))) ∨
 (∃ a a' l,o=.number a l∧o'=.number a' l∧AR R a a'∧¬ D)∨(D∧isCh o=true∧isCh o'=true)
structure WR [Fns] (G:Nat) (R:BR) (D:Nat→Prop) (wl wa:World):Prop where
 obj:∀ b b',R b b'→∃ o o',wl.heap[b]? = some o∧wa.heap[b']? = some o'∧OR R (D b) o o'
 fn:∀ b b1 b2,R b b1→R b b2→b1=b2
 inj:∀ b1 b2 b,R b1 b→R b2 b→b1=b2
 old:∀ b b',R b b'→D b→b'=b
 new:∀ b b',R b b'→G≤b∧G≤b'
 tape:wa.tape=wl.tape
 drawn:wa.drawn=wl.drawn
 dom:∀ b,D b→b < wl.heap.size
 gl:G≤wl.heap.size
 ga:G≤wa.heap.size
def EvR (R:BR) (D:Nat→Prop) (e:Event):Prop :=
 match e.loc with
 | .cell a=>e.sync=false∧∃ b,R b a.block∧(e.write=true→¬ D b)
 | .obj r=>e.write=false∧∃ b,R b r
 | .mark m=>m=.noRoom
 | _=>False
theorem EvR.mono {R R':BR} {D:Nat→Prop} (h:le R R') {e:Event} (x:EvR R D e):EvR R' D e:=by
 unfold EvR at x ⊢
 split at x
 ·exact ⟨x.1,let ⟨b,h1,h2⟩:=x.2;⟨b,h _ _ h1,h2⟩⟩
 ·exact ⟨x.1,let ⟨b,h1⟩:=x.2;⟨b,h _ _ h1⟩⟩
 ·exact x
 ·exact x
structure Guar (R:BR) (D:Nat→Prop) (w w':World):Prop where
 size:w.heap.size≤w'.heap.size
 keep:∀ b',b' < w.heap.size→(∀ b,R b b'→D b)→w'.heap[b']? = w.heap[b']?
 os:w'.os=w.os
 output:w'.output=w.output
 tape:w'.tape=w.tape
 okh:∀ C:Code→Prop,HeapOk C w→HeapOk C w'
theorem Guar.refl (R:BR) (D:Nat→Prop) (w:World):Guar R D w w:=⟨Nat.le_refl _,fun _ _ _=>rfl,rfl,rfl,rfl,fun _ h=>h⟩
structure Grow (R R':BR) (D:Nat→Prop) (wl wa:World):Prop where
 le:le R R'
 fresh:∀ b b',R' b b'→R b b'∨(wl.heap.size≤b∧wa.heap.size≤b'∧¬ D b)
theorem Guar.trans {R R':BR} {D:Nat→Prop} {w w' w'' wl:World} (h:Guar R D w w') (hg:Grow R R' D wl w) (h':Guar R' D w' w''):Guar R D w w'':=by
 refine ⟨Nat.le_trans h.size h'.size,fun b' hb hD=>?_,h'.os.trans h.os,h'.output.trans h.output,h'.tape.trans h.tape,fun C x=>h'.okh C (h.okh C x)⟩
 rw [h'.keep b' (by have:=h.size;omega) (fun b hR=>?_),h.keep b' hb hD]
 rcases hg.fresh b b' hR with h1 | ⟨_,h2,_⟩
 ·exact hD b h1
 ·omega
def RunR [Fns] (P:Program) (D:Nat→Prop) {α β:Type} (Φ:BR→α→β→Prop) (R:BR) (s:Sem α) (s':Sem β):Prop :=
 ∀ wl wa es,WR P.globals.size R D wl wa→∀ a wl',s.run P wl=.ok a wl'→∃ a' wa' es' R',s'.runT P wa es=(.ok a' wa',es')∧(∀ e∈es',e∈es∨EvR R' D e)∧WR P.globals.size R' D wl' wa' ∧
  Grow R R' D wl wa∧Guar R D wa wa'∧wl.heap.size≤wl'.heap.size∧Φ R' a a'
section
variable {P:Program} {D:Nat→Prop} {α β γ δ:Type} {Φ:BR→α→β→Prop} {Ψ:BR→γ→δ→Prop} {R:BR}
theorem RunR.pure [Fns] {a:α} {b:β} (h:Φ R a b):RunR P D Φ R (Pure.pure a:Sem α) (Pure.pure b:Sem β):=by
 intro wl wa es hw x wl' hr
 cases hr
 exact ⟨b,wa,es,R,rfl,fun e he=>.inl he,hw,⟨le_refl R,fun _ _ h=>.inl h⟩,.refl R D wa,Nat.le_refl _,h⟩
theorem RunR.halt [Fns] {h:Halt} {s':Sem β}:RunR P D Φ R (.halt h:Sem α) s':=fun wl wa es _ a wl' hr=>by cases hr
theorem RunR.bind [Fns] {s:Sem α} {s':Sem β} {f:α→Sem γ} {f':β→Sem δ} (h:RunR P D Φ R s s') (hf:∀ R',le R R'→∀ a b,Φ R' a b→RunR P D Ψ R' (f a) (f' b)):RunR P D Ψ R (s >>= f) (s' >>= f'):=by
 intro wl wa es hw x wl' hr
 rw [Sem.run_bind] at hr
 cases hs:s.run P wl with
 | halt hh w1=>rw [hs] at hr;cases hr
 | ok a w1 =>
  rw [hs] at hr
  obtain ⟨a',wa1,es1,R1,h1,h2,h3,h4,h5,h6,h7⟩:=h wl wa es hw a w1 hs
  obtain ⟨b',wa2,es2,R2,k1,k2,k3,k4,k5,k6,k7⟩:=hf R1 h4.le a a' h7 w1 wa1 es1 h3 x wl' hr
  refine ⟨b',wa2,es2,R2,?_,fun e he=>?_,k3,⟨le_trans h4.le k4.le,fun b b' hb=>?_⟩,h5.trans h4 k5,Nat.le_trans h6 k6,k7⟩
  ·show Sem.runT P (Sem.bind s' f') wa es=_
   rw [Sem.runT_bind',h1]
   exact k1
  ·rcases k2 e he with h | h
   ·rcases h2 e h with h | h
    ·exact .inl h
    ·exact .inr (h.mono k4.le)
   ·exact .inr h
  ·rcases k4.fresh b b' hb with h | ⟨h8,h9,h10⟩
   ·exact h4.fresh b b' h
   ·exact .inr ⟨Nat.le_trans h6 h8,Nat.le_trans h5.size h9,h10⟩
theorem RunR.mono [Fns] {Φ':BR→α→β→Prop} {s:Sem α} {s':Sem β} (h:RunR P D Φ R s s') (hq:∀ R' a b,Φ R' a b→Φ' R' a b):RunR P D Φ' R s s':=by
 intro wl wa es hw x wl' hr
 obtain ⟨a',wa1,es1,R1,h1,h2,h3,h4,h5,h6,h7⟩:=h wl wa es hw x wl' hr
 exact ⟨a',wa1,es1,R1,h1,h2,h3,h4,h5,h6,hq _ _ _ h7⟩
theorem RunR.program [Fns]:RunR P D (fun _ p q=>p=P∧q=P) R Go.program Go.program:=by
 intro wl wa es hw x wl' hr
 cases hr
 exact ⟨P,wa,es,R,rfl,fun e he=>.inl he,hw,⟨le_refl R,fun _ _ h=>.inl h⟩,.refl R D wa,Nat.le_refl _,rfl,rfl⟩
theorem RunR.choose [Fns] {q:Question}:RunR P D (fun _ a b=>a=b) R (Go.choose q) (Go.choose q):=by
 intro wl wa es hw x wl' hr
 unfold Go.choose at hr ⊢
 simp only [Sem.run,Sem.runT] at hr ⊢
 split at hr
 ·rename_i hf
  cases hr
  exact ⟨0,wa,es,R,by rw [if_pos hf],fun e he=>.inl he,hw,⟨le_refl R,fun _ _ h=>.inl h⟩,.refl R D wa,Nat.le_refl _,rfl⟩
 ·rename_i hf
  cases hr
  refine ⟨q.cut (wa.tape wa.drawn q),{ wa with drawn:=wa.drawn+1 },es,R,by rw [if_neg hf],fun e he=>.inl he,⟨hw.obj,hw.fn,hw.inj,hw.old,hw.new,hw.tape,by show wa.drawn+1=wl.drawn+1;rw [hw.drawn],hw.dom,hw.gl,hw.ga⟩,⟨le_refl R,fun _ _ h=>.inl h⟩,⟨Nat.le_refl _,fun _ _ _=>rfl,rfl,rfl,rfl,fun _ h=>h⟩,Nat.le_refl _,?_⟩
  rw [hw.tape,hw.drawn]
theorem RunR.noRoom [Fns]:RunR P D (fun _ _ _=>True) R (mark .noRoom) (mark .noRoom):=by
 intro wl wa es hw x wl' hr
 cases hr
 refine ⟨(),wa,_,R,rfl,fun e he=>?_,hw,⟨le_refl R,fun _ _ h=>.inl h⟩,.refl R D wa,Nat.le_refl _,trivial⟩
 rcases Array.mem_push.1 he with h | rfl
 ·exact .inl h
 ·exact .inr rfl
theorem RunR.shape [Fns] {r r':Nat} (h:R r r'):RunR P D (fun _ a b=>a=b) R (Go.shape r) (Go.shape r'):=by
 intro wl wa es hw x wl' hr
 cases hr
 refine ⟨_,wa,es,R,rfl,fun e he=>.inl he,hw,⟨le_refl R,fun _ _ h=>.inl h⟩,.refl R D wa,Nat.le_refl _,?_⟩
 obtain ⟨o,o',h1,h2,h3⟩:=hw.obj _ _ h
 unfold World.shape?
 rw [h1,h2]
 rcases h3 with ⟨c,c',e,f,f',rfl,rfl,h4,_⟩ | ⟨a,a',l,rfl,rfl,_⟩ | ⟨_,hc,hc'⟩
 ·show some (e,c.size)=some (e,c'.size)
  rw [h4.1]
 ·rfl
 ·cases o <;> cases o' <;> first | rfl | (cases hc;done) | (cases hc';done)
theorem RunR.load [Fns] {a a':Addr} (h:AR R a a'):RunR P D (fun R'=>VR1 R') R (Go.load a) (Go.load a'):=by
 intro wl wa es hw x wl' hr
 obtain ⟨o,o',h1,h2,h3⟩:=hw.obj _ _ h.1
 unfold Go.load at hr ⊢
 simp only [Sem.run] at hr
 rcases h3 with ⟨c,c',e,f,f',rfl,rfl,h4,_⟩ | ⟨_,_,l,rfl,rfl,_⟩ | ⟨_,hch,_⟩
 ·have hc:wl.cell? a=if a.spot.isSome then none else c[a.off]?:=by simp [World.cell?,h1]
  have hc':wa.cell? a'=if a.spot.isSome then none else c'[a.off]?:=by simp [World.cell?,h2,h.2.1,h.2.2]
  cases hs:a.spot.isSome with
  | true =>
   rw [hs] at hc
   simp only [if_true] at hc
   rw [hc] at hr
   simp [World.farLoad,h1] at hr
  | false =>
   rw [hs] at hc hc'
   simp only [Bool.false_eq_true,if_false] at hc hc'
   rcases h4.get? a.off with ⟨h5,h6⟩ | ⟨v,v',h5,h6,h7⟩
   ·rw [hc,h5] at hr
    simp [World.farLoad,h1] at hr
   ·rw [hc,h5] at hr
    cases hr
    refine ⟨v',wa,es.push ⟨.cell a',false,false⟩,R,by simp only [Sem.runT,hc',h6];rfl,fun e he=>?_,hw,⟨le_refl R,fun _ _ h=>.inl h⟩,.refl R D wa,Nat.le_refl _,h7⟩
    rcases Array.mem_push.1 he with h' | rfl
    ·exact .inl h'
    ·exact .inr ⟨rfl,a.block,h.1,fun h=>by cases h⟩
 ·have hc:wl.cell? a=none:=by simp [World.cell?,h1]
  rw [hc] at hr
  simp [World.farLoad,h1] at hr
 ·have hc:wl.cell? a=none:=by cases o <;> first | (cases hch;done) | simp [World.cell?,h1]
  rw [hc] at hr
  cases o <;> first | (cases hch;done) | simp [World.farLoad,h1] at hr
theorem cellsLike [Fns] {R:BR} {v v':Value} (h:VR1 R v v'):(∀ c,v'≠.agg c)∧((∃ t,v'=.tuple t)→∃ t,v=.tuple t):=by
 cases h with
 | func _ _=>exact ⟨by simp,by simp⟩
 | base h =>
  cases h with
  | flat hf=>exact ⟨fun c hc=>by subst hc;simp [flat] at hf,fun h=>h⟩
  | _=>exact ⟨by simp,by simp⟩
theorem RunR.store [Fns] {a a':Addr} (h:AR R a a') {v v':Value} (hv:VR1 R v v'):RunR P D (fun _ _ _=>True) R (Go.store a v) (Go.store a' v'):=by
 intro wl wa es hw x wl' hr
 obtain ⟨o,o',h1,h2,h3⟩:=hw.obj _ _ h.1
 obtain ⟨hna,hnt⟩:=cellsLike hv
 have hrun:∀ (v:Value) (a:Addr) (w:World),(∀ c,v≠.agg c)→(∀ t,v≠.tuple t)→(Go.store a v).runT P w es=(match w.cell? a with
   | some _=>if w.frozen? a then (.halt (.unsupported (.unsafePointer "a write to bytes that a string shares")) w,es) else (.ok () (w.setCell a v),es.push ⟨.cell a,true,false⟩)
   | none=>match w.farStore P a v false with
    | .ok (w',touched)=>(.ok () w',es ++ touched.toArray.map (⟨.cell ·,true,false⟩))
    | .error h=>(.halt h w,es)):=by
  intro v a w h1 h2
  cases v <;> first | rfl | exact absurd rfl (h1 _) | exact absurd rfl (h2 _)
 by_cases ht:∃ t,v=.tuple t
 ·obtain ⟨t,rfl⟩:=ht
  cases hr
 have hvt:∀ t,v≠.tuple t:=fun t h=>ht ⟨t,h⟩
 have hvt':∀ t,v'≠.tuple t:=fun t h=>ht (hnt ⟨t,h⟩)
 have hva:∀ c,v≠.agg c:=fun c h=>by
  subst h
  cases hv with
  | base h=>cases h with | flat hf=>cases hf
 have hr':((Go.store a v).runT P wl es).1=.ok x wl':=by rw [Sem.runT_eq];exact hr
 rw [hrun v a wl hva hvt] at hr'
 rcases h3 with ⟨c,c',e,f,f',rfl,rfl,h4,h5,h6⟩ | ⟨_,_,l,rfl,rfl,_⟩ | ⟨_,hch,_⟩
 ·have hc:wl.cell? a=if a.spot.isSome then none else c[a.off]?:=by simp [World.cell?,h1]
  have hc':wa.cell? a'=if a.spot.isSome then none else c'[a.off]?:=by simp [World.cell?,h2,h.2.1,h.2.2]
  cases hs:a.spot.isSome with
  | true =>
   rw [hs] at hc
   simp only [if_true] at hc
   rw [hc] at hr'
   simp [World.farStore,h1] at hr'
  | false =>
   rw [hs] at hc hc'
   simp only [Bool.false_eq_true,if_false] at hc hc'
   rcases h4.get? a.off with ⟨h7,h8⟩ | ⟨y,y',h7,h8,h9⟩
   ·rw [hc,h7] at hr'
    simp [World.farStore,h1] at hr'
   ·rw [hc,h7] at hr'
    have hlt:a.off < c.size:=(Array.getElem?_eq_some_iff.1 h7).1
    by_cases hD:D a.block
    ·have:wl.frozen? a=true:=by
      unfold World.frozen?
      rw [h1]
      dsimp only
      rw [h5 hD]
      simp [hlt]
     simp only [this,if_true] at hr'
     cases hr'
    ·obtain ⟨hf,hf'⟩:=h6 hD
     have hfr:wl.frozen? a=false:=by simp [World.frozen?,h1,hf]
     have hfr':wa.frozen? a'=false:=by simp [World.frozen?,h2,hf']
     simp only [hfr,Bool.false_eq_true,if_false] at hr'
     cases hr'
     have hlt':a.block < wl.heap.size:=(Array.getElem?_eq_some_iff.1 h1).1
     have hlt2:a'.block < wa.heap.size:=(Array.getElem?_eq_some_iff.1 h2).1
     have hset:(wl.setCell a v).heap[a.block]? = some (.cells (c.setIfInBounds a.off v) e f):=by
      simp [World.setCell,Array.getElem?_modify,h1,hs]
     have hset':(wa.setCell a' v').heap[a'.block]? = some (.cells (c'.setIfInBounds a.off v') e f'):=by
      simp [World.setCell,Array.getElem?_modify,h2,h.2.1,h.2.2,hs]
     have hoth:∀ b,b≠a.block→(wl.setCell a v).heap[b]? = wl.heap[b]?:=by
      intro b hb
      simp only [World.setCell,Array.getElem?_modify]
      rw [if_neg (fun h=>hb h.symm)]
     have hoth':∀ b,b≠a'.block→(wa.setCell a' v').heap[b]? = wa.heap[b]?:=by
      intro b hb
      simp only [World.setCell,Array.getElem?_modify]
      rw [if_neg (fun h=>hb h.symm)]
     refine ⟨(),wa.setCell a' v',es.push ⟨.cell a',true,false⟩,R,?_,fun ev he=>?_,⟨fun b b' hb=>?_,hw.fn,hw.inj,hw.old,hw.new,hw.tape,hw.drawn,fun b hb=>by simpa [World.setCell] using hw.dom b hb,by simpa [World.setCell] using hw.gl,by simpa [World.setCell] using hw.ga⟩,⟨le_refl R,fun _ _ h=>.inl h⟩,⟨by simp [World.setCell],fun b' _ hD'=>?_,rfl,rfl,rfl,fun C h=>heapOk_setCell h _ _⟩,by simp [World.setCell],trivial⟩
     ·rw [hrun v' a' wa hna hvt',hc',h8]
      simp only [hfr',Bool.false_eq_true,if_false]
     ·rcases Array.mem_push.1 he with h' | rfl
      ·exact .inl h'
      ·exact .inr ⟨rfl,a.block,h.1,fun _=>hD⟩
     ·by_cases hb1:b=a.block
      ·subst hb1
       have:b'=a'.block:=hw.fn _ _ _ hb h.1
       subst this
       exact ⟨_,_,hset,hset',.inl ⟨_,_,_,_,_,rfl,rfl,h4.set hv,fun h=>(hD h).elim,fun _=>⟨hf,hf'⟩⟩⟩
      ·have hb2:b'≠a'.block:=fun h'=>hb1 (hw.inj _ _ _ (h' ▸ hb) h.1)
       rw [hoth b hb1,hoth' b' hb2]
       exact hw.obj b b' hb
     ·exact hoth' b' fun h'=>hD (hD' a.block (h' ▸ h.1))
 ·have hc:wl.cell? a=none:=by simp [World.cell?,h1]
  rw [hc] at hr'
  simp [World.farStore,h1] at hr'
 ·have hc:wl.cell? a=none:=by cases o <;> first | (cases hch;done) | simp [World.cell?,h1]
  rw [hc] at hr'
  cases o <;> first | (cases hch;done) | simp [World.farStore,h1] at hr'
theorem RunR.newObj [Fns] {o o':Obj} (h:∀ R',le R R'→OR R' False o o'):RunR P D (fun R' n n'=>R' n n') R (Go.newObj o) (Go.newObj o'):=by
 intro wl wa es hw x wl' hr
 have hD1:¬ D wl.heap.size:=fun h=>Nat.lt_irrefl _ (hw.dom _ h)
 have hG1:=hw.gl
 have hG2:=hw.ga
 cases hr
 let R':BR:=fun b b'=>R b b'∨(b=wl.heap.size∧b'=wa.heap.size)
 have hle:le R R':=fun b b' h=>.inl h
 have hlt:∀ {b b'},R b b'→b < wl.heap.size∧b' < wa.heap.size:=fun hb=>let ⟨o,o',h1,h2,_⟩:=hw.obj _ _ hb;⟨(Array.getElem?_eq_some_iff.1 h1).1,(Array.getElem?_eq_some_iff.1 h2).1⟩
 refine ⟨wa.heap.size,{ wa with heap:=wa.heap.push o' },es,R',rfl,fun e he=>.inl he,⟨?_,?_,?_,?_,?_,hw.tape,hw.drawn,fun b hb=>by have:=hw.dom b hb;simp;omega,by simp;omega,by simp;omega⟩,⟨hle,?_⟩,⟨by simp,?_,rfl,rfl,rfl,fun C hC=>heapOk_push hC ?_⟩,by simp,.inr ⟨rfl,rfl⟩⟩
 ·rintro b b' (hb | ⟨rfl,rfl⟩)
  ·obtain ⟨x,x',h1,h2,h3⟩:=hw.obj _ _ hb
   refine ⟨x,x',?_,?_,?_⟩
   ·rw [Array.getElem?_push,if_neg (by have:=(hlt hb).1;omega)];exact h1
   ·rw [Array.getElem?_push,if_neg (by have:=(hlt hb).2;omega)];exact h2
   ·rcases h3 with ⟨c,c',e,f,f',h4,h5,h6,h7,h8⟩ | ⟨a,a',l,h4,h5,h6,h7⟩ | h7
    ·exact .inl ⟨c,c',e,f,f',h4,h5,h6.mono fun _ _=>VR1.mono hle,h7,h8⟩
    ·exact .inr (.inl ⟨a,a',l,h4,h5,h6.mono hle,h7⟩)
    ·exact .inr (.inr h7)
  ·refine ⟨o,o',by simp,by simp,?_⟩
   rcases h R' hle with ⟨c,c',e,f,f',h4,h5,h6,h7,h8⟩ | ⟨a,a',l,h4,h5,h6,h7⟩ | h7
   ·exact .inl ⟨c,c',e,f,f',h4,h5,h6,fun h=>(hD1 h).elim,fun _=>h8 id⟩
   ·exact .inr (.inl ⟨a,a',l,h4,h5,h6,hD1⟩)
   ·exact h7.1.elim
 ·rintro b b1 b2 (h1 | ⟨rfl,rfl⟩) (h2 | ⟨h3,rfl⟩)
  ·exact hw.fn _ _ _ h1 h2
  ·have:=(hlt h1).1;omega
  ·have:=(hlt h2).1;omega
  ·rfl
 ·rintro b1 b2 b (h1 | ⟨rfl,rfl⟩) (h2 | ⟨rfl,h3⟩)
  ·exact hw.inj _ _ _ h1 h2
  ·have:=(hlt h1).2;omega
  ·have:=(hlt h2).2;omega
  ·rfl
 ·rintro b b' (h1 | ⟨rfl,rfl⟩) hd
  ·exact hw.old _ _ h1 hd
  ·exact (hD1 hd).elim
 ·rintro b b' (h1 | ⟨rfl,rfl⟩)
  ·exact hw.new _ _ h1
  ·exact ⟨hG1,hG2⟩
 ·rintro b b' (h1 | ⟨rfl,rfl⟩)
  ·exact .inl h1
  ·exact .inr ⟨Nat.le_refl _,Nat.le_refl _,hD1⟩
 ·intro b' hb _
  rw [Array.getElem?_push,if_neg (by omega)]
 ·rcases h R' hle with ⟨c,c',e,f,f',_,rfl,_⟩ | ⟨a,a',l,_,rfl,_⟩ | h7
  ·trivial
  ·trivial
  ·exact h7.1.elim
end
end Go.Sr
