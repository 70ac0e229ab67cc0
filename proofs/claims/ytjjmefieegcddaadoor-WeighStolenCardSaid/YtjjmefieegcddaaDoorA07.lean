/- A part of the proof: T12. -/
import Derived.Test.YtjjmefieegcddaaDoorA06
set_option linter.unusedVariables false
set_option linter.unusedSimpArgs false
namespace Go.Sr
open Go
open Go.Tm
open Go.Conc (G)
def isSend:Op→Bool
 | .send .. | .recv .. | .go _=>true
 | _=>false
section
variable {P:Program}
theorem bad_of_run {s:Sem Next} {fr:Frame} {cs:List Frame} {w:World} (hk:(fr.kind == CallKind.early)=false) (hh:HeapOk OC w)
  (h:(∃ c sh,s.run P w=.ok (.comm #[c] true sh) w)∨(∃ d,s.run P w=.ok (.spawn d) w)∨(∃ m w',s.run P w=.halt (.stuck m) w')∨∃ u w',(∀ g,u≠.initOrder g)∧s.run P w=.halt (.unsupported u) w'):GBad (stepG.apply P true fr cs none s w):=by
 unfold stepG.apply
 rcases h with ⟨c,sh,h⟩ | ⟨d,h⟩ | ⟨m,w',h⟩ | ⟨u,w',hu,h⟩
 ·simp only [if_true,Sem.runT_eq,h,hk,Bool.false_eq_true,if_false]
  exact bad_after ⟨⟨rfl,_,rfl⟩,hh⟩
 ·simp only [if_true,Sem.runT_eq,h,hk,Bool.false_eq_true,if_false]
  refine bad_after (bad_ite ?_ ?_)
  ·exact ⟨rfl,_,rfl,rfl,rfl⟩
  ·trivial
 ·simp only [if_true,Sem.runT_eq,h,hk,Bool.false_eq_true,if_false]
  exact bad_after trivial
 ·simp only [if_true,Sem.runT_eq,h,hk,Bool.false_eq_true,if_false]
  cases u with
  | initOrder g=>exact (hu g rfl).elim
  | _=>exact bad_after trivial
theorem run_recv_bad (ρ:Operand→Value) {o:Oper} {t:TypeId} {ch:Operand} {f:Bool} (ho:o.op=.recv t ch f) (w:World) :
  (∃ c sh,(execOp ρ o).run P w=.ok (.comm #[c] true sh) w)∨(∃ d,(execOp ρ o).run P w=.ok (.spawn d) w)∨(∃ m w',(execOp ρ o).run P w=.halt (.stuck m) w')∨∃ u w',(∀ g,u≠.initOrder g)∧(execOp ρ o).run P w=.halt (.unsupported u) w':=by
 unfold execOp
 simp only [ho]
 cases hu:P.underlying t with
 | none=>exact .inr (.inr (.inl ⟨ "no such type", w,by simp [Go.underlying,hu]⟩))
 | some d =>
  cases d with
  | chan dir e =>
   cases hi:P.info? e with
   | none=>exact .inr (.inr (.inl ⟨ "no such type", w,by simp [Go.underlying,hu,Go.zeroValue,Go.typeInfo,hi]⟩))
   | some i =>
    cases hz:i.zero with
    | none=>exact .inr (.inr (.inr ⟨.resourceLimit "a value of more than 2^22 cells", w,(fun g h=>nomatch h),by simp [Go.underlying,hu,Go.zeroValue,Go.typeInfo,hi,hz]⟩))
    | some z=>exact .inl ⟨{ chan:=ρ ch,send:=none,zero:=z },.recv f,by simp [Go.underlying,hu,Go.zeroValue,Go.typeInfo,hi,hz]⟩
  | _=>exact .inr (.inr (.inl ⟨ "receive: channel type expected", w,by simp [Go.underlying,hu]⟩))
theorem run_go_bad (ρ:Operand→Value) {o:Oper} {c:Call} (ho:o.op=.go c) (w:World) :
  (∃ c sh,(execOp ρ o).run P w=.ok (.comm #[c] true sh) w)∨(∃ d,(execOp ρ o).run P w=.ok (.spawn d) w)∨(∃ m w',(execOp ρ o).run P w=.halt (.stuck m) w')∨∃ u w',(∀ g,u≠.initOrder g)∧(execOp ρ o).run P w=.halt (.unsupported u) w':=by
 unfold execOp
 simp only [ho,resolve]
 cases c.callee with
 | builtin b=>exact .inr (.inl ⟨_,rfl⟩)
 | invoke recv name=>exact .inr (.inl ⟨_,rfl⟩)
 | value f =>
  simp only
  cases ρ f <;> first | exact .inr (.inl ⟨_,rfl⟩) | exact .inr (.inr (.inl ⟨_,_,rfl⟩))
end
def okWs [Fns] (P:Program) (o:Op):Bool:=okW P o || isSend o
def okWC [Fns] (P:Program):Code→Bool
 | .region _ ops _=>ops.all fun o=>okWs P o.op
 | .seq a b=>okWC P a && okWC P b
 | .cond c a b=>okOpd c && (okWC P a && okWC P b)
 | .block _ c | .loop c=>okWC P c
 | .skip | .label _ | .ret | .exit _=>true
 | _=>false
def ItemW [Fns] (P:Program):Item→Prop
 | .code c | .inLoop c=>okWC P c=true
 | .inRegion ops _=>(ops.all fun o=>okWs P o.op)=true
 | .inBlock _=>True
 | _=>False
structure FrR [Fns] (P:Program) (R:BR) (fr fr':Frame):Prop where
 fn:fr'.fn=fr.fn
 tmps:AF (VR R) fr.tmps fr'.tmps
 todo:fr'.todo=fr.todo
 items:∀ x∈fr.todo,ItemW P x
 defers:fr.defers=[]
 defers':fr'.defers=[]
 mode:fr'.mode=fr.mode
 runs:fr.mode=.run∨fr.mode=.returning
 kind:fr'.kind=.normal∨fr'.kind=.deferred
 kinds:fr.kind=.normal∨fr.kind=.deferred
 round:fr.roundOf=none
 round':fr'.roundOf=none
 res:∀ fn,P.funcs[fr.fn]? = some fn→fn.results.size≤1
def StkR [Fns] (P:Program) (K:CallKind) (R:BR):Frame→List Frame→Frame→List Frame→Prop
 | fr,[],fr',[]=>FrR P R fr fr'∧fr'.kind=K
 | fr,c :: cs,fr',c' :: cs'=>FrR P R fr fr'∧(fr.kind=.normal∧fr'.kind=.normal)∧StkR P K R c cs c' cs'
 | _,_,_,_=>False
def NoWay [Fns] (P:Program) (csl:List Frame) (g:GStep):Prop :=
 GBad g∨∃ fr cs w es,g=.go (G fr (cs ++ csl)) w es∧(∃ ch,fr.mode=.panicking ch)∧∀ c∈fr :: cs,c.defers=[]∧∀ x∈c.todo,ItemW P x
section
variable {P:Program} {K:CallKind} {D:Nat→Prop} {R:BR} {csl:List Frame}
theorem FrR.mono [Fns] {R':BR} (h:le R R') {fr fr':Frame} (x:FrR P R fr fr'):FrR P R' fr fr' :=
 ⟨x.fn,x.tmps.mono fun _ _=>VR.mono h,x.todo,x.items,x.defers,x.defers',x.mode,x.runs,x.kind,x.kinds,x.round,x.round',x.res⟩
theorem StkR.mono [Fns] {R':BR} (h:le R R'):∀ {fr fr':Frame} {mine mine':List Frame},StkR P K R fr mine fr' mine'→StkR P K R' fr mine fr' mine'
 | _,_,[],[],x=>⟨FrR.mono h x.1,x.2⟩
 | _,_,_ :: _,_ :: _,x=>⟨x.1.mono h,x.2.1,StkR.mono h x.2.2⟩
theorem StkR.top [Fns] {fr fr':Frame} {mine mine':List Frame} (h:StkR P K R fr mine fr' mine'):FrR P R fr fr':=by
 cases mine <;> cases mine' <;> first | exact h.1 | exact h.elim
theorem StkR.set [Fns] {fr fr' g g':Frame} {mine mine':List Frame} (h:StkR P K R fr mine fr' mine') (x:FrR P R g g') (hk:g.kind=fr.kind∧g'.kind=fr'.kind):StkR P K R g mine g' mine':=by
 cases mine <;> cases mine' <;> first | exact ⟨x,hk.2.trans h.2⟩ | exact ⟨x,⟨hk.1.trans h.2.1.1,hk.2.trans h.2.1.2⟩,h.2.2⟩ | exact h.elim
theorem FrR.eval [Fns] {fr fr':Frame} (h:FrR P R fr fr'):EnvR R fr.eval fr'.eval:=by
 intro x hx
 cases x with
 | tmp t=>exact h.tmps.get (.of_flat rfl) t
 | const v=>exact .of_flat hx
 | global g=>cases hx
 | func f=>exact .base (.ofFunc hx AF.empty AF.empty)
theorem frR_finish [Fns] {fr fr':Frame} (h:FrR P R fr fr') {v v':Value} (hv:VR R v v'):FrR P R (fr.finish v) (fr'.finish v')∧((fr.finish v).kind=fr.kind∧(fr'.finish v').kind=fr'.kind):=by
 unfold Frame.finish
 rw [h.todo]
 split
 ·rename_i ops i rest k hk
  have hit:∀ x∈Item.inRegion ops rest :: k,ItemW P x:=by
   intro x hx
   have:=h.items
   rw [hk] at this
   rcases List.mem_cons.1 hx with rfl | hx
   ·exact this (.inRegion ops (i :: rest)) (by simp)
   ·exact this x (by simp [hx])
  refine ⟨⟨h.fn,?_,rfl,hit,h.defers,h.defers',h.mode,h.runs,h.kind,h.kinds,h.round,h.round',h.res⟩,⟨rfl,rfl⟩⟩
  cases (ops[i]?).bind (·.dst) with
  | none=>exact h.tmps
  | some d=>exact h.tmps.set hv
 ·rename_i l k hk
  have:=h.items
  rw [hk] at this
  exact (this (.inRangeFunc l) (by simp)).elim
 ·rename_i k hk
  have:=h.items
  rw [hk] at this
  exact (this .beginRound (by simp)).elim
 ·rename_i d wr rs sv k hk
  have:=h.items
  rw [hk] at this
  exact (this (.call d wr rs sv) (by simp)).elim
 ·rename_i row args k hk
  have:=h.items
  rw [hk] at this
  exact (this (.extern row args) (by simp)).elim
 ·exact ⟨h,⟨rfl,rfl⟩⟩
def SokC [Fns] (P:Program):Prop:=∀ f,Fns.ok f=true→∃ fn c,P.funcs[f]? = some fn∧fn.body=some c∧okWC P c=true∧fn.results.size≤1∧(fn.name == "runtime.NumGoroutine")=false
theorem SokC.w [Fns] (h:SokC P):SokW P:=fun f hf=>by
 obtain ⟨fn,c,h1,h2,_,_,h5⟩:=h f hf
 exact ⟨fn,h1,by rw [h2];rfl,h5⟩
theorem frR_enter [Fns] (hS:SokC P) {f:FuncId} (hf:Fns.ok f=true) {a a':Array Value} (h:AF (VR R) a a'):FrR P R (Frame.enter P f a .normal) (Frame.enter P f a' .normal):=by
 obtain ⟨fn,c,h1,h2,h3,h4,_⟩:=hS f hf
 refine ⟨rfl,?_,rfl,?_,rfl,rfl,rfl,.inl rfl,.inl rfl,.inl rfl,rfl,rfl,fun fn' hfn=>?_⟩
 ·simp only [Frame.enter]
  rw [h.1]
  exact h.append (AF.replicate (.of_flat rfl))
 ·intro x hx
  simp only [Frame.enter,h1,h2,Option.bind_some,Option.getD_some,List.mem_singleton] at hx
  subst hx
  exact h3
 ·simp only [Frame.enter] at hfn
  rw [h1] at hfn
  cases hfn
  exact h4
def Sim [Fns] (P:Program) (K:CallKind) (csl:List Frame) (D:Nat→Prop) (R:BR) (wl wa:World) (fl:GStep) (fa:Bool→List Frame→GStep):Prop :=
 (∃ fr1 mine1 wl1 es fr1' mine1' wa1 es' R1,fl=.go (G fr1 (mine1 ++ csl)) wl1 es∧(∀ main cs,fa main cs=.go (G fr1' (mine1' ++ cs)) wa1 es') ∧
  StkR P K R1 fr1 mine1 fr1' mine1'∧WR P.globals.size R1 D wl1 wa1∧Grow R R1 D wl wa∧Guar R D wa wa1∧(∀ e∈es',EvR R1 D e)∧wl.heap.size≤wl1.heap.size)∨NoWay P csl fl
theorem sim_to [Fns] {wl wa:World} {fl:GStep} {fa:Bool→List Frame→GStep} {fr1 fr1':Frame} {mine1 mine1':List Frame} (hw:WR P.globals.size R D wl wa) (h:StkR P K R fr1 mine1 fr1' mine1')
  (hl:fl=.go (G fr1 (mine1 ++ csl)) wl #[]) (ha:∀ main cs,fa main cs=.go (G fr1' (mine1' ++ cs)) wa #[]):Sim P K csl D R wl wa fl fa :=
 .inl ⟨fr1,mine1,wl,#[],fr1',mine1',wa,#[],R,hl,ha,h,hw,⟨le_refl R,fun _ _ h=>.inl h⟩,.refl R D wa,by simp,Nat.le_refl _⟩
theorem StkR.all [Fns]:∀ {fr fr':Frame} {mine mine':List Frame},StkR P K R fr mine fr' mine'→∀ c∈fr :: mine,c.defers=[]∧∀ x∈c.todo,ItemW P x
 | _,_,[],[],h,c,hc=>by
  simp only [List.mem_singleton] at hc
  subst hc
  exact ⟨h.1.defers,h.1.items⟩
 | _,_,c1 :: l1,c2 :: l2,h,c,hc=>by
  rcases List.mem_cons.1 hc with rfl | hc
  ·exact ⟨h.1.defers,h.1.items⟩
  ·exact StkR.all h.2.2 c hc
theorem sim_apply [Fns] (hS:SokC P) {wl wa:World} {fr fr':Frame} {mine mine':List Frame} {s s':Sem Next} (h:StkR P K R fr mine fr' mine') (hw:WR P.globals.size R D wl wa) (hs:RunR P D NR R s s')
  (hok:∀ hh w',s.run P wl=.halt hh w'→OkHalt hh) :
  Sim P K csl D R wl wa (stepG.apply P true fr (mine ++ csl) none s wl) (fun _ cs=>stepG.apply P true fr' (mine' ++ cs) none s' wa):=by
 have ht:=h.top
 have hearly:(fr.kind == CallKind.early)=false:=by rcases ht.kinds with h | h <;> rw [h] <;> rfl
 have hearly':(fr'.kind == CallKind.early)=false:=by rcases ht.kind with h | h <;> rw [h] <;> rfl
 cases hr:s.run P wl with
 | ok x w' =>
  obtain ⟨x',wa1,es',R1,k1,k2,k3,k4,k5,k6,k7⟩:=hs wl wa #[] hw x w' hr
  have hev:∀ e∈seen P fr'.fn es',EvR R1 D e:=fun e he=>(k2 e (mem_seen he)).elim (fun h=>by simp at h) id
  have h1:=h.mono k4.le
  cases k7 with
  | @value v v' hv =>
   have hf:=frR_finish h1.top hv
   refine .inl ⟨fr.finish v,mine,w',seen P fr.fn (s.events P wl #[]),fr'.finish v',mine',wa1,seen P fr'.fn es',R1,?_,fun main cs=>?_,h1.set hf.1 hf.2,k3,k4,k5,hev,k6⟩
   ·unfold stepG.apply
    simp only [if_true,Sem.runT_eq,hr,hearly,Bool.false_eq_true,if_false,GStep.after,Array.append_empty,G]
   ·unfold stepG.apply
    simp only [if_true,k1,hearly',Bool.false_eq_true,if_false,GStep.after,Array.append_empty,G]
  | skip =>
   have hf:=frR_finish h1.top (.of_flat rfl:VR R1 undef undef)
   refine .inl ⟨fr.finish undef,mine,w',seen P fr.fn (s.events P wl #[]),fr'.finish undef,mine',wa1,seen P fr'.fn es',R1,?_,fun main cs=>?_,h1.set hf.1 hf.2,k3,k4,k5,hev,k6⟩
   ·unfold stepG.apply
    simp only [if_true,Sem.runT_eq,hr,hearly,Bool.false_eq_true,if_false,GStep.after,Array.append_empty,G]
   ·unfold stepG.apply
    simp only [if_true,k1,hearly',Bool.false_eq_true,if_false,GStep.after,Array.append_empty,G]
  | @enter f a a' hf ha =>
   have hk:∀ {g:Frame},(∀ x∈g.todo,ItemW P x)→∀ d r sv k,g.todo=.call d true r sv :: k→False:=fun hi d r sv k hg=>by
    rw [hg] at hi
    exact hi (.call d true r sv) (by simp)
   refine .inl ⟨Frame.enter P f a .normal,fr :: mine,w',seen P fr.fn (s.events P wl #[]),Frame.enter P f a' .normal,fr' :: mine',wa1,seen P fr'.fn es',R1,?_,fun main cs=>?_,⟨frR_enter hS hf ha,⟨rfl,rfl⟩,h1⟩,k3,k4,k5,hev,k6⟩
   ·unfold stepG.apply
    simp only [if_true,Sem.runT_eq,hr,hearly,Bool.false_eq_true,if_false,GStep.after,Array.append_empty,G]
    split
    ·rename_i hg;exact (hk ht.items _ _ _ _ hg).elim
    ·rfl
   ·unfold stepG.apply
    simp only [if_true,k1,hearly',Bool.false_eq_true,if_false,GStep.after,Array.append_empty,G,List.cons_append]
    split
    ·rename_i hg;exact (hk ht.items _ _ _ _ (ht.todo ▸ hg)).elim
    ·rfl
 | halt hh w' =>
  have hall:=h.all
  have hgo:∀ l,stepG.apply P true fr (mine ++ csl) none s wl=.go (G (fr.raise l) (mine ++ csl)) w' (seen P fr.fn (s.events P wl #[]))→NoWay P csl (stepG.apply P true fr (mine ++ csl) none s wl):=by
   intro l hl
   refine .inr ⟨fr.raise l,mine,w',_,hl,?_,fun c hc=>?_⟩
   ·rcases ht.runs with hm | hm <;> exact ⟨l,by simp [Frame.raise,hm]⟩
   ·rcases List.mem_cons.1 hc with rfl | hc
    ·have:=hall fr (by simp)
     unfold Frame.raise
     split <;> exact this
    ·exact hall c (by simp [hc])
  refine .inr ?_
  have hx:=hok _ _ hr
  cases hh <;> first | exact hx.elim | skip
  case panic v =>
   refine hgo [{ v,recovered:=false }] ?_
   unfold stepG.apply
   simp only [if_true,Sem.runT_eq,hr,hearly,Bool.false_eq_true,if_false,GStep.after,Array.append_empty,G]
  case goexit =>
   refine hgo [goexitEntry] ?_
   unfold stepG.apply
   simp only [if_true,Sem.runT_eq,hr,hearly,Bool.false_eq_true,if_false,GStep.after,Array.append_empty,G]
  all_goals
   refine .inl ?_
   unfold stepG.apply
   simp only [if_true,Sem.runT_eq,hr,hearly,Bool.false_eq_true,if_false]
  case exit c=>exact bad_after trivial
  case fatal m=>exact bad_after (bad_endFatal _ _ _ _ _)
  case throw m=>exact bad_after ⟨rfl,_,rfl,rfl,rfl⟩
  case unsupported u=>cases u <;> first | exact hx.elim | exact bad_after trivial
  case stuck m=>exact bad_after trivial
theorem okW_okOp [Fns] {o:Op} {r:Bool} (h:okW P o=true):okOp r o=true:=by
 cases o <;> first | rfl | (cases h;done) | skip
 case call c =>
  have h':okWCall P c=true:=h
  unfold okWCall at h'
  show okCall r c=true
  unfold okCall
  cases hc:c.callee with
  | builtin b =>
   rw [hc] at h'
   cases b <;> first | (simp at h';done) | simp [okBuiltin,isRecover]
  | _=>rfl
theorem mem_items [Fns] {fr:Frame} {x:Item} {k:List Item} (h:∀ y∈fr.todo,ItemW P y) (hk:fr.todo=x :: k):ItemW P x∧∀ y∈k,ItemW P y:=by
 rw [hk] at h
 exact ⟨h x (by simp),fun y hy=>h y (by simp [hy])⟩
theorem frR_todo [Fns] {fr fr':Frame} (h:FrR P R fr fr') {todo:List Item} (ht:∀ x∈todo,ItemW P x):FrR P R { fr with todo } { fr' with todo } :=
 ⟨h.fn,h.tmps,rfl,ht,h.defers,h.defers',h.mode,h.runs,h.kind,h.kinds,h.round,h.round',h.res⟩
theorem frR_ret [Fns] {fr fr':Frame} (h:FrR P R fr fr'):FrR P R { fr with mode:=.returning } { fr' with mode:=.returning } :=
 ⟨h.fn,h.tmps,h.todo,h.items,h.defers,h.defers',rfl,.inr rfl,h.kind,h.kinds,h.round,h.round',h.res⟩
theorem okW_exitTo [Fns] {id:Nat}:∀ {k k':List Item},exitTo id k=some k'→(∀ y∈k,ItemW P y)→∀ y∈k',ItemW P y:=by
 intro k
 induction k with
 | nil=>intro k' h;simp [exitTo] at h
 | cons x k ih =>
  intro k' h hk
  have hk':∀ y∈k,ItemW P y:=fun y hy=>hk y (by simp [hy])
  cases x <;> simp only [exitTo] at h <;> first
   | exact ih h hk'
   | (split at h
      ·cases h;exact hk'
      ·exact ih h hk')
theorem VR.bool_iff [Fns] {v v':Value} (h:VR R v v') (b:Bool):v=.bool b↔v'=.bool b:=by
 cases h with
 | agg _ _=>simp
 | base h =>
  cases h with
  | func _ _ _ _=>simp
  | base h =>
   cases h with
   | flat _=>rfl
   | ptr _=>simp
   | slice _=>simp
   | chan _=>simp
theorem yielded_eq [Fns] {ops:Array Oper} {t t':Array Value} (h:AF (VR R) t t'):yielded ops t'=yielded ops t:=by
 funext j
 unfold yielded
 cases (ops[j]?).bind (·.dst) with
 | none=>rfl
 | some d =>
  rcases h.get? d with ⟨e1,e2⟩ | ⟨v,v',e1,e2,hv⟩
  ·simp only [Option.bind_some,e1,e2]
  ·simp only [Option.bind_some,e1,e2]
   cases v with
   | bool b=>rw [(hv.bool_iff b).1 rfl]
   | _ =>
    cases v' with
    | bool b=>cases (hv.bool_iff b).2 rfl
    | _=>rfl
theorem sim_exec [Fns] (hS:SokC P) (hT:Sok P fun _=>True) {wl wa:World} {fr fr':Frame} {mine mine':List Frame} (h:StkR P K R fr mine fr' mine') (hw:WR P.globals.size R D wl wa) (hh:HeapOk OC wl) (hm:fr.mode=.run) :
  Sim P K csl D R wl wa (stepG P true (G fr (mine ++ csl)) wl) (fun main cs=>stepG P main (G fr' (mine' ++ cs)) wa):=by
 have ht:=h.top
 have hm':fr'.mode=.run:=ht.mode.trans hm
 have e1:stepG P true (G fr (mine ++ csl)) wl=stepG.exec P true true fr (mine ++ csl) none wl:=by simp only [stepG,G,hm]
 have e2:∀ main cs,stepG P main (G fr' (mine' ++ cs)) wa=stepG.exec P main true fr' (mine' ++ cs) none wa:=fun main cs=>by simp only [stepG,G,hm']
 rw [e1]
 simp only [e2]
 cases htd:fr.todo with
 | nil =>
  have htd':fr'.todo=[]:=ht.todo.trans htd
  exact sim_to hw (h.set (frR_ret ht) ⟨rfl,rfl⟩) (by simp only [stepG.exec,htd,ht.round];rfl) (fun main cs=>by simp only [stepG.exec,htd',ht.round'];rfl)
 | cons x k =>
  have htd':fr'.todo=x :: k:=ht.todo.trans htd
  obtain ⟨hx,hkk⟩:=mem_items ht.items htd
  cases x with
  | inBlock id=>exact sim_to hw (h.set (frR_todo ht hkk) ⟨rfl,rfl⟩) (by simp only [stepG.exec,htd,G]) (fun main cs=>by simp only [stepG.exec,htd',G])
  | inLoop body =>
   have hi:∀ y∈Item.code body :: .inLoop body :: k,ItemW P y:=by
    intro y hy
    rcases List.mem_cons.1 hy with rfl | hy
    ·exact hx
    ·rcases List.mem_cons.1 hy with rfl | hy
     ·exact hx
     ·exact hkk y hy
   exact sim_to hw (h.set (frR_todo ht hi) ⟨rfl,rfl⟩) (by simp only [stepG.exec,htd,G]) (fun main cs=>by simp only [stepG.exec,htd',G])
  | inRegion ops todo =>
   cases todo with
   | nil=>exact sim_to hw (h.set (frR_todo ht hkk) ⟨rfl,rfl⟩) (by simp only [stepG.exec,htd,G]) (fun main cs=>by simp only [stepG.exec,htd',G])
   | cons i rest =>
    have hy:=yielded_eq (ops:=ops) ht.tmps
    by_cases hwt:(((ops[i]?).map (Region.wanted · (yielded ops fr.tmps))).getD false)=true
    ·have hwt':(((ops[i]?).map (Region.wanted · (yielded ops fr'.tmps))).getD false)=true:=by rw [hy];exact hwt
     cases hop:ops[i]? with
     | none=>rw [hop] at hwt;cases hwt
     | some o =>
      have hos:okWs P o.op=true:=by
       have hx':(ops.all fun o=>okWs P o.op)=true:=hx
       rw [Array.all_eq_true] at hx'
       obtain ⟨hi,rfl⟩:=Array.getElem?_eq_some_iff.1 hop
       exact hx' i hi
      have hfo:fr.oper? = some o:=by unfold Frame.oper?;rw [htd];exact hop
      by_cases hsd:isSend o.op=true
      ·refine .inr (.inl ?_)
       have l1:stepG.exec P true true fr (mine ++ csl) none wl=stepG.apply P true fr (mine ++ csl) none (execOp fr.eval o) wl:=by
        simp only [stepG.exec,htd,hwt,if_true,stepG.oper,hfo,ht.round]
       rw [l1]
       have hearly:(fr.kind == CallKind.early)=false:=by rcases ht.kinds with h | h <;> rw [h] <;> rfl
       refine bad_of_run hearly hh ?_
       cases ho:o.op <;> rw [ho] at hsd <;> first | (cases hsd;done) | skip
       case send ch x =>
        exact .inl ⟨{ chan:=fr.eval ch,send:=some (fr.eval x),zero:=.tuple #[] },.send,by unfold execOp;simp [ho]⟩
       case recv t ch f=>exact run_recv_bad fr.eval ho wl
       case go c=>exact run_go_bad fr.eval ho wl
      have hoo:okW P o.op=true:=by
       unfold okWs at hos
       cases hw1:okW P o.op with
       | true=>rfl
       | false=>rw [hw1] at hos;exact (hsd (by simpa using hos)).elim
      have hfo':fr'.oper? = some o:=by unfold Frame.oper?;rw [htd'];exact hop
      have hfine:=(fine_execOp (ρ:=fr.eval) hT (fun _=>rfl) (okW_okOp (r:=true) hoo) hh (fun _ _=>trivial) (es:=#[])).facts
      rw [Sem.runT_eq] at hfine
      have l1:stepG.exec P true true fr (mine ++ csl) none wl=stepG.apply P true fr (mine ++ csl) none (execOp fr.eval o) wl:=by
       simp only [stepG.exec,htd,hwt,if_true,stepG.oper,hfo,ht.round]
      have l2:∀ main cs,stepG.exec P main true fr' (mine' ++ cs) none wa=stepG.apply P true fr' (mine' ++ cs) none (execOp fr'.eval o) wa:=fun main cs=>by
       simp only [stepG.exec,htd',hwt',if_true,stepG.oper,hfo',ht.round']
      rw [l1]
      simp only [l2]
      refine sim_apply hS h hw (RunR.execOp hS.w ht.eval hoo) (fun h' w' hr=>?_)
      have:=hfine.leaf
      rw [hr] at this
      exact this
    ·have hwt':¬ (((ops[i]?).map (Region.wanted · (yielded ops fr'.tmps))).getD false)=true:=by rw [hy];exact hwt
     have hf:=frR_finish ht (.of_flat rfl:VR R undef undef)
     exact sim_to hw (h.set hf.1 hf.2) (by simp only [stepG.exec,htd,hwt,G];rfl) (fun main cs=>by simp only [stepG.exec,htd',hwt',G];rfl)
  | code c =>
   have hc:okWC P c=true:=hx
   have two:∀ {a b:Item},ItemW P a→ItemW P b→∀ y∈a :: b :: k,ItemW P y:=by
    intro a b ha hb y hy
    rcases List.mem_cons.1 hy with rfl | hy
    ·exact ha
    ·rcases List.mem_cons.1 hy with rfl | hy
     ·exact hb
     ·exact hkk y hy
   cases c with
   | ret=>exact sim_to hw (h.set (frR_ret ht) ⟨rfl,rfl⟩) (by simp only [stepG.exec,htd,ht.round];rfl) (fun main cs=>by simp only [stepG.exec,htd',ht.round'];rfl)
   | skip=>exact sim_to hw (h.set (frR_todo ht hkk) ⟨rfl,rfl⟩) (by simp only [stepG.exec,htd,G]) (fun main cs=>by simp only [stepG.exec,htd',G])
   | label l=>exact sim_to hw (h.set (frR_todo ht hkk) ⟨rfl,rfl⟩) (by simp only [stepG.exec,htd,G]) (fun main cs=>by simp only [stepG.exec,htd',G])
   | seq a b =>
    simp only [okWC,Bool.and_eq_true] at hc
    exact sim_to hw (h.set (frR_todo ht (two (a:=.code a) (b:=.code b) hc.1 hc.2)) ⟨rfl,rfl⟩) (by simp only [stepG.exec,htd,G]) (fun main cs=>by simp only [stepG.exec,htd',G])
   | block id body=>exact sim_to hw (h.set (frR_todo ht (two (a:=.code body) (b:=.inBlock id) hc trivial)) ⟨rfl,rfl⟩) (by simp only [stepG.exec,htd,G]) (fun main cs=>by simp only [stepG.exec,htd',G])
   | loop body=>exact sim_to hw (h.set (frR_todo ht (two (a:=.code body) (b:=.inLoop body) hc hc)) ⟨rfl,rfl⟩) (by simp only [stepG.exec,htd,G]) (fun main cs=>by simp only [stepG.exec,htd',G])
   | scope body=>cases hc
   | goto l=>cases hc
   | refuse w=>cases hc
   | rangeFunc f ps a b=>cases hc
   | exit id =>
    cases he:exitTo id k with
    | some k'=>exact sim_to hw (h.set (frR_todo ht (okW_exitTo he hkk)) ⟨rfl,rfl⟩) (by simp only [stepG.exec,htd,he,Option.elim_some,G]) (fun main cs=>by simp only [stepG.exec,htd',he,Option.elim_some,G])
    | none=>exact .inr (.inl (by simp only [stepG.exec,htd,he,Option.elim_none,ht.round];trivial))
   | cond e a b =>
    simp only [okWC,Bool.and_eq_true] at hc
    have hv:=ht.eval e hc.1
    by_cases hb:∃ t,fr.eval e=.bool t
    ·obtain ⟨t,htt⟩:=hb
     have htt':fr'.eval e=.bool t:=(hv.bool_iff t).1 htt
     have hi:∀ y∈Item.code (if t then a else b) :: k,ItemW P y:=by
      intro y hy
      rcases List.mem_cons.1 hy with rfl | hy
      ·show okWC P _=true
       cases t
       ·exact hc.2.2
       ·exact hc.2.1
      ·exact hkk y hy
     exact sim_to hw (h.set (frR_todo ht hi) ⟨rfl,rfl⟩) (by simp only [stepG.exec,htd,htt,G]) (fun main cs=>by simp only [stepG.exec,htd',htt',G])
    ·refine .inr (.inl ?_)
     simp only [stepG.exec,htd]
     split
     ·rename_i b' h';exact (hb ⟨b',h'⟩).elim
     ·trivial
   | region id ops draw =>
    have hops:(ops.all fun o=>okWs P o.op)=true:=hc
    have hi:∀ l,∀ y∈Item.inRegion ops l :: k,ItemW P y:=by
     intro l y hy
     rcases List.mem_cons.1 hy with rfl | hy
     ·exact hops
     ·exact hkk y hy
    cases draw with
    | false=>exact sim_to hw (h.set (frR_todo ht (hi (List.range ops.size))) ⟨rfl,rfl⟩) (by simp only [stepG.exec,htd,G];rfl) (fun main cs=>by simp only [stepG.exec,htd',G];rfl)
    | true =>
     refine .inl ⟨{ fr with todo:=.inRegion ops (Region.schedule (P.follows .mixedOrders) ops (wl.tape wl.drawn (.order fr.fn id))) :: k },mine,{ wl with drawn:=wl.drawn+1 },#[],{ fr' with todo:=.inRegion ops (Region.schedule (P.follows .mixedOrders) ops (wl.tape wl.drawn (.order fr.fn id))) :: k },mine',{ wa with drawn:=wa.drawn+1 },#[],R,?_,fun main cs=>?_,h.set (frR_todo ht (hi _)) ⟨rfl,rfl⟩,?_,⟨le_refl R,fun _ _ h=>.inl h⟩,⟨Nat.le_refl _,fun _ _ _=>rfl,rfl,rfl,rfl,fun _ h=>h⟩,by simp,Nat.le_refl _⟩
     ·simp only [stepG.exec,htd,G,choose,Sem.run,Question.forced,Question.cut,Bool.not_true,Bool.false_eq_true,if_false]
     ·simp only [stepG.exec,htd',G,choose,Sem.run,Question.forced,Question.cut,Bool.not_true,Bool.false_eq_true,if_false,hw.tape,hw.drawn,ht.fn]
     ·exact ⟨hw.obj,hw.fn,hw.inj,hw.old,hw.new,hw.tape,by show wa.drawn+1=wl.drawn+1;rw [hw.drawn],hw.dom,hw.gl,hw.ga⟩
  | _=>exact hx.elim
end
end Go.Sr
