/- A part of the proof: T11, T12. -/
import Derived.Test.YtjjmefieegcddaaDoorG02
set_option linter.unusedVariables false
set_option linter.unusedSimpArgs false
set_option maxHeartbeats 8000000
namespace Go.Sr
open Go
open Go.Tm
def kR [bT]:Operand→Bool
 | .tmp _=>true
 | .func f=>bT.ok f
 | .const v=>flat v
 | .global _=>false
def Ox (P:Program) (t:TypeId):Bool :=
 match P.underlying t with
 | some (.int _)=>true
 | _=>false
def Fg (P:Program) (t:TypeId):Bool :=
 match P.underlying t with
 | some (.slice _)=>true
 | _=>false
def CY [bT] (P:Program) (c:Call):Bool :=
 c.args.all kR && match c.callee with
 | .builtin .len=>(c.argTypes[0]?).all (Fg P)
 | .builtin .min | .builtin .max=>true
 | .value f=>kR f
 | _=>false
def okW [bT] (P:Program):Op→Bool
 | .move x | .assign x | .box _ x | .load _ x | .nilCheck x | .unOp _ _ x | .fieldAddr _ x _=>kR x
 | .pick c a b=>kR c && kR a && kR b
 | .alloc t=>Hl P t
 | .build t ps=>Hl P t && ps.all fun p=>kR p.2
 | .store _ a x=>kR a && kR x
 | .binOp o t x y _=>QI o && Ox P t && kR x && kR y
 | .makeFunc (.func f) a c=>bT.ok f && (a.all kR && c.all kR)
 | .indexAddr _ x i=>kR x && kR i
 | .call c=>CY P c
 | _=>false
inductive NR [bT] (R:BR):Next→Next→Prop
 | value {v v':Value}:VR R v v'→NR R (.value v) (.value v')
 | skip:NR R .skip .skip
 | enter {f:FuncId} {a a':Array Value}:bT.ok f=true→AF (VR R) a a'→NR R (.enter f a) (.enter f a')
def XD [bT] (P:Program):Prop:=∀ f,bT.ok f=true→∃ fn,P.funcs[f]? = some fn∧fn.body.isSome=true∧(fn.name == "runtime.NumGoroutine")=false
section
variable {P:Program} {D:Nat→Prop} {α β:Type} {R:BR}
theorem ah.value [bT] {s s':Sem Value} (h:ah P D VR R s s'):ah P D NR R (do Pure.pure (.value (← s)):Sem Next) (do Pure.pure (.value (← s')):Sem Next) :=
 ah.bind h fun _ _ _ _ hv=>ah.pure (.value hv)
theorem ah.skip [bT] {Φ:BR→Unit→Unit→Prop} {s s':Sem Unit} (h:ah P D Φ R s s'):ah P D NR R (do s;Pure.pure .skip:Sem Next) (do s';Pure.pure .skip:Sem Next) :=
 ah.bind h fun _ _ _ _ _=>ah.pure .skip
theorem KQ {t:TypeId} (h:Ox P t=true):IsInt P t:=by
 unfold Ox at h
 split at h
 ·exact ⟨_,by assumption⟩
 ·cases h
def X8 [bT] (R:BR) (ρ ρ':Operand→Value):Prop:=∀ x,kR x=true→VR R (ρ x) (ρ' x)
theorem AF.Ik [bT] {ρ ρ':Operand→Value} (he:X8 R ρ ρ') {l:Array Operand} (h:l.all kR=true):AF (VR R) (l.map ρ) (l.map ρ'):=by
 rw [Array.all_eq_true] at h
 exact AF.map l fun x hx=>by
  obtain ⟨i,hi,rfl⟩:=Array.mem_iff_getElem.1 hx
  exact he _ (h i hi)
theorem ah.callFunc [bT] (hS:XD P) {f:FuncId} (hf:bT.ok f=true) {a a':Array Value} (h:AF (VR R) a a'):ah P D NR R (Go.callFunc f a) (Go.callFunc f a'):=by
 obtain ⟨fn,h1,h2,h3⟩:=hS f hf
 unfold Go.callFunc
 refine ah.bind ah.program fun R1 hR p q hpq=>?_
 rw [hpq.1,hpq.2,h1]
 dsimp only
 rw [h3]
 have h4:fn.body.isNone=false:=by cases hb:fn.body <;> simp_all
 simp only [h4,Bool.false_eq_true,if_false]
 exact ah.pure (.enter hf (h.mono fun _ _=>VR.mono hR))
theorem ah.makeFunc [bT] {f:FuncId} (hf:bT.ok f=true) {a a' c c':Array Value} (ha:AF (VR R) a a') (hc:AF (VR R) c c'):ah P D VR R (Instr.makeFunc (.func f) a c) (Instr.makeFunc (.func f) a' c') :=
 ah.pure (.base (.Ol hf ha hc))
def UE (v:Value):Sem Next :=
 match v with
 | .pointer none | .nilIface | .nilFunc=>runtimePanic .nilDeref
 | .func (.method name) first captured =>
  match (first[0]? : Option Value) with
  | some .nilIface=>runtimePanic .nilDeref
  | some (.iface t w)=>do
   if (← nilAhead ((← Go.program).types.size+Made.depth) t w name) != some false then
    unsupported (.noEntry "op/nilCheck.the method's receiver behind this interface value is a nil pointer, or cannot be seen to be none, and the arguments act or may panic (ledger 612)")
   Pure.pure (.value (.func (.method name) first captured))
  | _=>Pure.pure (.value (.func (.method name) first captured))
 | x=>Pure.pure (.value x)
theorem ah.nilCheck [bT] {v v':Value} (h:VR R v v'):ah P D NR R (UE v) (UE v'):=by
 have pan:∀ {s':Sem Next},ah P D NR R (runtimePanic .nilDeref:Sem Next) s':=by
  intro s'
  refine ah.KZ fun w a w' hr=>?_
  unfold runtimePanic at hr
  simp [Sem.run_bind,goPanic,Sem.run] at hr
 cases h with
 | agg h h'=>exact ah.pure (.value (.agg h h'))
 | base h =>
  cases h with
  | func h0 h1 h2 h3 h4=>exact ah.pure (.value (.base (.func h0 h1 h2 h3 h4)))
  | base h =>
   cases h with
   | ptr h=>exact ah.pure (.value (.base (.base (.ptr h))))
   | slice h=>exact ah.pure (.value (.base (.base (.slice h))))
   | chan h=>exact ah.pure (.value (.base (.base (.chan h))))
   | flat hf =>
    cases v <;> first | exact pan | exact ah.pure (.value (.of_flat hf)) | (cases hf;done) | skip
    all_goals (rename_i p;cases p <;> first | exact pan | (cases hf;done))
theorem XV [bT] (hS:XD P) {ρ ρ':Operand→Value} (he:X8 R ρ ρ') {c:Call} {t:TypeId} {f:Operand} (hc:c.callee=.value f) (hf:kR f=true) (ha:c.args.all kR=true):ah P D NR R (do let d ← resolve ρ c t;invoke d.target d.args) (do let d ← resolve ρ' c t;invoke d.target d.args):=by
 have haf:=AF.Ik he ha
 have hv:=he f hf
 unfold resolve
 rw [hc]
 dsimp only
 generalize hρ:ρ f=v at hv
 generalize hρ':ρ' f=v' at hv
 have pan:∀ {s':Sem Next},ah P D NR R (runtimePanic .nilDeref:Sem Next) s':=by
  intro s'
  refine ah.KZ fun w a w' hr=>?_
  unfold runtimePanic at hr
  simp [Sem.run_bind,goPanic,Sem.run] at hr
 cases hv with
 | agg _ _=>exact ah.halt
 | base h =>
  cases h with
  | @func g a a' cc cc' h0 h1 h2 h3 h4 =>
   have r1:AF (VR R) a a':=AF.Pz h1 h2
   have r2:AF (VR R) cc cc':=AF.Pz h3 h4
   exact ah.callFunc hS h0 ((r1.append haf).append r2)
  | base h =>
   cases h with
   | ptr _=>exact ah.halt
   | slice _=>exact ah.halt
   | chan _=>exact ah.halt
   | flat hf =>
    cases v <;> first | exact ah.halt | exact pan | (cases hf;done)
theorem ah.execOp [bT] (hS:XD P) {ρ ρ':Operand→Value} (he:X8 R ρ ρ') {o:Oper} (ho:okW P o.op=true) :
  ah P D NR R (Go.execOp ρ o) (Go.execOp ρ' o):=by
 unfold Go.execOp
 cases hop:o.op <;> rw [hop] at ho <;> dsimp only [okW] at ho <;> first | (cases ho;done) | skip
 case move x=>exact ah.pure (.value (he x ho))
 case assign x=>exact ah.pure (.value (he x ho))
 case pick c a b =>
  simp only [Bool.and_eq_true] at ho
  refine ah.bind (VR.asBool (he c ho.1.1)) fun R1 h1 u v huv=>?_
  subst huv
  cases u with
  | true=>exact ah.pure (.value ((he a ho.1.2).mono h1))
  | false=>exact ah.pure (.value ((he b ho.2).mono h1))
 case alloc t=>exact ah.value (ah.alloc ho)
 case box t x=>exact ah.value (ah.box (he x ho))
 case build t ps =>
  rw [Bool.and_eq_true,Array.all_eq_true] at ho
  exact ah.value (ah.build ho.1 fun p hp=>by
   obtain ⟨i,hi,rfl⟩:=Array.mem_iff_getElem.1 hp
   exact he _ (ho.2 i hi))
 case load t a=>exact ah.value (ah.loadAt (he a ho))
 case store t a x =>
  simp only [Bool.and_eq_true] at ho
  exact ah.skip (ah.storeAt (he a ho.1) (he x ho.2))
 case nilCheck x=>exact ah.nilCheck (he x ho)
 case binOp op t x y pos =>
  simp only [Bool.and_eq_true] at ho
  refine ah.value (ah.bind (ah.eqGuard (KQ ho.1.1.2) (he x ho.1.2) (he y ho.2)) fun R1 h1 _ _ _=>?_)
  exact ah.binOp (KQ ho.1.1.2) ho.1.1.1 ((he x ho.1.2).mono h1) ((he y ho.2).mono h1)
 case unOp op t x=>exact ah.value (ah.unary (he x ho))
 case makeFunc fn a c =>
  cases fn <;> first | (cases ho;done) | skip
  case func f =>
   simp only [Bool.and_eq_true] at ho
   exact ah.value (ah.makeFunc ho.1 (AF.Ik he ho.2.1) (AF.Ik he ho.2.2))
 case fieldAddr s x f=>exact ah.value (ah.fieldAt (he x ho))
 case indexAddr t x i =>
  simp only [Bool.and_eq_true] at ho
  exact ah.value (ah.indexAt (he x ho.1) (he i ho.2))
 case call c =>
  unfold CY at ho
  simp only [Bool.and_eq_true] at ho
  obtain ⟨ha,hc⟩:=ho
  have haf:=AF.Ik he ha
  cases hcc:c.callee with
  | invoke x n=>rw [hcc] at hc;cases hc
  | value f =>
   rw [hcc] at hc
   exact XV hS he hcc hc ha
  | builtin b =>
   rw [hcc] at hc
   show ah P D NR R (do let d ← resolve ρ c o.type;invoke d.target d.args) (do let d ← resolve ρ' c o.type;invoke d.target d.args)
   unfold resolve
   rw [hcc]
   cases b <;> first | (cases hc;done) | skip
   case len =>
    refine ah.value (ah.len (fun ty hty=>?_) haf)
    rw [hty] at hc
    have hc':Fg P ty=true:=hc
    unfold Fg at hc'
    split at hc'
    ·exact ⟨_,by assumption⟩
    ·cases hc'
   case max=>exact ah.value (ah.max haf)
   case min=>exact ah.value (ah.min haf)
theorem mapM_alike [bT] {α:Type} (f f':α→Sem Value) (h:∀ {R':BR},le R R'→∀ x,ah P D VR R' (f x) (f' x)) (l:Array α):ah P D (fun R' a b=>AF (VR R') a b∧a.size=l.size) R (l.mapM f) (l.mapM f'):=by
 rw [Array.mapM_eq_foldlM,Array.mapM_eq_foldlM,← Array.foldlM_toList,← Array.foldlM_toList]
 have key:∀ (l:List α) (R':BR) (acc acc':Array Value),le R R'→AF (VR R') acc acc'→ah P D (fun R' a b=>AF (VR R') a b∧a.size=acc.size+l.length) R' (l.foldlM (fun bs a=>bs.push <$> f a) acc) (l.foldlM (fun bs a=>bs.push <$> f' a) acc'):=by
  intro l
  induction l with
  | nil=>intro R' acc acc' _ ha;rw [List.foldlM_nil,List.foldlM_nil];exact ah.pure ⟨ha,rfl⟩
  | cons x l ih =>
   intro R' acc acc' hR ha
   rw [List.foldlM_cons,List.foldlM_cons]
   refine ah.bind (Φ:=fun R' a b=>AF (VR R') a b∧a.size=acc.size+1) ?_ fun R1 h1 b b' hb=>(ih R1 b b' (le_trans hR h1) hb.1).mono fun R2 u v huv=>⟨huv.1,by rw [huv.2,hb.2,List.length_cons];omega⟩
   show ah P D (fun R' a b=>AF (VR R') a b∧a.size=acc.size+1) R' (f x >>= fun a=>Pure.pure (acc.push a)) (f' x >>= fun a=>Pure.pure (acc'.push a))
   exact ah.bind (h hR x) fun R1 h1 v v' hv=>ah.pure ⟨(ha.mono fun _ _=>VR.mono h1).push hv,by simp⟩
 exact (key _ R #[] #[] (le_refl R) AF.empty).mono fun R2 u v huv=>⟨huv.1,by rw [huv.2];simp⟩
theorem ah.results [bT] {fn:Func} (hsz:fn.results.size≤1) {tmps tmps':Array Value} (h:AF (VR R) tmps tmps'):ah P D VR R (Go.results fn tmps) (Go.results fn tmps'):=by
 have hu:∀ {R':BR},VR R' undef undef:=.of_flat rfl
 unfold Go.results
 refine ah.bind (Φ:=fun R' a b=>AF (VR R') a b∧a.size≤1) ?_ fun R1 h1 vs vs' hv=>?_
 ·intro wl wa es hw x wl' hr
  have hm:=mapM_alike (P:=P) (D:=D) (R:=R) (fun | ResultVar.tmp t=>Pure.pure (tmps.getD t undef) | ResultVar.cell a t=>do Go.loadVar t (← asAddr (tmps.getD a undef))) (fun | ResultVar.tmp t=>Pure.pure (tmps'.getD t undef) | ResultVar.cell a t=>do Go.loadVar t (← asAddr (tmps'.getD a undef))) (by
   intro R' hR r
   cases r with
   | tmp t=>exact ah.pure ((h.get hu t).mono hR)
   | cell a t =>
    dsimp only
    have hv:=(h.get hu a).mono hR
    generalize tmps.getD a undef=v at hv
    generalize tmps'.getD a undef=v' at hv
    refine ah.bind (Φ:=fun R'=>AR R') ?_ fun R1 _ a a' ha=>ah.loadVar ha
    unfold asAddr
    have pan:∀ {s':Sem Addr},ah P D (fun R'=>AR R') R' (runtimePanic .nilDeref:Sem Addr) s':=by
     intro s'
     refine ah.KZ fun w a w' hr=>?_
     unfold runtimePanic at hr
     simp [Sem.run_bind,goPanic,Sem.run] at hr
    cases hv with
    | agg _ _=>exact ah.halt
    | base h =>
     cases h with
     | func _ _ _ _=>exact ah.halt
     | base h =>
      cases h with
      | ptr h=>exact ah.pure h
      | slice _=>exact ah.halt
      | chan _=>exact ah.halt
      | flat hf=>cases v <;> first | exact ah.halt | exact pan | (rename_i p;cases p <;> first | exact pan | (cases hf;done))) fn.results wl wa es hw x wl' hr
  obtain ⟨a',wa',es',R',k1,k2,k3,k4,k5,k6,k7⟩:=hm
  exact ⟨a',wa',es',R',k1,k2,k3,k4,k5,k6,k7.1,by rw [k7.2];exact hsz⟩
 ·obtain ⟨hv,hs⟩:=hv
  refine ah.pure ?_
  by_cases h1:vs.size=1
  ·have h2:vs'.size=1:=by rw [hv.1];exact h1
   simp only [h1,h2,dif_pos]
   exact hv.raw 0 _ _ (Array.getElem?_eq_getElem (by omega)) (Array.getElem?_eq_getElem (by omega))
  ·have h2:vs'.size≠1:=by rw [hv.1];exact h1
   simp only [h1,h2,dif_neg,not_false_eq_true]
   have e1:vs=#[]:=Array.eq_empty_of_size_eq_zero (by omega)
   have e2:vs'=#[]:=Array.eq_empty_of_size_eq_zero (by rw [hv.1];omega)
   rw [e1,e2]
   exact .of_flat rfl
end
open Go.Conc (G)
def isSend:Op→Bool
 | .send .. | .recv .. | .go _=>true
 | _=>false
section
variable {P:Program}
theorem P5 {s:Sem Next} {fr:Frame} {cs:List Frame} {w:World} (hk:(fr.kind == CallKind.early)=false) (hh:ay OC w)
  (h:(∃ c sh,s.run P w=.ok (.comm #[c] true sh) w)∨(∃ d,s.run P w=.ok (.spawn d) w)∨(∃ m w',s.run P w=.halt (.stuck m) w')∨∃ u w',(∀ g,u≠.initOrder g)∧s.run P w=.halt (.unsupported u) w'):CP (stepG.apply P true fr cs none s w):=by
 unfold stepG.apply
 rcases h with ⟨c,sh,h⟩ | ⟨d,h⟩ | ⟨m,w',h⟩ | ⟨u,w',hu,h⟩
 ·simp only [if_true,Sem.runT_eq,h,hk,Bool.false_eq_true,if_false]
  exact bW ⟨⟨rfl,_,rfl⟩,hh⟩
 ·simp only [if_true,Sem.runT_eq,h,hk,Bool.false_eq_true,if_false]
  refine bW (Qr ?_ ?_)
  ·exact ⟨rfl,_,rfl,rfl,rfl⟩
  ·trivial
 ·simp only [if_true,Sem.runT_eq,h,hk,Bool.false_eq_true,if_false]
  exact bW trivial
 ·simp only [if_true,Sem.runT_eq,h,hk,Bool.false_eq_true,if_false]
  cases u with
  | initOrder g=>exact (hu g rfl).elim
  | _=>exact bW trivial
theorem JK (ρ:Operand→Value) {o:Oper} {t:TypeId} {ch:Operand} {f:Bool} (ho:o.op=.recv t ch f) (w:World) :
  (∃ c sh,(execOp ρ o).run P w=.ok (.comm #[c] true sh) w)∨(∃ d,(execOp ρ o).run P w=.ok (.spawn d) w)∨(∃ m w',(execOp ρ o).run P w=.halt (.stuck m) w')∨∃ u w',(∀ g,u≠.initOrder g)∧(execOp ρ o).run P w=.halt (.unsupported u) w':=by
 unfold execOp
 simp only [ho]
 cases hu:P.underlying t with
 | none=>exact .inr (.inr (.inl ⟨ "no such type", w,by simp [Go.underlying,hu]⟩))
 | some d =>
  cases d with
  | chan dir e =>
   cases hi:P.info? e with
   | none=>exact .inr (.inr (.inl ⟨ "no such type", w,by simp [Go.underlying,hu,Go.zeroValue,Go.typeInfo,hi]⟩))
   | some i =>
    cases hz:i.zero with
    | none=>exact .inr (.inr (.inr ⟨.resourceLimit "a value of more than 2^22 cells", w,(fun g h=>nomatch h),by simp [Go.underlying,hu,Go.zeroValue,Go.typeInfo,hi,hz]⟩))
    | some z=>exact .inl ⟨{ chan:=ρ ch,send:=none,zero:=z },.recv f,by simp [Go.underlying,hu,Go.zeroValue,Go.typeInfo,hi,hz]⟩
  | _=>exact .inr (.inr (.inl ⟨ "receive: channel type expected", w,by simp [Go.underlying,hu]⟩))
theorem NG (ρ:Operand→Value) {o:Oper} {c:Call} (ho:o.op=.go c) (w:World) :
  (∃ c sh,(execOp ρ o).run P w=.ok (.comm #[c] true sh) w)∨(∃ d,(execOp ρ o).run P w=.ok (.spawn d) w)∨(∃ m w',(execOp ρ o).run P w=.halt (.stuck m) w')∨∃ u w',(∀ g,u≠.initOrder g)∧(execOp ρ o).run P w=.halt (.unsupported u) w':=by
 unfold execOp
 simp only [ho,resolve]
 cases c.callee with
 | builtin b=>exact .inr (.inl ⟨_,rfl⟩)
 | invoke recv name=>exact .inr (.inl ⟨_,rfl⟩)
 | value f =>
  simp only
  cases ρ f <;> first | exact .inr (.inl ⟨_,rfl⟩) | exact .inr (.inr (.inl ⟨_,_,rfl⟩))
end
def NM [bT] (P:Program) (o:Op):Bool:=okW P o || isSend o
def Ce [bT] (P:Program):Code→Bool
 | .region _ ops _=>ops.all fun o=>NM P o.op
 | .seq a b=>Ce P a && Ce P b
 | .cond c a b=>kR c && (Ce P a && Ce P b)
 | .block _ c | .loop c=>Ce P c
 | .skip | .label _ | .ret | .exit _=>true
 | _=>false
def jB [bT] (P:Program):Item→Prop
 | .code c | .inLoop c=>Ce P c=true
 | .inRegion ops _=>(ops.all fun o=>NM P o.op)=true
 | .inBlock _=>True
 | _=>False
structure FQ [bT] (P:Program) (R:BR) (fr fr':Frame):Prop where
 fn:fr'.fn=fr.fn
 tmps:AF (VR R) fr.tmps fr'.tmps
 todo:fr'.todo=fr.todo
 items:∀ x∈fr.todo,jB P x
 defers:fr.defers=[]
 defers':fr'.defers=[]
 mode:fr'.mode=fr.mode
 runs:fr.mode=.run∨fr.mode=.returning
 kind:fr'.kind=.normal∨fr'.kind=.deferred
 kinds:fr.kind=.normal∨fr.kind=.deferred
 round:fr.roundOf=none
 round':fr'.roundOf=none
 res:∀ fn,P.funcs[fr.fn]? = some fn→fn.results.size≤1
def ou [bT] (P:Program) (K:CallKind) (R:BR):Frame→List Frame→Frame→List Frame→Prop
 | fr,[],fr',[]=>FQ P R fr fr'∧fr'.kind=K
 | fr,c :: cs,fr',c' :: cs'=>FQ P R fr fr'∧(fr.kind=.normal∧fr'.kind=.normal)∧ou P K R c cs c' cs'
 | _,_,_,_=>False
def NoWay [bT] (P:Program) (csl:List Frame) (g:GStep):Prop :=
 CP g∨∃ fr cs w es,g=.go (G fr (cs ++ csl)) w es∧(∃ ch,fr.mode=.panicking ch)∧∀ c∈fr :: cs,c.defers=[]∧∀ x∈c.todo,jB P x
section
variable {P:Program} {K:CallKind} {D:Nat→Prop} {R:BR} {csl:List Frame}
theorem FQ.mono [bT] {R':BR} (h:le R R') {fr fr':Frame} (x:FQ P R fr fr'):FQ P R' fr fr' :=
 ⟨x.fn,x.tmps.mono fun _ _=>VR.mono h,x.todo,x.items,x.defers,x.defers',x.mode,x.runs,x.kind,x.kinds,x.round,x.round',x.res⟩
theorem ou.mono [bT] {R':BR} (h:le R R'):∀ {fr fr':Frame} {mine mine':List Frame},ou P K R fr mine fr' mine'→ou P K R' fr mine fr' mine'
 | _,_,[],[],x=>⟨FQ.mono h x.1,x.2⟩
 | _,_,_ :: _,_ :: _,x=>⟨x.1.mono h,x.2.1,ou.mono h x.2.2⟩
theorem ou.top [bT] {fr fr':Frame} {mine mine':List Frame} (h:ou P K R fr mine fr' mine'):FQ P R fr fr':=by
 cases mine <;> cases mine' <;> first | exact h.1 | exact h.elim
theorem ou.set [bT] {fr fr' g g':Frame} {mine mine':List Frame} (h:ou P K R fr mine fr' mine') (x:FQ P R g g') (hk:g.kind=fr.kind∧g'.kind=fr'.kind):ou P K R g mine g' mine':=by
 cases mine <;> cases mine' <;> first | exact ⟨x,hk.2.trans h.2⟩ | exact ⟨x,⟨hk.1.trans h.2.1.1,hk.2.trans h.2.1.2⟩,h.2.2⟩ | exact h.elim
theorem FQ.eval [bT] {fr fr':Frame} (h:FQ P R fr fr'):X8 R fr.eval fr'.eval:=by
 intro x hx
 cases x with
 | tmp t=>exact h.tmps.get (.of_flat rfl) t
 | const v=>exact .of_flat hx
 | global g=>cases hx
 | func f=>exact .base (.Ol hx AF.empty AF.empty)
theorem tN [bT] {fr fr':Frame} (h:FQ P R fr fr') {v v':Value} (hv:VR R v v'):FQ P R (fr.finish v) (fr'.finish v')∧((fr.finish v).kind=fr.kind∧(fr'.finish v').kind=fr'.kind):=by
 unfold Frame.finish
 rw [h.todo]
 split
 ·rename_i ops i rest k hk
  have hit:∀ x∈Item.inRegion ops rest :: k,jB P x:=by
   intro x hx
   have:=h.items
   rw [hk] at this
   rcases List.mem_cons.1 hx with rfl | hx
   ·exact this (.inRegion ops (i :: rest)) (by simp)
   ·exact this x (by simp [hx])
  refine ⟨⟨h.fn,?_,rfl,hit,h.defers,h.defers',h.mode,h.runs,h.kind,h.kinds,h.round,h.round',h.res⟩,⟨rfl,rfl⟩⟩
  cases (ops[i]?).bind (·.dst) with
  | none=>exact h.tmps
  | some d=>exact h.tmps.set hv
 ·rename_i l k hk
  have:=h.items
  rw [hk] at this
  exact (this (.inRangeFunc l) (by simp)).elim
 ·rename_i k hk
  have:=h.items
  rw [hk] at this
  exact (this .beginRound (by simp)).elim
 ·rename_i d wr rs sv k hk
  have:=h.items
  rw [hk] at this
  exact (this (.call d wr rs sv) (by simp)).elim
 ·rename_i row args k hk
  have:=h.items
  rw [hk] at this
  exact (this (.extern row args) (by simp)).elim
 ·exact ⟨h,⟨rfl,rfl⟩⟩
def F7 [bT] (P:Program):Prop:=∀ f,bT.ok f=true→∃ fn c,P.funcs[f]? = some fn∧fn.body=some c∧Ce P c=true∧fn.results.size≤1∧(fn.name == "runtime.NumGoroutine")=false
theorem F7.w [bT] (h:F7 P):XD P:=fun f hf=>by
 obtain ⟨fn,c,h1,h2,_,_,h5⟩:=h f hf
 exact ⟨fn,h1,by rw [h2];rfl,h5⟩
theorem Tq [bT] (hS:F7 P) {f:FuncId} (hf:bT.ok f=true) {a a':Array Value} (h:AF (VR R) a a'):FQ P R (Frame.enter P f a .normal) (Frame.enter P f a' .normal):=by
 obtain ⟨fn,c,h1,h2,h3,h4,_⟩:=hS f hf
 refine ⟨rfl,?_,rfl,?_,rfl,rfl,rfl,.inl rfl,.inl rfl,.inl rfl,rfl,rfl,fun fn' hfn=>?_⟩
 ·simp only [Frame.enter]
  rw [h.1]
  exact h.append (AF.replicate (.of_flat rfl))
 ·intro x hx
  simp only [Frame.enter,h1,h2,Option.bind_some,Option.getD_some,List.mem_singleton] at hx
  subst hx
  exact h3
 ·simp only [Frame.enter] at hfn
  rw [h1] at hfn
  cases hfn
  exact h4
def o8 [bT] (P:Program) (K:CallKind) (csl:List Frame) (D:Nat→Prop) (R:BR) (wl wa:World) (fl:GStep) (fa:Bool→List Frame→GStep):Prop :=
 (∃ fr1 mine1 wl1 es fr1' mine1' wa1 es' R1,fl=.go (G fr1 (mine1 ++ csl)) wl1 es∧(∀ main cs,fa main cs=.go (G fr1' (mine1' ++ cs)) wa1 es') ∧
  ou P K R1 fr1 mine1 fr1' mine1'∧WR P.globals.size R1 D wl1 wa1∧Grow R R1 D wl wa∧FX R D wa wa1∧(∀ e∈es',mZ R1 D e)∧wl.heap.size≤wl1.heap.size)∨NoWay P csl fl
theorem lI [bT] {wl wa:World} {fl:GStep} {fa:Bool→List Frame→GStep} {fr1 fr1':Frame} {mine1 mine1':List Frame} (hw:WR P.globals.size R D wl wa) (h:ou P K R fr1 mine1 fr1' mine1')
  (hl:fl=.go (G fr1 (mine1 ++ csl)) wl #[]) (ha:∀ main cs,fa main cs=.go (G fr1' (mine1' ++ cs)) wa #[]):o8 P K csl D R wl wa fl fa :=
 .inl ⟨fr1,mine1,wl,#[],fr1',mine1',wa,#[],R,hl,ha,h,hw,⟨le_refl R,fun _ _ h=>.inl h⟩,.refl R D wa,by simp,Nat.le_refl _⟩
theorem ou.all [bT]:∀ {fr fr':Frame} {mine mine':List Frame},ou P K R fr mine fr' mine'→∀ c∈fr :: mine,c.defers=[]∧∀ x∈c.todo,jB P x
 | _,_,[],[],h,c,hc=>by
  simp only [List.mem_singleton] at hc
  subst hc
  exact ⟨h.1.defers,h.1.items⟩
 | _,_,c1 :: l1,c2 :: l2,h,c,hc=>by
  rcases List.mem_cons.1 hc with rfl | hc
  ·exact ⟨h.1.defers,h.1.items⟩
  ·exact ou.all h.2.2 c hc
theorem Rf [bT] (hS:F7 P) {wl wa:World} {fr fr':Frame} {mine mine':List Frame} {s s':Sem Next} (h:ou P K R fr mine fr' mine') (hw:WR P.globals.size R D wl wa) (hs:ah P D NR R s s')
  (hok:∀ hh w',s.run P wl=.halt hh w'→uY hh) :
  o8 P K csl D R wl wa (stepG.apply P true fr (mine ++ csl) none s wl) (fun _ cs=>stepG.apply P true fr' (mine' ++ cs) none s' wa):=by
 have ht:=h.top
 have hearly:(fr.kind == CallKind.early)=false:=by rcases ht.kinds with h | h <;> rw [h] <;> rfl
 have hearly':(fr'.kind == CallKind.early)=false:=by rcases ht.kind with h | h <;> rw [h] <;> rfl
 cases hr:s.run P wl with
 | ok x w' =>
  obtain ⟨x',wa1,es',R1,k1,k2,k3,k4,k5,k6,k7⟩:=hs wl wa #[] hw x w' hr
  have hev:∀ e∈seen P fr'.fn es',mZ R1 D e:=fun e he=>(k2 e (mem_seen he)).elim (fun h=>by simp at h) id
  have h1:=h.mono k4.le
  cases k7 with
  | @value v v' hv =>
   have hf:=tN h1.top hv
   refine .inl ⟨fr.finish v,mine,w',seen P fr.fn (s.events P wl #[]),fr'.finish v',mine',wa1,seen P fr'.fn es',R1,?_,fun main cs=>?_,h1.set hf.1 hf.2,k3,k4,k5,hev,k6⟩
   ·unfold stepG.apply
    simp only [if_true,Sem.runT_eq,hr,hearly,Bool.false_eq_true,if_false,GStep.after,Array.append_empty,G]
   ·unfold stepG.apply
    simp only [if_true,k1,hearly',Bool.false_eq_true,if_false,GStep.after,Array.append_empty,G]
  | skip =>
   have hf:=tN h1.top (.of_flat rfl:VR R1 undef undef)
   refine .inl ⟨fr.finish undef,mine,w',seen P fr.fn (s.events P wl #[]),fr'.finish undef,mine',wa1,seen P fr'.fn es',R1,?_,fun main cs=>?_,h1.set hf.1 hf.2,k3,k4,k5,hev,k6⟩
   ·unfold stepG.apply
    simp only [if_true,Sem.runT_eq,hr,hearly,Bool.false_eq_true,if_false,GStep.after,Array.append_empty,G]
   ·unfold stepG.apply
    simp only [if_true,k1,hearly',Bool.false_eq_true,if_false,GStep.after,Array.append_empty,G]
  | @enter f a a' hf ha =>
   have hk:∀ {g:Frame},(∀ x∈g.todo,jB P x)→∀ d r sv k,g.todo=.call d true r sv :: k→False:=fun hi d r sv k hg=>by
    rw [hg] at hi
    exact hi (.call d true r sv) (by simp)
   refine .inl ⟨Frame.enter P f a .normal,fr :: mine,w',seen P fr.fn (s.events P wl #[]),Frame.enter P f a' .normal,fr' :: mine',wa1,seen P fr'.fn es',R1,?_,fun main cs=>?_,⟨Tq hS hf ha,⟨rfl,rfl⟩,h1⟩,k3,k4,k5,hev,k6⟩
   ·unfold stepG.apply
    simp only [if_true,Sem.runT_eq,hr,hearly,Bool.false_eq_true,if_false,GStep.after,Array.append_empty,G]
    split
    ·rename_i hg;exact (hk ht.items _ _ _ _ hg).elim
    ·rfl
   ·unfold stepG.apply
    simp only [if_true,k1,hearly',Bool.false_eq_true,if_false,GStep.after,Array.append_empty,G,List.cons_append]
    split
    ·rename_i hg;exact (hk ht.items _ _ _ _ (ht.todo ▸ hg)).elim
    ·rfl
 | halt hh w' =>
  have hall:=h.all
  have hgo:∀ l,stepG.apply P true fr (mine ++ csl) none s wl=.go (G (fr.raise l) (mine ++ csl)) w' (seen P fr.fn (s.events P wl #[]))→NoWay P csl (stepG.apply P true fr (mine ++ csl) none s wl):=by
   intro l hl
   refine .inr ⟨fr.raise l,mine,w',_,hl,?_,fun c hc=>?_⟩
   ·rcases ht.runs with hm | hm <;> exact ⟨l,by simp [Frame.raise,hm]⟩
   ·rcases List.mem_cons.1 hc with rfl | hc
    ·have:=hall fr (by simp)
     unfold Frame.raise
     split <;> exact this
    ·exact hall c (by simp [hc])
  refine .inr ?_
  have hx:=hok _ _ hr
  cases hh <;> first | exact hx.elim | skip
  case panic v =>
   refine hgo [{ v,recovered:=false }] ?_
   unfold stepG.apply
   simp only [if_true,Sem.runT_eq,hr,hearly,Bool.false_eq_true,if_false,GStep.after,Array.append_empty,G]
  case goexit =>
   refine hgo [goexitEntry] ?_
   unfold stepG.apply
   simp only [if_true,Sem.runT_eq,hr,hearly,Bool.false_eq_true,if_false,GStep.after,Array.append_empty,G]
  all_goals
   refine .inl ?_
   unfold stepG.apply
   simp only [if_true,Sem.runT_eq,hr,hearly,Bool.false_eq_true,if_false]
  case exit c=>exact bW trivial
  case fatal m=>exact bW (sU _ _ _ _ _)
  case throw m=>exact bW ⟨rfl,_,rfl,rfl,rfl⟩
  case unsupported u=>cases u <;> first | exact hx.elim | exact bW trivial
  case stuck m=>exact bW trivial
theorem U1 [bT] {o:Op} {r:Bool} (h:okW P o=true):qj r o=true:=by
 cases o <;> first | rfl | (cases h;done) | skip
 case call c =>
  have h':CY P c=true:=h
  unfold CY at h'
  show lH r c=true
  unfold lH
  cases hc:c.callee with
  | builtin b =>
   rw [hc] at h'
   cases b <;> first | (simp at h';done) | simp [oL,isRecover]
  | _=>rfl
theorem Ro [bT] {fr:Frame} {x:Item} {k:List Item} (h:∀ y∈fr.todo,jB P y) (hk:fr.todo=x :: k):jB P x∧∀ y∈k,jB P y:=by
 rw [hk] at h
 exact ⟨h x (by simp),fun y hy=>h y (by simp [hy])⟩
theorem iY [bT] {fr fr':Frame} (h:FQ P R fr fr') {todo:List Item} (ht:∀ x∈todo,jB P x):FQ P R { fr with todo } { fr' with todo } :=
 ⟨h.fn,h.tmps,rfl,ht,h.defers,h.defers',h.mode,h.runs,h.kind,h.kinds,h.round,h.round',h.res⟩
theorem Qv [bT] {fr fr':Frame} (h:FQ P R fr fr'):FQ P R { fr with mode:=.returning } { fr' with mode:=.returning } :=
 ⟨h.fn,h.tmps,h.todo,h.items,h.defers,h.defers',rfl,.inr rfl,h.kind,h.kinds,h.round,h.round',h.res⟩
theorem O6 [bT] {id:Nat}:∀ {k k':List Item},exitTo id k=some k'→(∀ y∈k,jB P y)→∀ y∈k',jB P y:=by
 intro k
 induction k with
 | nil=>intro k' h;simp [exitTo] at h
 | cons x k ih =>
  intro k' h hk
  have hk':∀ y∈k,jB P y:=fun y hy=>hk y (by simp [hy])
  cases x <;> simp only [exitTo] at h <;> first
   | exact ih h hk'
   | (split at h
      ·cases h;exact hk'
      ·exact ih h hk')
theorem VR.Fp [bT] {v v':Value} (h:VR R v v') (b:Bool):v=.bool b↔v'=.bool b:=by
 cases h with
 | agg _ _=>simp
 | base h =>
  cases h with
  | func _ _ _ _=>simp
  | base h =>
   cases h with
   | flat _=>rfl
   | ptr _=>simp
   | slice _=>simp
   | chan _=>simp
theorem OY [bT] {ops:Array Oper} {t t':Array Value} (h:AF (VR R) t t'):yielded ops t'=yielded ops t:=by
 funext j
 unfold yielded
 cases (ops[j]?).bind (·.dst) with
 | none=>rfl
 | some d =>
  rcases h.get? d with ⟨e1,e2⟩ | ⟨v,v',e1,e2,hv⟩
  ·simp only [Option.bind_some,e1,e2]
  ·simp only [Option.bind_some,e1,e2]
   cases v with
   | bool b=>rw [(hv.Fp b).1 rfl]
   | _ =>
    cases v' with
    | bool b=>cases (hv.Fp b).2 rfl
    | _=>rfl
theorem U9 [bT] (hS:F7 P) (hT:ED P fun _=>True) {wl wa:World} {fr fr':Frame} {mine mine':List Frame} (h:ou P K R fr mine fr' mine') (hw:WR P.globals.size R D wl wa) (hh:ay OC wl) (hm:fr.mode=.run) :
  o8 P K csl D R wl wa (stepG P true (G fr (mine ++ csl)) wl) (fun main cs=>stepG P main (G fr' (mine' ++ cs)) wa):=by
 have ht:=h.top
 have hm':fr'.mode=.run:=ht.mode.trans hm
 have e1:stepG P true (G fr (mine ++ csl)) wl=stepG.exec P true true fr (mine ++ csl) none wl:=by simp only [stepG,G,hm]
 have e2:∀ main cs,stepG P main (G fr' (mine' ++ cs)) wa=stepG.exec P main true fr' (mine' ++ cs) none wa:=fun main cs=>by simp only [stepG,G,hm']
 rw [e1]
 simp only [e2]
 cases htd:fr.todo with
 | nil =>
  have htd':fr'.todo=[]:=ht.todo.trans htd
  exact lI hw (h.set (Qv ht) ⟨rfl,rfl⟩) (by simp only [stepG.exec,htd,ht.round];rfl) (fun main cs=>by simp only [stepG.exec,htd',ht.round'];rfl)
 | cons x k =>
  have htd':fr'.todo=x :: k:=ht.todo.trans htd
  obtain ⟨hx,hkk⟩:=Ro ht.items htd
  cases x with
  | inBlock id=>exact lI hw (h.set (iY ht hkk) ⟨rfl,rfl⟩) (by simp only [stepG.exec,htd,G]) (fun main cs=>by simp only [stepG.exec,htd',G])
  | inLoop body =>
   have hi:∀ y∈Item.code body :: .inLoop body :: k,jB P y:=by
    intro y hy
    rcases List.mem_cons.1 hy with rfl | hy
    ·exact hx
    ·rcases List.mem_cons.1 hy with rfl | hy
     ·exact hx
     ·exact hkk y hy
   exact lI hw (h.set (iY ht hi) ⟨rfl,rfl⟩) (by simp only [stepG.exec,htd,G]) (fun main cs=>by simp only [stepG.exec,htd',G])
  | inRegion ops todo =>
   cases todo with
   | nil=>exact lI hw (h.set (iY ht hkk) ⟨rfl,rfl⟩) (by simp only [stepG.exec,htd,G]) (fun main cs=>by simp only [stepG.exec,htd',G])
   | cons i rest =>
    have hy:=OY (ops:=ops) ht.tmps
    by_cases hwt:(((ops[i]?).map (Region.wanted · (yielded ops fr.tmps))).getD false)=true
    ·have hwt':(((ops[i]?).map (Region.wanted · (yielded ops fr'.tmps))).getD false)=true:=by rw [hy];exact hwt
     cases hop:ops[i]? with
     | none=>rw [hop] at hwt;cases hwt
     | some o =>
      have hos:NM P o.op=true:=by
       have hx':(ops.all fun o=>NM P o.op)=true:=hx
       rw [Array.all_eq_true] at hx'
       obtain ⟨hi,rfl⟩:=Array.getElem?_eq_some_iff.1 hop
       exact hx' i hi
      have hfo:fr.oper? = some o:=by unfold Frame.oper?;rw [htd];exact hop
      by_cases hsd:isSend o.op=true
      ·refine .inr (.inl ?_)
       have l1:stepG.exec P true true fr (mine ++ csl) none wl=stepG.apply P true fr (mine ++ csl) none (execOp fr.eval o) wl:=by
        simp only [stepG.exec,htd,hwt,if_true,stepG.oper,hfo,ht.round]
       rw [l1]
       have hearly:(fr.kind == CallKind.early)=false:=by rcases ht.kinds with h | h <;> rw [h] <;> rfl
       refine P5 hearly hh ?_
       cases ho:o.op <;> rw [ho] at hsd <;> first | (cases hsd;done) | skip
       case send ch x =>
        exact .inl ⟨{ chan:=fr.eval ch,send:=some (fr.eval x),zero:=.tuple #[] },.send,by unfold execOp;simp [ho]⟩
       case recv t ch f=>exact JK fr.eval ho wl
       case go c=>exact NG fr.eval ho wl
      have hoo:okW P o.op=true:=by
       unfold NM at hos
       cases hw1:okW P o.op with
       | true=>rfl
       | false=>rw [hw1] at hos;exact (hsd (by simpa using hos)).elim
      have hfo':fr'.oper? = some o:=by unfold Frame.oper?;rw [htd'];exact hop
      have hfine:=(vC (ρ:=fr.eval) hT (fun _=>rfl) (U1 (r:=true) hoo) hh (fun _ _=>trivial) (es:=#[])).facts
      rw [Sem.runT_eq] at hfine
      have l1:stepG.exec P true true fr (mine ++ csl) none wl=stepG.apply P true fr (mine ++ csl) none (execOp fr.eval o) wl:=by
       simp only [stepG.exec,htd,hwt,if_true,stepG.oper,hfo,ht.round]
      have l2:∀ main cs,stepG.exec P main true fr' (mine' ++ cs) none wa=stepG.apply P true fr' (mine' ++ cs) none (execOp fr'.eval o) wa:=fun main cs=>by
       simp only [stepG.exec,htd',hwt',if_true,stepG.oper,hfo',ht.round']
      rw [l1]
      simp only [l2]
      refine Rf hS h hw (ah.execOp hS.w ht.eval hoo) (fun h' w' hr=>?_)
      have:=hfine.leaf
      rw [hr] at this
      exact this
    ·have hwt':¬ (((ops[i]?).map (Region.wanted · (yielded ops fr'.tmps))).getD false)=true:=by rw [hy];exact hwt
     have hf:=tN ht (.of_flat rfl:VR R undef undef)
     exact lI hw (h.set hf.1 hf.2) (by simp only [stepG.exec,htd,hwt,G];rfl) (fun main cs=>by simp only [stepG.exec,htd',hwt',G];rfl)
  | code c =>
   have hc:Ce P c=true:=hx
   have two:∀ {a b:Item},jB P a→jB P b→∀ y∈a :: b :: k,jB P y:=by
    intro a b ha hb y hy
    rcases List.mem_cons.1 hy with rfl | hy
    ·exact ha
    ·rcases List.mem_cons.1 hy with rfl | hy
     ·exact hb
     ·exact hkk y hy
   cases c with
   | ret=>exact lI hw (h.set (Qv ht) ⟨rfl,rfl⟩) (by simp only [stepG.exec,htd,ht.round];rfl) (fun main cs=>by simp only [stepG.exec,htd',ht.round'];rfl)
   | skip=>exact lI hw (h.set (iY ht hkk) ⟨rfl,rfl⟩) (by simp only [stepG.exec,htd,G]) (fun main cs=>by simp only [stepG.exec,htd',G])
   | label l=>exact lI hw (h.set (iY ht hkk) ⟨rfl,rfl⟩) (by simp only [stepG.exec,htd,G]) (fun main cs=>by simp only [stepG.exec,htd',G])
   | seq a b =>
    simp only [Ce,Bool.and_eq_true] at hc
    exact lI hw (h.set (iY ht (two (a:=.code a) (b:=.code b) hc.1 hc.2)) ⟨rfl,rfl⟩) (by simp only [stepG.exec,htd,G]) (fun main cs=>by simp only [stepG.exec,htd',G])
   | block id body=>exact lI hw (h.set (iY ht (two (a:=.code body) (b:=.inBlock id) hc trivial)) ⟨rfl,rfl⟩) (by simp only [stepG.exec,htd,G]) (fun main cs=>by simp only [stepG.exec,htd',G])
   | loop body=>exact lI hw (h.set (iY ht (two (a:=.code body) (b:=.inLoop body) hc hc)) ⟨rfl,rfl⟩) (by simp only [stepG.exec,htd,G]) (fun main cs=>by simp only [stepG.exec,htd',G])
   | scope body=>cases hc
   | goto l=>cases hc
   | refuse w=>cases hc
   | rangeFunc f ps a b=>cases hc
   | exit id =>
    cases he:exitTo id k with
    | some k'=>exact lI hw (h.set (iY ht (O6 he hkk)) ⟨rfl,rfl⟩) (by simp only [stepG.exec,htd,he,Option.elim_some,G]) (fun main cs=>by simp only [stepG.exec,htd',he,Option.elim_some,G])
    | none=>exact .inr (.inl (by simp only [stepG.exec,htd,he,Option.elim_none,ht.round];trivial))
   | cond e a b =>
    simp only [Ce,Bool.and_eq_true] at hc
    have hv:=ht.eval e hc.1
    by_cases hb:∃ t,fr.eval e=.bool t
    ·obtain ⟨t,htt⟩:=hb
     have htt':fr'.eval e=.bool t:=(hv.Fp t).1 htt
     have hi:∀ y∈Item.code (if t then a else b) :: k,jB P y:=by
      intro y hy
      rcases List.mem_cons.1 hy with rfl | hy
      ·show Ce P _=true
       cases t
       ·exact hc.2.2
       ·exact hc.2.1
      ·exact hkk y hy
     exact lI hw (h.set (iY ht hi) ⟨rfl,rfl⟩) (by simp only [stepG.exec,htd,htt,G]) (fun main cs=>by simp only [stepG.exec,htd',htt',G])
    ·refine .inr (.inl ?_)
     simp only [stepG.exec,htd]
     split
     ·rename_i b' h';exact (hb ⟨b',h'⟩).elim
     ·trivial
   | region id ops draw =>
    have hops:(ops.all fun o=>NM P o.op)=true:=hc
    have hi:∀ l,∀ y∈Item.inRegion ops l :: k,jB P y:=by
     intro l y hy
     rcases List.mem_cons.1 hy with rfl | hy
     ·exact hops
     ·exact hkk y hy
    cases draw with
    | false=>exact lI hw (h.set (iY ht (hi (List.range ops.size))) ⟨rfl,rfl⟩) (by simp only [stepG.exec,htd,G];rfl) (fun main cs=>by simp only [stepG.exec,htd',G];rfl)
    | true =>
     refine .inl ⟨{ fr with todo:=.inRegion ops (Region.schedule (P.follows .mixedOrders) ops (wl.tape wl.drawn (.order fr.fn id))) :: k },mine,{ wl with drawn:=wl.drawn+1 },#[],{ fr' with todo:=.inRegion ops (Region.schedule (P.follows .mixedOrders) ops (wl.tape wl.drawn (.order fr.fn id))) :: k },mine',{ wa with drawn:=wa.drawn+1 },#[],R,?_,fun main cs=>?_,h.set (iY ht (hi _)) ⟨rfl,rfl⟩,?_,⟨le_refl R,fun _ _ h=>.inl h⟩,⟨Nat.le_refl _,fun _ _ _=>rfl,rfl,rfl,rfl,fun _ h=>h⟩,by simp,Nat.le_refl _⟩
     ·simp only [stepG.exec,htd,G,choose,Sem.run,Question.forced,Question.cut,Bool.not_true,Bool.false_eq_true,if_false]
     ·simp only [stepG.exec,htd',G,choose,Sem.run,Question.forced,Question.cut,Bool.not_true,Bool.false_eq_true,if_false,hw.tape,hw.drawn,ht.fn]
     ·exact ⟨hw.obj,hw.fn,hw.inj,hw.old,hw.new,hw.tape,by show wa.drawn+1=wl.drawn+1;rw [hw.drawn],hw.dom,hw.gl,hw.ga⟩
  | _=>exact hx.elim
end
end Go.Sr
