/- A part of the proof: M2, M3, M4, M6, M7, M8. -/
import Derived.Test.YtjjmefieegcddaaDoorC08
import Derived.OrdersHeld
import Derived.Below
import Derived.Maps.AppendAt
set_option linter.unusedVariables false
set_option linter.unusedSimpArgs false
set_option maxHeartbeats 8000000
namespace Go.Mm
open Go
variable {P:Program}
def uK (P:Program) (ty:TypeId):Bool:=match P.underlying ty with | some (.struct _) | some (.array _ _)=>false | some _=>(P.info? ty).any (·.size == 1) | none=>false
def rowB (P:Program) (ty:TypeId) (n:Nat):Bool:=(match P.underlying ty with | some (.struct _) | some (.array _ _)=>true | _=>false) && (P.info? ty).any (·.size == n)
def QD (P:Program) (ty:TypeId):List Value:=match (P.info? ty).bind (·.zero) with | some v=>v.cells.toList | none=>[]
def QK (P:Program) (ty:TypeId):Bool:=((P.info? ty).bind (·.zero)).isSome
theorem qR {ty:TypeId} (h:uK P ty=true) (w:World):(isAgg ty).run P w=.ok false w:=by
 unfold uK at h
 cases hu:P.underlying ty with
 | none=>rw [hu] at h;cases h
 | some d =>
  unfold isAgg
  rw [Sem.run_bind,run_underlying hu w]
  rw [hu] at h
  cases d <;> simp_all
theorem sW {ty:TypeId} {n:Nat} (h:rowB P ty n=true):∃ d,P.underlying ty=some d∧d.isRow=true∧(P.info? ty).map (·.size)=some n:=by
 unfold rowB at h
 simp only [Bool.and_eq_true] at h
 obtain ⟨h1,h2⟩:=h
 cases hu:P.underlying ty with
 | none=>rw [hu] at h1;cases h1
 | some d =>
  rw [hu] at h1
  refine ⟨d,rfl,?_,?_⟩
  ·cases d <;> simp_all
  ·cases hq:P.info? ty with
   | none=>rw [hq] at h2;cases h2
   | some i=>rw [hq] at h2;simpa using h2
theorem aX {w:World} {b o:Nat} {cs:List Value} {t:TypeId} {fr:Nat × Nat} {v:Value} (hb:w.heap[b]? = some (.cells cs.toArray t fr)) (hv:cs[o]? = some v):w.cell? ⟨b,o,none⟩=some v:=by
 rw [cell_of_row w b o _ t fr hb];simpa using hv
theorem lK {w:World} {b o n:Nat} {cs vs:List Value} {t:TypeId} {fr:Nat × Nat} (hb:w.heap[b]? = some (.cells cs.toArray t fr)) (hv:(cs.drop o).take n=vs):w.rangeAt b o vs:=fun j v hj=>by
 refine aX hb ?_
 subst hv
 rw [List.getElem?_take] at hj
 split at hj
 ·rwa [List.getElem?_drop] at hj
 ·cases hj
theorem Wh {cs:List Value} {n:Nat} (h:cs.length=n):(cs.drop 0).take n=cs:=by subst h;simp
theorem fP {o:Oper} {ρ:Operand→Value} {w:World} {ty:TypeId} {x:Operand} (ho:o.op=.load ty x) {b i:Nat} (hx:ρ x=.pointer (some ⟨b,i,none⟩)) (hty:uK P ty=true)
  {v:Value} (hc:w.cell? ⟨b,i,none⟩=some v):(execOp ρ o).run P w=.ok (.value v) w:=by
 unfold execOp
 simp only [ho,hx,Instr.loadAt,Instr.sureAddr,Sem.run_bind,Sem.run_pure,Result.andThen_ok,loadVar,qR hty]
 simp [hc]
theorem iy {o:Oper} {ρ:Operand→Value} {w:World} {ty:TypeId} {x:Operand} (ho:o.op=.load ty x) {b i n:Nat} (hx:ρ x=.pointer (some ⟨b,i,none⟩)) (hty:rowB P ty n=true)
  {vs:List Value} (hn:vs.length=n) (hc:w.rangeAt b i vs):(execOp ρ o).run P w=.ok (.value (.agg vs.toArray)) w:=by
 obtain ⟨d,hu,hd,hi⟩:=sW hty
 unfold execOp
 simp only [ho,hx,Instr.loadAt,Instr.sureAddr,Sem.run_bind,Sem.run_pure,Result.andThen_ok,run_loadVar_mid w b i ty vs d hc hu hd (by rw [hi,hn])]
theorem qL (w:World) (a:Addr) (v:Value) (k:Nat) (hk:k≠a.block):(w.setCell a v).heap[k]? = w.heap[k]?:=heap_setCell_other w a k v hk
theorem xw (b:Nat) (t:TypeId):∀ (vs:List Value) (o:Nat) (w:World) (cs:List Value),w.heap[b]? = some (.cells cs.toArray t (0,0))→o+vs.length≤cs.length →
  (w.setCells b o vs).heap[b]? = some (.cells (cs.take o ++ vs ++ cs.drop (o+vs.length)).toArray t (0,0))
 | [],o,w,cs,hb,_=>by simpa [World.setCells] using hb
 | v :: r,o,w,cs,hb,hl=>by
  have h1:(w.setCell ⟨b,o,none⟩ v).heap[b]? = some (.cells (cs.set o v).toArray t (0,0)):=by
   rw [heap_setCell_same w b o _ t v hb];simp
  have:=xw b t r (o+1) _ _ h1 (by simp at hl ⊢;omega)
  show ((w.setCell ⟨b,o,none⟩ v).setCells b (o+1) r).heap[b]? = _
  rw [this]
  congr 3
  simp only [List.length_cons] at hl ⊢
  rw [List.take_set,List.drop_set_of_lt (by omega)]
  apply List.ext_getElem?
  intro i
  simp only [List.append_assoc,List.cons_append,List.getElem?_append,List.length_set,List.length_take,List.getElem?_set,List.getElem?_take,List.getElem?_cons,List.getElem?_drop]
  have e1:min (o+1) cs.length=o+1:=by omega
  have e2:min o cs.length=o:=by omega
  rw [e1,e2]
  by_cases h1:i < o
  ·simp [h1,show i < o+1 by omega,show ¬ o=i by omega]
  ·by_cases h2:i=o
   ·subst h2;simp
   ·have h3:¬ i < o+1:=by omega
    simp only [h1,h3,if_false]
    have h4:i - o≠0:=by omega
    simp only [h4,if_false]
    rw [show i - o - 1=i - (o+1) by omega]
    simp only [show o+(r.length+1)=o+1+r.length by omega]
theorem qP:∀ (vs:List Value) (b o:Nat) (w:World),(w.setCells b o vs).os=w.os∧(w.setCells b o vs).output=w.output∧(w.setCells b o vs).heap.size=w.heap.size∧∀ k,k≠b→(w.setCells b o vs).heap[k]? = w.heap[k]?
 | [],_,_,_=>⟨rfl,rfl,rfl,fun _ _=>rfl⟩
 | v :: r,b,o,w=>by
  have h:=qP r b (o+1) (w.setCell ⟨b,o,none⟩ v)
  refine ⟨h.1,h.2.1,h.2.2.1.trans (by simp [World.setCell]),fun k hk=>(h.2.2.2 k hk).trans (qL w _ v k hk)⟩
def splice (cs:List Value) (o:Nat) (vs:List Value):List Value:=cs.take o ++ vs ++ cs.drop (o+vs.length)
variable {w0:World} {X:List Nat} {V:View} {L:List dF} {w:World}
theorem LV {b o n:Nat} {cs:List Value} {t:TypeId} (hb:w.heap[b]? = some (.cells cs.toArray t (0,0))) (hl:o+n≤cs.length):w.there b o n:=fun j hj=>by
 constructor
 ·rw [cell_of_row w b (o+j) _ t (0,0) hb]
  simp only [List.getElem?_toArray]
  rw [List.getElem?_eq_getElem (by omega)];rfl
 ·exact frozen_of_row w b (o+j) _ t hb
theorem yg (hS:St w0 X V L w) {o:Oper} {ρ:Operand→Value} {ty:TypeId} {x y:Operand} (ho:o.op=.store ty x y) {j b i:Nat} {t:TypeId} {cs:List Value} (hj:L[j]? = some (.blk b t cs))
  (hx:ρ x=.pointer (some ⟨b,i,none⟩)) {v:Value} (hy:ρ y=v) (hv:v.oneCell'=true) (hty:uK P ty=true) (hl:i < cs.length) {L':List dF} (hL:L.set j (.blk b t (cs.set i v))=L') :
  ∃ w',(execOp ρ o).run P w=.ok .skip w'∧St w0 X V L' w':=by
 have hb:=hS.at hj
 refine ⟨w.setCell ⟨b,i,none⟩ v,?_,?_⟩
 ·have hc:w.cell? ⟨b,i,none⟩=some (cs[i]'hl):=aX hb (List.getElem?_eq_getElem hl)
  have hf:=frozen_of_row w b i _ t hb
  have hsz:v.cells=#[v]:=by cases v <;> first | rfl | (cases hv)
  have hi:(sizeOf ty).run P w=.ok 1 w:=by
   unfold uK at hty
   cases hq:P.info? ty with
   | none=>rw [hq] at hty;split at hty <;> simp_all
   | some q =>
    rw [hq] at hty
    have:q.size=1:=by split at hty <;> simp_all
    simp [sizeOf,typeInfo,hq,this]
  unfold execOp
  have hadd:(⟨b,i,none⟩:Addr).add 0=⟨b,i,none⟩:=by rw [Addr.add_mid];rfl
  simp only [ho,hx,hy,Instr.storeAt,Instr.sureAddr,Sem.run_bind,Sem.run_pure,Result.andThen_ok,storeVar,hi,hsz]
  simp [storeCells,hadd,run_store P w _ v _ hv,hc,hf]
 ·refine hS.set (w':=w.setCell ⟨b,i,none⟩ v) hj rfl (f:=.blk b t (cs.set i v)) rfl rfl rfl (by simp [World.setCell]) (fun k hk=>qL w _ v k hk) ?_ hL
  show (w.setCell ⟨b,i,none⟩ v).heap[b]? = _
  rw [heap_setCell_same w b i _ t v hb];simp
theorem xJ (hS:St w0 X V L w) {o:Oper} {ρ:Operand→Value} {ty:TypeId} {x y:Operand} (ho:o.op=.store ty x y) {j b i n:Nat} {t:TypeId} {cs vs:List Value} (hj:L[j]? = some (.blk b t cs))
  (hx:ρ x=.pointer (some ⟨b,i,none⟩)) (hy:ρ y=.agg vs.toArray) (hv:∀ v∈vs,v.oneCell'=true) (hty:rowB P ty n=true) (hn:vs.length=n) (hl:i+n≤cs.length)
  {L':List dF} (hL:L.set j (.blk b t (splice cs i vs))=L') :
  ∃ w',(execOp ρ o).run P w=.ok .skip w'∧St w0 X V L' w':=by
 have hb:=hS.at hj
 obtain ⟨d,hu,hd,hi⟩:=sW hty
 subst hn
 obtain ⟨h1,h2,h3,h4⟩:=qP vs b i w
 refine ⟨w.setCells b i vs,?_,?_⟩
 ·unfold execOp
  simp only [ho,hx,hy,Instr.storeAt,Instr.sureAddr,Sem.run_bind,Sem.run_pure,Result.andThen_ok,run_storeVar_mid w b i ty vs.toArray (LV hb hl) (by simpa using hi) (all_oneCell_toArray hv)]
 ·exact hS.set hj rfl (f:=.blk b t (splice cs i vs)) rfl h1 h2 h3 h4 (xw b t vs i w cs hb hl) hL
theorem Ye (hS:St w0 X V L w) {o:Oper} {ρ:Operand→Value} {ty:TypeId} {x:Operand} (ho:o.op=.box ty x) {v:Value} (hx:ρ x=v) {cs:List Value} (hc:v.cells=cs.toArray) :
  (execOp ρ o).run P w=.ok (.value (.pointer (some ⟨w.heap.size,0,none⟩))) (w.alloc (.cells cs.toArray ty))∧St w0 X V (.blk w.heap.size ty cs :: L) (w.alloc (.cells cs.toArray ty)):=by
 refine ⟨?_,hS.alloc ty cs⟩
 unfold execOp
 simp only [ho,hx,Instr.box,newVar,newRow,hc]
 rfl
theorem Aq (hS:St w0 X V L w) {o:Oper} {ρ:Operand→Value} {ty:TypeId} (ho:o.op=.alloc ty) (hz:QK P ty=true) {cs:List Value} (hc:QD P ty=cs) :
  (execOp ρ o).run P w=.ok (.value (.pointer (some ⟨w.heap.size,0,none⟩))) (w.alloc (.cells cs.toArray ty))∧St w0 X V (.blk w.heap.size ty cs :: L) (w.alloc (.cells cs.toArray ty)):=by
 refine ⟨?_,hS.alloc ty cs⟩
 unfold execOp
 unfold QK at hz
 unfold QD at hc
 cases hq:P.info? ty with
 | none=>rw [hq] at hz;cases hz
 | some q =>
  rw [hq] at hz hc
  cases hzz:q.zero with
  | none=>simp [hzz] at hz
  | some z =>
   simp [hzz] at hc
   subst hc
   simp [ho,Instr.alloc,zeroValue,typeInfo,hq,hzz,newVar,newRow]
section
variable {ops:Array Oper} {rest:List Oper} {o:Oper} {a:Act} {Q:Exit→Act→World→Prop}
theorem xE (hw:Region.wanted o (yielded ops a.tmps)=true) (h:∀ K:Act→World→Prop,(∀ a w,wpList P ops Q rest a w→K a w)→o.wp P a w K Q):wpList P ops Q (o :: rest) a w:=by
 unfold wpList
 rw [hw]
 exact .inl (h _ fun _ _ h=>h)
theorem dU {v:Value} {w':World} (hgd:Region.wanted o (yielded ops a.tmps)=true) (hr:(execOp a.eval o).run P w=.ok (.value v) w') (h:wpList P ops Q rest (a.put o.dst v) w'):wpList P ops Q (o :: rest) a w :=
 xE hgd fun _ hK=>by unfold Oper.wp;rw [hr];exact hK _ _ h
theorem ES {w':World} (hgd:Region.wanted o (yielded ops a.tmps)=true) (hr:(execOp a.eval o).run P w=.ok .skip w') (h:wpList P ops Q rest (a.put o.dst undef) w'):wpList P ops Q (o :: rest) a w :=
 xE hgd fun _ hK=>by unfold Oper.wp;rw [hr];exact hK _ _ h
theorem OA (hS:St w0 X V L w) (hgd:Region.wanted o (yielded ops a.tmps)=true) {ty:TypeId} {x y:Operand} (ho:o.op=.store ty x y) (j:Nat) {b i:Nat} {t:TypeId} {cs:List Value}
  {v:Value} (hx:a.eval x=.pointer (some ⟨b,i,none⟩)) (hj:L[j]? = some (.blk b t cs)) (hy:a.eval y=v) (hv:v.oneCell'=true) (hty:uK P ty=true) (hl:i < cs.length) {L':List dF} (hL:L.set j (.blk b t (cs.set i v))=L')
  (h:∀ w',St w0 X V L' w'→wpList P ops Q rest (a.put o.dst undef) w'):wpList P ops Q (o :: rest) a w:=by
 obtain ⟨w',hr,hS'⟩:=yg hS ho hj hx hy hv hty hl hL
 exact ES hgd hr (h w' hS')
theorem FN (hS:St w0 X V L w) (hgd:Region.wanted o (yielded ops a.tmps)=true) {ty:TypeId} {x y:Operand} (ho:o.op=.store ty x y) (j:Nat) {b i n:Nat} {t:TypeId} {cs vs:List Value}
  (hx:a.eval x=.pointer (some ⟨b,i,none⟩)) (hj:L[j]? = some (.blk b t cs)) (hy:a.eval y=.agg vs.toArray) (hv:∀ v∈vs,v.oneCell'=true) (hty:rowB P ty n=true) (hn:vs.length=n) (hl:i+n≤cs.length)
  {L':List dF} (hL:L.set j (.blk b t (splice cs i vs))=L') (h:∀ w',St w0 X V L' w'→wpList P ops Q rest (a.put o.dst undef) w'):wpList P ops Q (o :: rest) a w:=by
 obtain ⟨w',hr,hS'⟩:=xJ hS ho hj hx hy hv hty hn hl hL
 exact ES hgd hr (h w' hS')
theorem BA {cs vs:List Value} (h:cs.length=vs.length):splice cs 0 vs=vs:=by
 unfold splice
 simp [← h]
theorem OU {cs vs:List Value} {i:Nat} (h:i+vs.length≤cs.length):(splice cs i vs).length=cs.length:=by
 unfold splice
 simp;omega
theorem Jd (hS:St w0 X V L w) (hgd:Region.wanted o (yielded ops a.tmps)=true) {ty:TypeId} {x y:Operand} (ho:o.op=.store ty x y) (j:Nat) {b n:Nat} {t:TypeId} {cs vs:List Value}
  (hx:a.eval x=.pointer (some ⟨b,0,none⟩)) (hj:L[j]? = some (.blk b t cs)) (hy:a.eval y=.agg vs.toArray) (hv:∀ v∈vs,v.oneCell'=true) (hty:rowB P ty n=true) (hn:vs.length=n) (hl:cs.length=n)
  {L':List dF} (hL:L.set j (.blk b t vs)=L') (h:∀ w',St w0 X V L' w'→wpList P ops Q rest (a.put o.dst undef) w'):wpList P ops Q (o :: rest) a w :=
 FN hS hgd ho j hx hj hy hv hty hn (by omega) (by rw [BA (by omega)];exact hL) h
theorem Yd (hS:St w0 X V L w) (hgd:Region.wanted o (yielded ops a.tmps)=true) {ty:TypeId} {x:Operand} (ho:o.op=.box ty x) {v:Value} (hx:a.eval x=v) {cs:List Value} (hc:v.cells=cs.toArray)
  (h:∀ b w',St w0 X V (.blk b ty cs :: L) w'→wpList P ops Q rest (a.put o.dst (.pointer (some ⟨b,0,none⟩))) w'):wpList P ops Q (o :: rest) a w:=by
 obtain ⟨hr,hS'⟩:=Ye (P:=P) hS ho hx hc
 exact dU hgd hr (h _ _ hS')
theorem SL (hS:St w0 X V L w) (hgd:Region.wanted o (yielded ops a.tmps)=true) {ty:TypeId} (ho:o.op=.alloc ty) (hz:QK P ty=true) {cs:List Value} (hc:QD P ty=cs)
  (h:∀ b w',St w0 X V (.blk b ty cs :: L) w'→wpList P ops Q rest (a.put o.dst (.pointer (some ⟨b,0,none⟩))) w'):wpList P ops Q (o :: rest) a w:=by
 obtain ⟨hr,hS'⟩:=Aq (P:=P) (ρ:=a.eval) hS ho hz hc
 exact dU hgd hr (h _ _ hS')
theorem Td (hS:St w0 X V L w) (hgd:Region.wanted o (yielded ops a.tmps)=true) {ty:TypeId} {x:Operand} (ho:o.op=.load ty x) (j:Nat) {b i:Nat} {t:TypeId} {cs:List Value}
  {v:Value} (hx:a.eval x=.pointer (some ⟨b,i,none⟩)) (hj:L[j]? = some (.blk b t cs)) (hty:uK P ty=true) (hv:cs[i]? = some v)
  (h:wpList P ops Q rest (a.put o.dst v) w):wpList P ops Q (o :: rest) a w :=
 dU hgd (fP ho hx hty (aX (hS.at hj) hv)) h
theorem Ud (hS:St w0 X V L w) (hgd:Region.wanted o (yielded ops a.tmps)=true) {ty:TypeId} {x:Operand} (ho:o.op=.load ty x) (j:Nat) {b i n:Nat} {t:TypeId} {cs vs:List Value}
  (hx:a.eval x=.pointer (some ⟨b,i,none⟩)) (hj:L[j]? = some (.blk b t cs)) (hty:rowB P ty n=true) (hv:(cs.drop i).take n=vs) (hn:vs.length=n)
  (h:wpList P ops Q rest (a.put o.dst (.agg vs.toArray)) w):wpList P ops Q (o :: rest) a w :=
 dU hgd (iy ho hx hty hn (lK (hS.at hj) hv)) h
theorem PU (hS:St w0 X V L w) (hgd:Region.wanted o (yielded ops a.tmps)=true) {ty:TypeId} {x:Operand} (ho:o.op=.load ty x) {b i:Nat}
  {v:Value} (hx:a.eval x=.pointer (some ⟨b,i,none⟩)) (hty:uK P ty=true) (hv:V.Cell b i v)
  (h:wpList P ops Q rest (a.put o.dst v) w):wpList P ops Q (o :: rest) a w :=
 dU hgd (fP ho hx hty (hv.cell hS.view)) h
theorem Om (hS:St w0 X V L w) (hgd:Region.wanted o (yielded ops a.tmps)=true) {ty:TypeId} {x:Operand} (ho:o.op=.load ty x) {b i n:Nat} {vs:List Value}
  (hx:a.eval x=.pointer (some ⟨b,i,none⟩)) (hty:rowB P ty n=true) (hv:V.Range b i vs) (hn:vs.length=n)
  (h:wpList P ops Q rest (a.put o.dst (.agg vs.toArray)) w):wpList P ops Q (o :: rest) a w :=
 dU hgd (iy ho hx hty hn (hv.range hS.view)) h
end
section
variable {ops:Array Oper} {o:Oper} {a:Act} {K:Act→World→Prop} {Q:Exit→Act→World→Prop} {i₀:Nat}
theorem oO {v:Value} {w':World} (hi:ops[i₀]? = some o) (hgd:Region.wanted o (yielded ops a.tmps)=true) (hr:(execOp a.eval o).run P w=.ok (.value v) w') (h:K (a.put o.dst v) w'):wpOp P ops Q i₀ K a w:=by
 unfold wpOp
 simp only [hi]
 rw [hgd]
 exact .inl (by unfold Oper.wp;rw [hr];exact h)
theorem Nh {w':World} (hi:ops[i₀]? = some o) (hgd:Region.wanted o (yielded ops a.tmps)=true) (hr:(execOp a.eval o).run P w=.ok .skip w') (h:K (a.put o.dst undef) w'):wpOp P ops Q i₀ K a w:=by
 unfold wpOp
 simp only [hi]
 rw [hgd]
 exact .inl (by unfold Oper.wp;rw [hr];exact h)
theorem Rx {v:Value} {f:FuncId} {args:Array Value} {R:World→Prop} (hi:ops[i₀]? = some o) (hgd:Region.wanted o (yielded ops a.tmps)=true) (hr:(execOp a.eval o).run P w=.ok (.enter f args) w)
  (hc:Calls P f args w fun e w'=>e=.returned v∧R w') (h:∀ w',R w'→K (a.put o.dst v) w'):wpOp P ops Q i₀ K a w:=by
 unfold wpOp
 simp only [hi]
 rw [hgd]
 refine .inl ?_
 unfold Oper.wp
 rw [hr]
 exact hc.mono fun e w' ⟨he,hR⟩=>by subst he;exact h w' hR
theorem PS (hS:St w0 X V L w) (hi:ops[i₀]? = some o) (hgd:Region.wanted o (yielded ops a.tmps)=true) {ty:TypeId} {x y:Operand} (ho:o.op=.store ty x y) (j:Nat) {b i:Nat} {t:TypeId} {cs:List Value}
  {v:Value} (hx:a.eval x=.pointer (some ⟨b,i,none⟩)) (hj:L[j]? = some (.blk b t cs)) (hy:a.eval y=v) (hv:v.oneCell'=true) (hty:uK P ty=true) (hl:i < cs.length) {L':List dF} (hL:L.set j (.blk b t (cs.set i v))=L')
  (h:∀ w',St w0 X V L' w'→K (a.put o.dst undef) w'):wpOp P ops Q i₀ K a w:=by
 obtain ⟨w',hr,hS'⟩:=yg hS ho hj hx hy hv hty hl hL
 exact Nh hi hgd hr (h w' hS')
theorem Di (hS:St w0 X V L w) (hi:ops[i₀]? = some o) (hgd:Region.wanted o (yielded ops a.tmps)=true) {ty:TypeId} {x y:Operand} (ho:o.op=.store ty x y) (j:Nat) {b i n:Nat} {t:TypeId} {cs vs:List Value}
  (hx:a.eval x=.pointer (some ⟨b,i,none⟩)) (hj:L[j]? = some (.blk b t cs)) (hy:a.eval y=.agg vs.toArray) (hv:∀ v∈vs,v.oneCell'=true) (hty:rowB P ty n=true) (hn:vs.length=n) (hl:i+n≤cs.length)
  {L':List dF} (hL:L.set j (.blk b t (splice cs i vs))=L') (h:∀ w',St w0 X V L' w'→K (a.put o.dst undef) w'):wpOp P ops Q i₀ K a w:=by
 obtain ⟨w',hr,hS'⟩:=xJ hS ho hj hx hy hv hty hn hl hL
 exact Nh hi hgd hr (h w' hS')
theorem Il (hS:St w0 X V L w) (hi:ops[i₀]? = some o) (hgd:Region.wanted o (yielded ops a.tmps)=true) {ty:TypeId} {x y:Operand} (ho:o.op=.store ty x y) (j:Nat) {b n:Nat} {t:TypeId} {cs vs:List Value}
  (hx:a.eval x=.pointer (some ⟨b,0,none⟩)) (hj:L[j]? = some (.blk b t cs)) (hy:a.eval y=.agg vs.toArray) (hv:∀ v∈vs,v.oneCell'=true) (hty:rowB P ty n=true) (hn:vs.length=n) (hl:cs.length=n)
  {L':List dF} (hL:L.set j (.blk b t vs)=L') (h:∀ w',St w0 X V L' w'→K (a.put o.dst undef) w'):wpOp P ops Q i₀ K a w :=
 Di hS hi hgd ho j hx hj hy hv hty hn (by omega) (by rw [BA (by omega)];exact hL) h
theorem TU {ty:TypeId} {x:Operand} (ho:o.op=.load ty x) (j:Nat) {b i:Nat} {t:TypeId} {cs:List Value} {v:Value} (hgd:Region.wanted o (yielded ops a.tmps)=true) (hx:a.eval x=.pointer (some ⟨b,i,none⟩)) (hj:L[j]? = some (.blk b t cs))
  (hty:uK P ty=true) (hv:cs[i]? = some v):YieldsIf P ops (St w0 X V L) o v a :=
 .inl ⟨hgd,fun _ hS=>fP ho hx hty (aX (hS.at hj) hv)⟩
theorem RN {ty:TypeId} {x:Operand} (ho:o.op=.load ty x) (j:Nat) {b i n:Nat} {t:TypeId} {cs vs:List Value} (hgd:Region.wanted o (yielded ops a.tmps)=true) (hx:a.eval x=.pointer (some ⟨b,i,none⟩)) (hj:L[j]? = some (.blk b t cs))
  (hty:rowB P ty n=true) (hv:(cs.drop i).take n=vs) (hn:vs.length=n):YieldsIf P ops (St w0 X V L) o (.agg vs.toArray) a :=
 .inl ⟨hgd,fun _ hS=>iy ho hx hty hn (lK (hS.at hj) hv)⟩
theorem PE {ty:TypeId} {x:Operand} (ho:o.op=.load ty x) {b i:Nat} {v:Value} (hgd:Region.wanted o (yielded ops a.tmps)=true) (hx:a.eval x=.pointer (some ⟨b,i,none⟩))
  (hty:uK P ty=true) (hv:V.Cell b i v):YieldsIf P ops (St w0 X V L) o v a :=
 .inl ⟨hgd,fun _ hS=>fP ho hx hty (hv.cell hS.view)⟩
end
section
variable {o:Oper} {a:Act} {K:Act→Prop}
theorem qp {C:World→Prop} {v:Value} (hr:∀ w,C w→(execOp a.eval o).run P w=.ok (.value v) w) (h:K (a.put o.dst v)):o.quiet P a C K :=
 ⟨v,fun w hw=>by unfold Oper.quietAt;rw [hr w hw];exact ⟨rfl,rfl⟩,h⟩
theorem Nb {C:World→Prop} {v:Value} {f:FuncId} {args:Array Value} (hr:∀ w,C w→(execOp a.eval o).run P w=.ok (.enter f args) w)
  (hc:∀ w,C w→Calls P f args w fun e w'=>e=.returned v∧C w') (h:K (a.put o.dst v)):o.quiet P a C K :=
 ⟨v,fun w hw=>by unfold Oper.quietAt;rw [hr w hw];exact ⟨rfl,hc w hw⟩,h⟩
theorem Nc {ty:TypeId} {x:Operand} (ho:o.op=.load ty x) (j:Nat) {b i:Nat} {t:TypeId} {cs:List Value} {v:Value} (hx:a.eval x=.pointer (some ⟨b,i,none⟩)) (hj:L[j]? = some (.blk b t cs))
  (hty:uK P ty=true) (hv:cs[i]? = some v) (h:K (a.put o.dst v)):o.quiet P a (St w0 X V L) K :=
 qp (fun _ hS=>fP ho hx hty (aX (hS.at hj) hv)) h
theorem LY {ty:TypeId} {x:Operand} (ho:o.op=.load ty x) (j:Nat) {b i n:Nat} {t:TypeId} {cs vs:List Value} (hx:a.eval x=.pointer (some ⟨b,i,none⟩)) (hj:L[j]? = some (.blk b t cs))
  (hty:rowB P ty n=true) (hv:(cs.drop i).take n=vs) (hn:vs.length=n) (h:K (a.put o.dst (.agg vs.toArray))):o.quiet P a (St w0 X V L) K :=
 qp (fun _ hS=>iy ho hx hty hn (lK (hS.at hj) hv)) h
theorem St.eY (h:St w0 X V L w):St w0 X V L { w with drawn:=w.drawn+1 }:=h.drew 1
end
theorem aj {p:Prop} (h:p):Go.RowKit.Hid p:=h
theorem L9 {P:Program} {w0:World} {X:List Nat} {V:View} {L:List dF} {f:FuncId} {args:Array Value} {w:World} {v:Value} (hS:St w0 X V L w)
  (h:Calls P f args w fun e w'=>e=.returned v∧Kp w w'):Calls P f args w fun e w'=>e=.returned v∧St w0 X V L w' :=
 h.mono fun _ _ ⟨he,hk⟩=>⟨he,hS.kp hk⟩
theorem rH {P:Program} {w0:World} {X:List Nat} {V:View} {L:List dF} {f:FuncId} {args:Array Value} {w:World} {v:Value} {R:Ending→World→Prop} (hS:St w0 X V L w)
  (hc:Calls P f args w fun e w'=>e=.returned v∧Kp w w') (h:∀ w',St w0 X V L w'→R (.returned v) w'):Calls P f args w R :=
 hc.mono fun _ _ ⟨he,hk⟩=>by subst he;exact h _ (hS.kp hk)
def iI (tmps:Array Value):ResultVar→Sem Value
 | .tmp t=>pure (tmps.getD t undef)
 | .cell a t=>do loadVar t (← asAddr (tmps.getD a undef))
theorem mO (fn:Func) (tmps:Array Value):results fn tmps=(do
  let vs ← fn.results.mapM (iI tmps)
  pure (if h:vs.size=1 then vs[0] else .tuple vs)):=by
 unfold results
 have:(fun x:ResultVar=>(match x with | .tmp t=>pure (tmps.getD t undef) | .cell a t=>do loadVar t (← asAddr (tmps.getD a undef)):Sem Value))=iI tmps:=by
  funext x;cases x <;> rfl
 rw [← this]
 rfl
theorem bH {fn:Func} {tmps:Array Value} {r1:ResultVar} (h:fn.results=#[r1]) {v1:Value} (h1:(iI tmps r1).run P w=.ok v1 w):(results fn tmps).run P w=.ok v1 w:=by
 rw [mO,h]
 simp [h1]
theorem dA {fn:Func} {tmps:Array Value} {r1 r2:ResultVar} (h:fn.results=#[r1,r2]) {v1 v2:Value} (h1:(iI tmps r1).run P w=.ok v1 w) (h2:(iI tmps r2).run P w=.ok v2 w) :
  (results fn tmps).run P w=.ok (.tuple #[v1,v2]) w:=by
 rw [mO,h]
 simp [h1,h2]
theorem results3 {fn:Func} {tmps:Array Value} {r1 r2 r3:ResultVar} (h:fn.results=#[r1,r2,r3]) {v1 v2 v3:Value} (h1:(iI tmps r1).run P w=.ok v1 w) (h2:(iI tmps r2).run P w=.ok v2 w) (h3:(iI tmps r3).run P w=.ok v3 w) :
  (results fn tmps).run P w=.ok (.tuple #[v1,v2,v3]) w:=by
 rw [mO,h]
 simp [h1,h2,h3]
theorem FB {fn:Func} {tmps:Array Value} (h:fn.results=#[]):(results fn tmps).run P w=.ok (.tuple #[]) w:=by
 rw [mO,h]
 simp
theorem yS {tmps:Array Value} {t:Tmp} {v:Value} (h:tmps.getD t undef=v):(iI tmps (.tmp t)).run P w=.ok v w:=by subst h;rfl
theorem AO (hS:St w0 X V L w) {tmps:Array Value} {t:Tmp} {ty:TypeId} (j:Nat) {b i:Nat} {t':TypeId} {cs:List Value} {v:Value} (hx:tmps.getD t undef=.pointer (some ⟨b,i,none⟩)) (hj:L[j]? = some (.blk b t' cs))
  (hty:uK P ty=true) (hv:cs[i]? = some v):(iI tmps (.cell t ty)).run P w=.ok v w:=by
 have hc:=aX (hS.at hj) hv
 have hx':tmps[t]?.getD undef=.pointer (some ⟨b,i,none⟩):=by simpa using hx
 simp [iI,hx',asAddr,loadVar,Sem.run_bind,qR hty,hc]
theorem Aa (hS:St w0 X V L w) {tmps:Array Value} {t:Tmp} {ty:TypeId} (j:Nat) {b i n:Nat} {t':TypeId} {cs vs:List Value} (hx:tmps.getD t undef=.pointer (some ⟨b,i,none⟩)) (hj:L[j]? = some (.blk b t' cs))
  (hty:rowB P ty n=true) (hv:(cs.drop i).take n=vs) (hn:vs.length=n):(iI tmps (.cell t ty)).run P w=.ok (.agg vs.toArray) w:=by
 obtain ⟨d,hu,hd,hi⟩:=sW hty
 have hx':tmps[t]?.getD undef=.pointer (some ⟨b,i,none⟩):=by simpa using hx
 simp [iI,hx',asAddr,Sem.run_bind,run_loadVar_mid w b i ty vs d (lK (hS.at hj) hv) hu hd (by rw [hi,hn])]
theorem aB {fn:Func} {R:Ending→World→Prop} {a:Act} (h:bodyPost P fn R .ret a w):bodyPost P fn R .normal a w:=h
def VP (P:Program) (t e:TypeId):Bool:=(match P.underlying t with | some (.slice e')=>e' == e | _=>false) && uK P e && ((P.info? e).bind (·.zero)).isSome
def tagged (n:Nat):List Value→List (Nat × Value)
 | []=>[]
 | v :: vs=>(n,v) :: tagged (n+1) vs
theorem AQ:∀ (vs pre:List Value) (cells:List Value),cells.length=pre.length+vs.length→cells.take pre.length=pre→(∀ v∈vs,v.oneCell'=true) →
  Instr.fill (fun i=>some (i * 1,1)) cells.toArray (tagged pre.length vs)=some (pre ++ vs).toArray
 | [],pre,cells,h1,h2,_=>by
  simp only [tagged,Instr.fill,List.append_nil]
  rw [← h2,List.take_of_length_le (by simp at h1;omega)]
 | v :: vs,pre,cells,h1,h2,h3=>by
  have hv:v.cells=#[v]:=by
   have:=h3 v (by simp)
   cases v <;> first | rfl | (cases this)
  simp only [List.length_cons] at h1
  simp only [tagged,Instr.fill,hv]
  have hc:(pre.length * 1 + #[v].size > cells.toArray.size)=False:=by simp;omega
  simp only [List.size_toArray,List.length_cons,List.length_nil,Nat.zero_add,ne_eq,not_true_eq_false,decide_false,Bool.false_or,decide_eq_true_eq,Nat.mul_one]
  rw [if_neg (by simp;omega)]
  have:=AQ vs (pre ++ [v]) (cells.set pre.length v) (by simp;omega) (by
   rw [List.length_append,List.length_cons,List.length_nil,List.take_set,List.take_succ_eq_append_getElem (by omega),h2]
   simp) (fun x hx=>h3 x (by simp [hx]))
  simp only [List.length_append,List.length_cons,List.length_nil,Nat.zero_add,List.append_assoc,List.cons_append,List.nil_append,Nat.mul_one] at this
  rw [← this]
  congr 1
  simp
theorem DV {o:Oper} {ρ:Operand→Value} {t e:TypeId} {len:Nat} {parts:Array (Nat × Operand)} (ho:o.op=.buildSlice t len parts) {vs:List Value}
  (hp:(parts.toList.map fun p=>(p.1,ρ p.2))=tagged 0 vs) (hn:vs.length=len) (hl:len≤100) (h1:∀ v∈vs,v.oneCell'=true) (ht:VP P t e=true) (w:World) :
  (execOp ρ o).run P w=.ok (.value (.slice (some ⟨w.heap.size,0,none⟩) len len)) (w.alloc (.cells vs.toArray e)):=by
 unfold VP at ht
 simp only [Bool.and_eq_true] at ht
 obtain ⟨⟨ht1,ht2⟩,ht3⟩:=ht
 have hu:P.underlying t=some (.slice e):=by
  cases hd:P.underlying t with
  | none=>rw [hd] at ht1;cases ht1
  | some d=>rw [hd] at ht1;cases d <;> simp_all
 unfold uK at ht2
 cases hq:P.info? e with
 | none=>rw [hq] at ht3;cases ht3
 | some q =>
  rw [hq] at ht3 ht2
  have hs:q.size=1:=by
   cases hu2:P.underlying e with
   | none=>rw [hu2] at ht2;cases ht2
   | some d=>rw [hu2] at ht2;cases d <;> simp_all
  cases hz:q.zero with
  | none=>simp [hz] at ht3
  | some z =>
   have hf:Instr.fill (fun i=>some (i * 1,1)) (((List.range len).map fun j=>(z.cells[j % z.cells.size]!)).toArray) (tagged 0 vs)=some vs.toArray:=by
    have:=AQ vs [] ((List.range len).map fun j=>(z.cells[j % z.cells.size]!)) (by simp [hn]) (by simp) h1
    simpa using this
   have hf':Instr.fill (fun i=>some (i,1)) (Array.map (fun x=>z.cells[x % z.cells.size]!) (Array.range len)) (tagged 0 vs)=some vs.toArray:=by
    have e1:(Array.map (fun x=>z.cells[x % z.cells.size]!) (Array.range len))=((List.range len).map fun j=>(z.cells[j % z.cells.size]!)).toArray:=by
     apply Array.ext'
     simp [Array.toList_range]
    rw [e1,← hf]
    simp
   have hp':List.map (fun x=>(x.fst,ρ x.snd)) parts.toList=tagged 0 vs:=hp
   unfold execOp
   have hlim:¬ (16777216:Nat) < len:=by omega
   by_cases hl0:len=0
   ·subst hl0
    have:vs=[]:=List.length_eq_zero_iff.1 hn
    subst this
    simp [ho,Instr.buildSlice,underlying,hu,sizeOf,typeInfo,hq,hs,hp',tagged,Instr.fill,newRow]
    have e0:(Array.map (fun _:Nat=>(default:Value)) (Array.range 0))=#[]:=by apply Array.ext';simp
    rw [e0]
   ·simp [ho,Instr.buildSlice,underlying,hu,sizeOf,typeInfo,hq,hs,zeroValue,hz,hlim,hl0,hp',hf',newRow]
section
variable {ops:Array Oper} {rest:List Oper} {o:Oper} {a:Act} {Q:Exit→Act→World→Prop}
theorem O7 (hS:St w0 X V L w) (hgd:Region.wanted o (yielded ops a.tmps)=true) {t e:TypeId} {len:Nat} {parts:Array (Nat × Operand)} (ho:o.op=.buildSlice t len parts) {vs:List Value}
  (hp:(parts.toList.map fun p=>(p.1,a.eval p.2))=tagged 0 vs) (hn:vs.length=len) (hl:len≤100) (h1:∀ v∈vs,v.oneCell'=true) (ht:VP P t e=true)
  (h:∀ b w',St w0 X V (.blk b e vs :: L) w'→wpList P ops Q rest (a.put o.dst (.slice (some ⟨b,0,none⟩) len len)) w'):wpList P ops Q (o :: rest) a w :=
 dU hgd (DV ho hp hn hl h1 ht w) (h _ _ (hS.alloc e vs))
theorem DU {K:Act→World→Prop} {i₀:Nat} (hS:St w0 X V L w) (hi:ops[i₀]? = some o) (hgd:Region.wanted o (yielded ops a.tmps)=true) {t e:TypeId} {len:Nat} {parts:Array (Nat × Operand)} (ho:o.op=.buildSlice t len parts) {vs:List Value}
  (hp:(parts.toList.map fun p=>(p.1,a.eval p.2))=tagged 0 vs) (hn:vs.length=len) (hl:len≤100) (h1:∀ v∈vs,v.oneCell'=true) (ht:VP P t e=true)
  (h:∀ b w',St w0 X V (.blk b e vs :: L) w'→K (a.put o.dst (.slice (some ⟨b,0,none⟩) len len)) w'):wpOp P ops Q i₀ K a w :=
 oO hi hgd (DV ho hp hn hl h1 ht w) (h _ _ (hS.alloc e vs))
end
theorem EG {L:List dF} {j:Nat} {e f:dF} (hj:L[j]? = some e) (hnd:(L.filterMap dF.foot).Nodup) {b:Nat} (hf:f.foot=some b) (hb:∀ g∈L,g.foot≠some b):((L.set j f).filterMap dF.foot).Nodup:=by
 induction L generalizing j with
 | nil=>simp at hj
 | cons a L ih =>
  have hbL:b ∉ L.filterMap dF.foot:=fun hm=>by
   obtain ⟨g,hg,hgb⟩:=List.mem_filterMap.1 hm
   exact hb g (List.mem_cons_of_mem _ hg) hgb
  cases j with
  | zero =>
   simp only [List.set_cons_zero]
   rw [List.filterMap_cons_some hf,List.nodup_cons]
   refine ⟨hbL,?_⟩
   cases ha:a.foot with
   | none=>rwa [List.filterMap_cons_none ha] at hnd
   | some c=>rw [List.filterMap_cons_some ha,List.nodup_cons] at hnd;exact hnd.2
  | succ j =>
   simp only [List.set_cons_succ]
   cases ha:a.foot with
   | none =>
    rw [List.filterMap_cons_none ha] at hnd ⊢
    exact ih (by simpa using hj) hnd fun g hg=>hb g (List.mem_cons_of_mem _ hg)
   | some c =>
    rw [List.filterMap_cons_some ha,List.nodup_cons] at hnd ⊢
    refine ⟨fun hm=>?_,ih (by simpa using hj) hnd.2 fun g hg=>hb g (List.mem_cons_of_mem _ hg)⟩
    obtain ⟨g,hg,hgc⟩:=List.mem_filterMap.1 hm
    rcases List.mem_or_eq_of_mem_set hg with hg | rfl
    ·exact hnd.1 (vN hg hgc)
    ·rw [hf] at hgc
     cases hgc
     exact hb a (List.mem_cons_self ..) ha
theorem St.grow (h:St w0 X V L w) {j:Nat} {v v':Value} {t:TypeId} {s n n':Nat} {xs xs':List Value} (hj:L[j]? = some (.row v t s n xs)) {w':World}
  (hg:w.grownBy w' v.ownBlock) (ho:w'.ownsRow 0 t s v' n' xs') (hpd:DR w' v' (n' * s)) (hf:v'.ownBlock=v.ownBlock∨v'.ownBlock=some w.heap.size):St w0 X V (L.set j (.row v' t s n' xs')) w':=by
 have hem:=List.mem_of_getElem? hj
 have hlt:∀ e∈L,∀ b,e.foot=some b→b < w.heap.size:=fun e he b hb=>(h.has e he).lt hb
 have hoth:∀ i f,L[i]? = some f→j≠i→∀ k,f.foot=some k→w'.heap[k]? = w.heap[k]?:=fun i f hi hji k hk=>by
  refine hg.block k (hlt f (List.mem_of_getElem? hi) k hk) ?_
  intro hkv
  exact CZ h.nd hj hi hji (b:=k) hkv.symm hk
 have hkeep:∀ k,k < w.heap.size→(∀ b,v.ownBlock=some b→k≠b)→w'.heap[k]? = w.heap[k]?:=fun k hk hne=>hg.block k hk fun hkv=>hne k hkv.symm rfl
 refine ⟨hg.os.trans h.os,hg.output.trans h.output,Nat.le_trans h.size hg.size,fun k hk hx=>?_,fun k o hk=>?_,fun e he=>?_,fun e he b hb=>?_,fun e he b hb=>?_,?_⟩
 ·refine (hkeep k (Nat.lt_of_lt_of_le hk h.size) fun b hb hkb=>?_).trans (h.old k hk hx)
  subst hkb
  rcases h.new _ hem k hb with h1 | h1
  ·omega
  ·exact hx h1
 ·have:=h.view k o hk
  rw [hkeep k (lt_of_heap this) fun b hb hkb=>by subst hkb;rw [h.off _ hem k hb] at hk;cases hk];exact this
 ·rcases List.getElem?_of_mem he with ⟨i,hi⟩
  rw [List.getElem?_set] at hi
  by_cases hji:j=i
  ·subst hji
   have hl:j < L.length:=(List.getElem?_eq_some_iff.1 hj).1
   simp [hl] at hi
   subst hi;exact ⟨ho,hpd⟩
  ·simp [hji] at hi
   exact (h.has e (List.mem_of_getElem? hi)).of_heap (hoth i e hi hji)
 ·rcases List.mem_or_eq_of_mem_set he with he | rfl
  ·exact h.new e he b hb
  ·rcases hf with hf | hf
   ·exact h.new _ hem b (hf.symm.trans hb)
   ·rw [show v'.ownBlock=some b from hb] at hf;cases hf;exact .inl h.size
 ·rcases List.mem_or_eq_of_mem_set he with he | rfl
  ·exact h.off e he b hb
  ·rcases hf with hf | hf
   ·exact h.off _ hem b (hf.symm.trans hb)
   ·rw [show v'.ownBlock=some b from hb] at hf;cases hf
    cases hv:V w.heap.size with
    | none=>rfl
    | some o=>exact absurd (lt_of_heap (h.view _ _ hv)) (Nat.lt_irrefl _)
 ·rcases hf with hf | hf
  ·rw [mX hj (by exact hf)];exact h.nd
  ·exact EG hj h.nd (b:=w.heap.size) hf fun g hg hgb=>absurd (hlt g hg _ hgb) (Nat.lt_irrefl _)
def Yv (P:Program) (t e:TypeId) (size:Nat):Bool :=
 (match P.underlying t with | some (.slice e')=>e' == e | _=>false) && (P.info? e).any (fun i=>i.size == size && i.zero.any (fun z=>z.cells.size == size && z.cells.all iL) && decide (i.bytes≤1000)) && decide (0 < size)
theorem Dv {z:Array Value} (hz:z.all iL=true) (n:Nat):∀ (i:Nat) (c:Value),(Builtin.zeroCells z n)[i]? = some c→iL c=true:=by
 intro i c hc
 have hm:=Array.mem_of_getElem? hc
 unfold Builtin.zeroCells at hm
 obtain ⟨j,hj,rfl⟩:=Array.mem_map.1 hm
 have hj':j < n * z.size:=by simpa using hj
 have hpos:0 < z.size:=by
  rcases Nat.eq_zero_or_pos z.size with h | h
  ·rw [h] at hj';omega
  ·exact h
 have hlt:j % z.size < z.size:=Nat.mod_lt _ hpos
 rw [Array.all_eq_true] at hz
 rw [getElem!_pos z _ hlt]
 exact hz _ hlt
theorem yw {w w':World} {t ty e:TypeId} {i:TypeInfo} {z:Value} (ht:P.underlying t=some (.slice e)) (hi:P.info? e=some i) (hz:i.zero=some z) (hzf:z.cells.all iL=true)
  {v v':Value} {n:Nat} {xs:List Value} (hown:w.ownsRow 0 e i.size v n xs) (hpd:DR w v (n * i.size)) {a:Addr} {m c:Nat} {news:List Value} (hl:news.length=m * i.size)
  (hnews:∀ j u,news[j]? = some u→w.cell? (a.add j)=some u) (h1:∀ u∈news,u.oneCell'=true) (h63:n+m≤maxLen) (hbytes:(n+m) * i.bytes≤140737488355328)
  (hr:(Builtin.append_ #[t,t] ty #[v,.slice (some a) m c]).run P w=.ok v' w'):DR w' v' ((n+m) * i.size):=by
 have hsmall:n+m≤9223372036854775807:=by simp only [maxLen] at h63;omega
 have made:∀ (W:World) (k:Nat) (g cap:Nat),DR ({ W with heap:=W.heap.push (.cells (xs.toArray ++ news.toArray ++ Builtin.zeroCells z.cells k) e) }) (.slice (some ⟨W.heap.size,0,none⟩) g cap) ((n+m) * i.size):=by
  intro W k g cap b hb cur t' fr hcur j c' hj hc
  have hb':b=W.heap.size:=by simpa [Value.ownBlock] using hb.symm
  subst hb'
  have hcur':some (Obj.cells (xs.toArray ++ news.toArray ++ Builtin.zeroCells z.cells k) e (0,0))=some (Obj.cells cur t' fr):=by rw [← hcur];simp
  cases hcur'
  have hlen:(xs.toArray ++ news.toArray).size=(n+m) * i.size:=by simp [hown.1,hl,Nat.add_mul]
  rw [Array.getElem?_append_right (by omega)] at hc
  exact Dv hzf k _ _ hc
 rcases hown.2 with ⟨rfl,rfl⟩ | ⟨g,cap,cur,rfl,_,hg,hnc,hcm,hcs,htake⟩
 ·have hx:xs=[]:=List.eq_nil_of_length_eq_zero (by simpa using hown.1)
  subst hx
  by_cases hm:m=0
  ·subst hm
   have hn:news=[]:=List.eq_nil_of_length_eq_zero (by simpa using hl)
   subst hn
   have hr0:(Builtin.append_ #[t,t] ty #[.slice none 0 0,.slice (some a) 0 c]).run P w=.ok (.slice none 0 0) w:=by
    simp [Builtin.append_,run_underlying ht,sizeOf,typeInfo,hi,Builtin.lenOf,Builtin.firstCells,loadCells,loadCellsFrom]
   rw [hr0] at hr
   cases hr
   intro b hb;cases hb
  ·rw [run_append_nil (P:=P) w t ty e i z ht hi hz a m c news hl hnews (by omega) (by omega) (by have hb:=hbytes;simp only [Nat.zero_add] at hb;omega)] at hr
   cases hr
   have:=made w.drew (grownCap w m 0 e - m) m (grownCap w m 0 e)
   simp only [List.nil_append,Array.empty_append] at this ⊢
   exact this
 ·by_cases hroom:n+m≤cap
  ·have hfit:n * i.size+news.length≤cur.size:=by rw [hl,hcs,← Nat.add_mul];exact Nat.mul_le_mul_right _ hroom
   rw [run_append_room (P:=P) w t ty e i ht hi g n cap cur hg a m c news hl hnews h1 hroom hfit] at hr
   cases hr
   intro b hb cur' t' fr hcur j c' hj hc
   have hb':b=g:=by simpa [Value.ownBlock] using hb.symm
   subst hb'
   rw [setRow_heap w b cur _ e _ hg] at hcur
   cases hcur
   have hx:n * i.size≤cur.size:=by omega
   have hjj:n * i.size+m * i.size≤j:=by rw [← Nat.add_mul];exact hj
   have hll:(cur.toList.take (n * i.size) ++ news).length=n * i.size+news.length:=by simp only [List.length_append,List.length_take,Array.length_toList];omega
   rw [List.getElem?_toArray,List.getElem?_append_right (by rw [hll];omega),List.getElem?_drop] at hc
   refine hpd b rfl cur e (0,0) hg (n * i.size+news.length+(j - (cur.toList.take (n * i.size) ++ news).length)) c' (by omega) (by simpa using hc)
  ·rw [run_append_grow (P:=P) w t ty e i z ht hi hz ⟨g,0,none⟩ n cap xs hown.1 (hown.cells (g:=g) rfl) a m c news hl hnews (by omega) (by omega) (growslice_fits (by omega) hbytes)] at hr
   cases hr
   exact made w.drew _ _ _
theorem PK (hS:St w0 X V L w) {o:Oper} {ρ:Operand→Value} {sl x:Operand} {t e:TypeId} {size:Nat} (ho:o.op=.call { callee:=.builtin .append,args:=#[sl,x],argTypes:=#[t,t] })
  (ht:Yv P t e size=true) {j n:Nat} {v:Value} {xs:List Value} (hj:L[j]? = some (.row v e size n xs)) (hv:ρ sl=v)
  {jb b m c:Nat} {te:TypeId} {news:List Value} (hjb:L[jb]? = some (.blk b te news)) (hx:ρ x=.slice (some ⟨b,0,none⟩) m c) (hm:news.length=m * size) (h1:∀ u∈news,u.oneCell'=true) (hn:n+m≤1000) :
  ∃ v' w',(execOp ρ o).run P w=.ok (.value v') w'∧St w0 X V (L.set j (.row v' e size (n+m) (xs ++ news))) w':=by
 unfold Yv at ht
 simp only [Bool.and_eq_true] at ht
 obtain ⟨⟨ht1,ht2⟩,ht3⟩:=ht
 have hu:P.underlying t=some (.slice e):=by
  cases hd:P.underlying t with
  | none=>rw [hd] at ht1;cases ht1
  | some d=>rw [hd] at ht1;cases d <;> simp_all
 cases hq:P.info? e with
 | none=>rw [hq] at ht2;cases ht2
 | some q =>
  rw [hq] at ht2
  simp only [Option.any_some,Bool.and_eq_true,beq_iff_eq,decide_eq_true_eq] at ht2
  obtain ⟨⟨hqs,hqz⟩,hqb⟩:=ht2
  cases hz:q.zero with
  | none=>rw [hz] at hqz;cases hqz
  | some z =>
   rw [hz] at hqz
   simp only [Option.any_some,Bool.and_eq_true,beq_iff_eq] at hqz
   obtain ⟨hqz,hqf⟩:=hqz
   have hsz:0 < size:=by simpa using ht3
   have hb:=hS.at hjb
   obtain ⟨v',w',hr,h2,h3,_,h5⟩:=run_append_own_at (P:=P) w 0 t o.type e q z size q.bytes hu hq hz hqs rfl hqz hsz v n xs (hS.wu hj) ⟨b,0,none⟩ m c news hm
    (fun i u hi=>by rw [Addr.add_mid];exact aX hb (by simpa using hi)) h1 (by unfold maxLen;omega) (by
     have:(n+m) * q.bytes≤1000 * 1000:=Nat.mul_le_mul hn hqb
     omega) (Nat.zero_le _)
   refine ⟨v',w',?_,hS.grow hj h3 h2 (hqs ▸ yw (P:=P) hu hq hz hqf (hqs ▸ hS.wu hj) (hqs ▸ hS.Wj hj) (a:=⟨b,0,none⟩) (hqs ▸ hm) (fun i u hi=>by rw [Addr.add_mid];exact aX hb (by simpa using hi)) h1 (by unfold maxLen;omega) (by
     have:(n+m) * q.bytes≤1000 * 1000:=Nat.mul_le_mul hn hqb
     omega) hr) h5⟩
   unfold execOp
   simp only [ho,resolve,invoke,builtin,Sem.run_bind,Sem.run_pure,Result.andThen_ok,List.map_toArray,List.map_cons,List.map_nil,hv,hx,hr]
end Go.Mm
namespace Go.Mm
open Go
variable {P:Program} {w0:World} {X:List Nat} {V:View} {L:List dF} {w w':World}
theorem St.xW (w:World) (V:View) (hV:V.In w) {g:Nat} {t:TypeId} {cs:List Value} (hg:w.heap[g]? = some (.cells cs.toArray t (0,0))) (hVg:V g=none):St w [g] V [.blk g t cs] w :=
 ⟨rfl,rfl,Nat.le_refl _,fun _ _ _=>rfl,hV,fun e he=>by simp at he;subst he;exact hg,fun e he b hb=>by simp at he;subst he;cases hb;exact .inr (by simp),
  fun e he b hb=>by simp at he;subst he;cases hb;exact hVg,by simp [dF.foot]⟩
theorem St.Js {g:Nat} (h:St w0 [g] V L w):ni g w0 w:=⟨h.os,h.output,h.size,fun k hk hkg=>h.old k hk (by simp [hkg])⟩
theorem St.mut (h:St w0 X V L w) {j:Nat} {g:Nat} {t:TypeId} {cs cs':List Value} (hj:L[j]? = some (.blk g t cs)) (k:ni g w w') (hg:w'.heap[g]? = some (.cells cs'.toArray t (0,0)))
  {L':List dF} (hL:L.set j (.blk g t cs')=L'):St w0 X V L' w':=by
 subst hL
 have hem:=List.mem_of_getElem? hj
 have hb:=h.new _ hem g rfl
 have hbV:=h.off _ hem g rfl
 refine ⟨k.os.trans h.os,k.output.trans h.output,Nat.le_trans h.size k.size,fun i hi hx=>?_,fun i o hi=>?_,fun e he=>?_,fun e he c hc=>?_,fun e he c hc=>?_,?_⟩
 ·refine (k.old i (Nat.lt_of_lt_of_le hi h.size) ?_).trans (h.old i hi hx)
  rintro rfl
  rcases hb with hb | hb
  ·omega
  ·exact hx hb
 ·have:=h.view i o hi
  rw [k.old i (lt_of_heap this) (by rintro rfl;rw [hbV] at hi;cases hi)];exact this
 ·rcases List.getElem?_of_mem he with ⟨i,hi⟩
  rw [List.getElem?_set] at hi
  by_cases hji:j=i
  ·subst hji
   have hl:j < L.length:=(List.getElem?_eq_some_iff.1 hj).1
   simp [hl] at hi
   subst hi;exact hg
  ·simp [hji] at hi
   have heL:=List.mem_of_getElem? hi
   exact (h.has e heL).of_heap fun c hc=>k.old c ((h.has e heL).lt hc) (by rintro rfl;exact CZ h.nd hj hi hji rfl hc)
 ·rcases List.mem_or_eq_of_mem_set he with he | rfl
  ·exact h.new e he c hc
  ·cases hc;exact hb
 ·rcases List.mem_or_eq_of_mem_set he with he | rfl
  ·exact h.off e he c hc
  ·cases hc;exact hbV
 ·rw [mX (f:=dF.blk g t cs') hj rfl];exact h.nd
theorem St.fresh (h0:St w0 X V L w) (k:Kp w w') {e:dF} (he:e.Holds w') (hf:∀ b,e.foot=some b→w.heap.size≤b):St w0 X V (e :: L) w':=by
 have h:=h0.kp k
 have hlt:∀ f∈L,∀ b,f.foot=some b→b < w.heap.size:=fun f hm b hb=>(h0.has f hm).lt hb
 refine ⟨h.os,h.output,h.size,h.old,h.view,fun f hm=>?_,fun f hm b hb=>?_,fun f hm b hb=>?_,?_⟩
 ·rcases List.mem_cons.1 hm with rfl | hm
  ·exact he
  ·exact h.has f hm
 ·rcases List.mem_cons.1 hm with rfl | hm
  ·exact .inl (Nat.le_trans h0.size (hf b hb))
  ·exact h.new f hm b hb
 ·rcases List.mem_cons.1 hm with rfl | hm
  ·cases hv:V b with
   | none=>rfl
   | some o=>exact absurd (lt_of_heap (h0.view _ _ hv)) (by have:=hf b hb;omega)
  ·exact h.off f hm b hb
 ·cases hfo:e.foot with
  | none=>rw [List.filterMap_cons_none (f:=dF.foot) hfo];exact h.nd
  | some b =>
   rw [List.filterMap_cons_some (f:=dF.foot) hfo,List.nodup_cons]
   refine ⟨fun hm=>?_,h.nd⟩
   obtain ⟨f,hm,hb⟩:=List.mem_filterMap.1 hm
   have:=hlt f hm b hb
   have:=hf b hfo
   omega
theorem St.nilRow (h:St w0 X V L w) (t:TypeId) (s:Nat):St w0 X V (.row (.slice none 0 0) t s 0 [] :: L) w :=
 h.fresh (Kp.refl w) ⟨⟨by simp,.inl ⟨rfl,rfl⟩⟩,fun b hb=>by cases hb⟩ (fun b hb=>by cases hb)
end Go.Mm
