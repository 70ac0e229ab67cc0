/- A part of the proof: E2, T2, T3. -/
import Derived.Test.YtjjmefieegcddaaDoorA01
import Derived.FollowTie
import Derived.Fence
import Derived.Conc.Events
import Derived.CallsIn
set_option linter.unusedVariables false
set_option linter.unusedSimpArgs false
namespace Go.Tm
open Go Go.Extern Go.Extern.Rtype
instance {α:Type} {m:String}:Shyc (panicString m:Sem α):=by
 unfold panicString
 exact ks
instance {s:String}:Shyc (cutType s):=by
 unfold cutType
 exact ks
instance {t:TypeId}:Shyc (typeStr t):=by
 unfold typeStr
 exact ks
instance {v:Value}:Shyc (Rtype.ofHandle v):=by
 unfold Rtype.ofHandle
 exact ks
instance {t:TypeId}:Shyc (Rtype.handle t):=by
 unfold Rtype.handle
 exact ks
instance {w:String} {t:TypeId}:Shyc (Rtype.noPack w t):=by
 unfold Rtype.noPack
 exact ks
instance {w:String} {t:TypeId}:Shyc (Rtype.noPackHeld w t):=by
 unfold Rtype.noPackHeld
 exact ks
instance {w:String} {t:TypeId}:Shyc (Rtype.noPackNamed w t):=by
 unfold Rtype.noPackNamed
 exact ks
instance {w:String} {t:TypeId}:Shyc (Rtype.noPackMethods w t):=by
 unfold Rtype.noPackMethods
 exact ks
instance {t:TypeId}:Shyc (Rtype.spelt t):=by
 unfold Rtype.spelt
 exact ks
instance {t:TypeId}:Shyc (Rtype.under t):=by
 unfold Rtype.under
 exact ks
instance {t:TypeId}:Shyc (Rtype.kind t):=by
 unfold Rtype.kind
 exact ks
instance {t:TypeId}:Shyc (Rtype.hasName t):=by
 unfold Rtype.hasName
 exact ks
instance {t:TypeId}:Shyc (Rtype.elem? t):=by
 unfold Rtype.elem?
 exact ks
instance {t u:TypeId}:Shyc (Rtype.implements t u):=by
 unfold Rtype.implements
 exact ks
instance {t u:TypeId}:Shyc (Rtype.directlyAssignable t u):=by
 unfold Rtype.directlyAssignable
 exact ks
instance {t:TypeId}:Shyc (ReflectliteType.toType t):=by
 unfold ReflectliteType.toType
 exact ks
instance {v:Value}:Shyc (ReflectliteType.ofRtype v):=by
 unfold ReflectliteType.ofRtype
 cases v <;> first | exact shy_stuck | skip
 rename_i c
 obtain ⟨l⟩:=c
 match l with
 | []=>exact shy_stuck
 | [x0] =>
  refine shy_bind inferInstance fun t=>shy_bind inferInstance fun _=>inferInstance
 | _ :: _ :: _=>exact shy_stuck
instance {a:Array Value}:Shyc (ReflectliteType.typeOf a):=by
 unfold ReflectliteType.typeOf
 obtain ⟨l⟩:=a
 match l with
 | []=>exact shy_stuck
 | [x0] =>
  cases x0 <;> first | exact shy_stuck | exact shy_pure | skip
  rename_i t v
  show Shyc (ReflectliteType.toType t)
  infer_instance
 | _ :: _ :: _=>exact shy_stuck
instance {f:TypeId→Sem Value} {a:Array Value} [∀ t,Shyc (f t)]:Shyc (ReflectliteType.method f a):=by
 unfold ReflectliteType.method
 obtain ⟨l⟩:=a
 match l with
 | []=>exact shy_stuck
 | [x0] =>
  exact shy_bind inferInstance fun t=>inferInstance
 | _ :: _ :: _=>exact shy_stuck
instance {t:TypeId}:Shyc (ReflectliteType.elem t):=by
 unfold ReflectliteType.elem
 exact ks
instance {t:TypeId}:Shyc (ReflectliteType.name t):=by
 unfold ReflectliteType.name
 exact ks
instance {t:TypeId}:Shyc (ReflectliteType.pkgPath t):=by
 unfold ReflectliteType.pkgPath
 exact ks
instance {w:String} {f:TypeId→TypeId→Sem Bool} {a:Array Value} [∀ t u,Shyc (f t u)]:Shyc (ReflectliteType.relation w f a):=by
 unfold ReflectliteType.relation
 obtain ⟨l⟩:=a
 match l with
 | []=>exact shy_stuck
 | [_]=>exact shy_stuck
 | [x0,x1] =>
  cases x1 <;> first | exact shy_stuck | skip
  case nilIface=>exact (inferInstance:Shyc (panicString _:Sem Value))
  case iface t v=>exact shy_bind inferInstance fun t=>shy_bind inferInstance fun u=>shy_bind inferInstance fun b=>inferInstance
 | _ :: _ :: _ :: _=>exact shy_stuck
instance {t u:TypeId}:Shyc (ReflectliteType.implements_ t u):=by
 unfold ReflectliteType.implements_
 exact ks
instance {t u:TypeId}:Shyc (ReflectliteType.assignableTo t u):=by
 unfold ReflectliteType.assignableTo
 exact ks
instance {f:TypeId→Sem Value} {a:Array Value} [∀ t,Shyc (f t)]:Shyc (ReflectliteType.abiMethod f a):=by
 unfold ReflectliteType.abiMethod
 obtain ⟨l⟩:=a
 match l with
 | []=>exact shy_stuck
 | [x0] =>
  exact shy_bind inferInstance fun t=>shy_bind inferInstance fun _=>inferInstance
 | _ :: _ :: _=>exact shy_stuck
instance {t:TypeId} {a:Addr} {n:Nat}:Shyc (ReflectliteValue.mk t a n):=by
 unfold ReflectliteValue.mk
 exact ks
instance {v:Value}:Shyc (ReflectliteValue.unpack v):=by
 unfold ReflectliteValue.unpack
 exact ks
instance {α:Type} {m:String} {k:Nat}:Shyc (ReflectliteValue.valueError m k:Sem α):=by
 unfold ReflectliteValue.valueError
 exact ks
instance {v:Value}:Shyc (ReflectliteValue.partsAny v):=by
 unfold ReflectliteValue.partsAny
 cases v <;> first | exact shy_stuck | skip
 rename_i c
 obtain ⟨l⟩:=c
 match l with
 | []=>exact shy_stuck
 | [_]=>exact shy_stuck
 | [_,_]=>exact shy_stuck
 | [x0,x1,x2] =>
  cases x2 <;> first | exact shy_stuck | skip
  rename_i k n
  cases k <;> first | exact shy_stuck | skip
  rcases n with (_ | n) | n
  ·exact shy_pure
  all_goals
   cases x1 <;> first | exact shy_stuck | skip
   rename_i p
   cases p <;> first | exact shy_stuck | exact shy_bind inferInstance fun t=>inferInstance
 | _ :: _ :: _ :: _ :: _=>exact shy_stuck
instance {v:Value}:Shyc (ReflectliteValue.parts v):=by
 unfold ReflectliteValue.parts
 exact ks
instance {z:Sem Value} {f:TypeId→Addr→Nat→Nat→Sem Value} {a:Array Value} [Shyc z] [∀ t a m n,Shyc (f t a m n)]:Shyc (ReflectliteValue.method z f a):=by
 unfold ReflectliteValue.method
 obtain ⟨l⟩:=a
 match l with
 | []=>exact shy_stuck
 | [x0] =>
  refine shy_bind inferInstance fun o=>?_
  split <;> infer_instance
 | _ :: _ :: _=>exact shy_stuck
instance {z:Sem Value} {f:TypeId→Addr→Nat→Nat→Sem Value} {a:Array Value} [Shyc z] [∀ t a m n,Shyc (f t a m n)]:Shyc (ReflectliteValue.methodAny z f a):=by
 unfold ReflectliteValue.methodAny
 obtain ⟨l⟩:=a
 match l with
 | []=>exact shy_stuck
 | [x0] =>
  refine shy_bind inferInstance fun o=>?_
  split <;> infer_instance
 | _ :: _ :: _=>exact shy_stuck
instance {t:TypeId} {a:Addr} {m n:Nat}:Shyc (ReflectliteValue.isNil t a m n):=by
 unfold ReflectliteValue.isNil
 exact ks
instance {t:TypeId} {a:Addr} {m n:Nat}:Shyc (ReflectliteValue.elem t a m n):=by
 unfold ReflectliteValue.elem
 exact ks
instance {a:Array Value}:Shyc (ReflectliteValue.set a):=by
 unfold ReflectliteValue.set
 obtain ⟨l⟩:=a
 match l with
 | []=>exact shy_stuck
 | [_]=>exact shy_stuck
 | [x0,x1] =>
  refine shy_bind inferInstance fun o1=>shy_bind inferInstance fun o2=>?_
  exact ks
 | _ :: _ :: _ :: _=>exact shy_stuck
instance {a:Array Value}:Shyc (ReflectliteValue.errorText a):=by
 unfold ReflectliteValue.errorText
 obtain ⟨l⟩:=a
 match l with
 | []=>exact shy_stuck
 | [x0] =>
  cases x0 <;> first | exact shy_stuck | skip
  rename_i p
  cases p with
  | none=>exact ⟨fun C P=>shy_runtimePanic _⟩
  | some e =>
   show Shyc (load e >>= _)
   refine shy_bind inferInstance fun v=>shy_bind inferInstance fun m=>shy_bind inferInstance fun k=>shy_bind inferInstance fun n=>inferInstance
 | _ :: _ :: _=>exact shy_stuck
instance {s:String}:Shyc (RuntimeError.text s):=by
 unfold RuntimeError.text
 exact ks
instance {a:Array Value}:Shyc (RuntimeError.boundsError a):=by
 unfold RuntimeError.boundsError
 obtain ⟨l⟩:=a
 match l with
 | []=>exact shy_stuck
 | [x0] =>
  cases x0 <;> first | exact shy_stuck | skip
  rename_i c
  obtain ⟨l⟩:=c
  match l with
  | []=>exact shy_stuck
  | [_]=>exact shy_stuck
  | [_,_]=>exact shy_stuck
  | [_,_,_]=>exact shy_stuck
  | _ :: _ :: _ :: _ :: _ :: _=>exact shy_stuck
  | [a,b,c,d] =>
   cases a <;> first | exact shy_stuck | skip
   cases b <;> first | exact shy_stuck | skip
   cases c <;> first | exact shy_stuck | skip
   cases d <;> first | exact shy_stuck | skip
   rename_i k x k' y sg k2 code
   show Shyc (match (if sg && x < 0 then RuntimeError.boundsNegErrorFmts else RuntimeError.boundsErrorFmts)[code.toNat]? with | some fmt=>RuntimeError.text _ | none=>stuck _)
   generalize (if sg && x < 0 then RuntimeError.boundsNegErrorFmts else RuntimeError.boundsErrorFmts)[code.toNat]? = o
   cases o <;> infer_instance
 | _ :: _ :: _=>exact shy_stuck
instance {v:Value}:Shyc (RuntimeError.described v):=by
 unfold RuntimeError.described
 exact ks
instance {v:TypeInfo}:Shyc (RuntimeError.pkgpathOf v):=by
 unfold RuntimeError.pkgpathOf
 exact ks
instance {a:Array Value}:Shyc (RuntimeError.typeAssertionError a):=by
 unfold RuntimeError.typeAssertionError
 exact ks
instance {a:Array Value}:Shyc (RuntimeError.unhashableTypeError a):=by
 unfold RuntimeError.unhashableTypeError
 obtain ⟨l⟩:=a
 match l with
 | []=>exact shy_stuck
 | [x0] =>
  cases x0 <;> first | exact shy_stuck | skip
  rename_i c
  obtain ⟨l⟩:=c
  match l with
  | []=>exact shy_stuck
  | [x] =>
   refine shy_bind inferInstance fun o=>?_
   cases o with
   | none=>exact ⟨fun C P=>shy_runtimePanic _⟩
   | some t=>infer_instance
  | _ :: _ :: _=>exact shy_stuck
 | _ :: _ :: _=>exact shy_stuck
instance {a:Array Value}:Shyc (RuntimeError.nothing a):=by
 unfold RuntimeError.nothing
 exact ks
instance {t:TypeId} {a:Addr} {m n:Nat}:Shyc (ReflectliteValue.len t a m n):=by
 unfold ReflectliteValue.len
 exact ks
theorem shy_rowsT:∀ x∈ReflectliteType.rows,∀ a,Shyc (x.2 a):=by
 intro x hx a
 simp only [ReflectliteType.rows,List.mem_cons,List.not_mem_nil,or_false] at hx
 rcases hx with rfl | rfl | rfl | rfl | rfl | rfl | rfl | rfl | rfl | rfl | rfl | rfl <;> dsimp only <;> infer_instance
theorem shy_rowsV:∀ x∈ReflectliteValue.rows,∀ a,Shyc (x.2 a):=by
 intro x hx a
 simp only [ReflectliteValue.rows,List.mem_cons,List.not_mem_nil,or_false] at hx
 rcases hx with rfl | rfl | rfl | rfl | rfl | rfl | rfl | rfl | rfl | rfl <;> dsimp only <;> infer_instance
theorem shy_rowsE:∀ x∈RuntimeError.rows,∀ a,Shyc (x.2 a):=by
 intro x hx a
 simp only [RuntimeError.rows,List.mem_cons,List.not_mem_nil,or_false] at hx
 rcases hx with rfl | rfl | rfl | rfl | rfl | rfl | rfl | rfl | rfl | rfl | rfl | rfl | rfl | rfl | rfl <;> dsimp only <;> infer_instance
end Go.Tm
namespace Go.Tm
open Go
def cell1:Value→Bool
 | .agg _ | .tuple _=>false
 | _=>true
def _root_.Go.World.re (w:World) (τ:Nat→Question→Nat) (d:Nat):World:={ w with tape:=τ,drawn:=d }
def _root_.Go.Result.world {α:Type}:Result α→World
 | .ok _ w=>w
 | .halt _ w=>w
def _root_.Go.Result.re {α:Type} (r:Result α) (τ:Nat→Question→Nat) (d:Nat):Result α :=
 match r with
 | .ok a w=>.ok a (w.re τ d)
 | .halt h w=>.halt h (w.re τ d)
def Agree (w:World) (j:Nat) (τ:Nat→Question→Nat) (d:Nat):Prop:=∀ i,i < j→∀ q,τ (d+i) q=w.tape (w.drawn+i) q
theorem Agree.mono {w:World} {j j':Nat} {τ:Nat→Question→Nat} {d:Nat} (h:Agree w j τ d) (hj:j'≤j):Agree w j' τ d:=fun i hi q=>h i (by omega) q
section
variable {τ:Nat→Question→Nat} {d:Nat}
@[simp] theorem re_heap (w:World):(w.re τ d).heap=w.heap:=rfl
@[simp] theorem re_os (w:World):(w.re τ d).os=w.os:=rfl
@[simp] theorem re_tape (w:World):(w.re τ d).tape=τ:=rfl
@[simp] theorem re_drawn (w:World):(w.re τ d).drawn=d:=rfl
@[simp] theorem re_cell (w:World) (a:Addr):(w.re τ d).cell? a=w.cell? a:=rfl
@[simp] theorem re_frozen (w:World) (a:Addr):(w.re τ d).frozen? a=w.frozen? a:=rfl
theorem re_freeze (w:World) (a:Addr) (n:Nat):(w.re τ d).freeze a n=(w.freeze a n).re τ d:=by
 unfold World.freeze;split <;> rfl
theorem re_self (w:World):w.re w.tape w.drawn=w:=rfl
theorem re_re (w:World) (τ':Nat→Question→Nat) (d':Nat):(w.re τ d).re τ' d'=w.re τ' d':=rfl
theorem re_farLoad (w:World) (p:Program) (a:Addr) (at_:Bool):(w.re τ d).farLoad p a at_=w.farLoad p a at_:=rfl
theorem viewStore_parts (w:World) (p:Program) (at_:Addr) (u:TypeId) (k:Addr) (v:Value) (atomic:Bool) :
  (∃ e,∀ τ d,(w.re τ d).viewStore p at_ u k v atomic=.error e) ∨
  ∃ c e fr l,∀ τ d,(w.re τ d).viewStore p at_ u k v atomic=.ok ({ w.re τ d with heap:=w.heap.setIfInBounds at_.block (.cells c e fr) },l):=by
 unfold World.viewStore
 have hs:∀ τ d,(w.re τ d).seen p at_ u k atomic=w.seen p at_ u k atomic:=fun _ _=>rfl
 simp only [hs]
 cases tight p p.depth u <;> cases w.seen p at_ u k atomic with
 | error e=>first | exact .inl ⟨_,fun _ _=>rfl⟩
 | ok x =>
  first
  | exact .inl ⟨_,fun _ _=>rfl⟩
  | (obtain ⟨c,e,fr,first,like,cells⟩:=x
     simp only [Bool.not_true,Bool.false_eq_true,if_false]
     cases v.bytes? with
     | none=>exact .inl ⟨_,fun _ _=>rfl⟩
     | some bytes =>
      by_cases hb:some bytes.length≠like.bytes?.map (·.length)
      ·refine .inl ⟨ "memory seen as another type: a value of another size", fun τ d=>?_⟩
       simp only [bind,Except.bind,hb,if_true,ne_eq,not_false_eq_true]
       rfl
      ·simp only [bind,Except.bind,pure,Except.pure,hb,if_false]
       generalize hf:(List.foldlM _ c cells:Except String (Array Value))=r
       cases r with
       | error e=>exact .inl ⟨e,fun _ _=>rfl⟩
       | ok c'=>exact .inr ⟨c',e,fr,_,fun _ _=>rfl⟩)
end
theorem perform_env (os:Os):∃ os',Kernel.perform .env os=.done (.strings os.env,os'):=by
 refine ⟨{ os with wall:=os.wall+0,mono:=os.mono+0,coarse:=os.coarse },?_⟩
 unfold Kernel.perform
 simp [Kernel.lengthOf,Kernel.named,Kernel.ofKernel,Kernel.stamps,Kernel.each,Kernel.env]
 rfl
theorem sys_env (w:World):∃ r os,∀ τ d,(w.re τ d).sys .env=(r,{ w.re τ d with os:=os }):=by
 obtain ⟨os',h⟩:=perform_env w.os
 refine ⟨.strings w.os.env,os',fun τ d=>?_⟩
 unfold World.sys
 rw [re_os,h]
 rfl
def ND (e:Event):Prop:=e.loc≠.mark .disable∧e.loc≠.mark .enable
def HeapOk (C:Code→Prop) (w:World):Prop:=∀ (i:Nat) (o:Obj),w.heap[i]? = some o→OkObj C o
section
variable {C:Code→Prop} {P:Program}
theorem heapOk_push {w:World} (h:HeapOk C w) {o:Obj} (ho:OkObj C o):HeapOk C { w with heap:=w.heap.push o }:=by
 intro i x hx
 rw [Array.getElem?_push] at hx
 split at hx
 ·cases hx;exact ho
 ·exact h i x hx
theorem heapOk_set {w:World} (h:HeapOk C w) {r:Nat} {o:Obj} (ho:OkObj C o):HeapOk C { w with heap:=w.heap.setIfInBounds r o }:=by
 intro i x hx
 simp only [Array.getElem?_setIfInBounds] at hx
 split at hx
 ·split at hx
  ·cases hx;exact ho
  ·cases hx
 ·exact h i x hx
theorem heapOk_modify {w:World} (h:HeapOk C w) {r:Nat} {f:Obj→Obj} (hf:∀ o,OkObj C o→OkObj C (f o)):HeapOk C { w with heap:=w.heap.modify r f }:=by
 intro i x hx
 simp only [Array.getElem?_modify] at hx
 split at hx
 ·obtain ⟨y,hy,rfl⟩:=Option.map_eq_some_iff.1 hx
  exact hf _ (h i y hy)
 ·exact h i x hx
theorem heapOk_setCell {w:World} (h:HeapOk C w) (a:Addr) (v:Value):HeapOk C (w.setCell a v):=by
 refine heapOk_modify h fun o ho=>?_
 cases o <;> first | exact ho | trivial
theorem heapOk_freeze {w:World} (h:HeapOk C w) (a:Addr) (n:Nat):HeapOk C (w.freeze a n):=by
 unfold World.freeze
 split
 ·exact h
 ·refine heapOk_modify h fun o ho=>?_
  cases o <;> first | exact ho | trivial
theorem nd_push {es es0:Array Event} {e:Event} (h:∀ x∈es,x∈es0∨ND x) (he:ND e):∀ x∈es.push e,x∈es0∨ND x:=by
 intro x hx
 rcases Array.mem_push.1 hx with h1 | rfl
 ·exact h x h1
 ·exact .inr he
theorem nd_cells {es es0:Array Event} (h:∀ x∈es,x∈es0∨ND x) (l:List Addr) (wr s:Bool):∀ x∈es ++ l.toArray.map (fun a=>(⟨.cell a,wr,s⟩:Event)),x∈es0∨ND x:=by
 intro x hx
 rcases Array.mem_append.1 hx with h1 | h1
 ·exact h x h1
 ·obtain ⟨a,_,rfl⟩:=Array.mem_map.1 h1
  exact .inr ⟨by simp,by simp⟩
theorem okHalt_noCell {w:World} (h:HeapOk C w) (a:Addr) (s:String):OkHalt (w.noCell a s):=by
 unfold World.noCell
 split
 ·rename_i hx;exact (h _ _ hx).elim
 ·trivial
 ·trivial
structure Facts (C:Code→Prop) {α:Type} (φ:α→Prop) (es0:Array Event) (n:Nat) (r:Result α × Array Event):Prop where
 nd:∀ x∈r.2,x∈es0∨ND x
 heap:HeapOk C r.1.world
 size:n≤r.1.world.heap.size
 leaf:match r.1 with | .ok a _=>φ a | .halt h _=>OkHalt h
theorem runT_facts {α:Type} {φ:α→Prop} (s:Sem α) (hs:Tame C P φ s):∀ (w:World) (es es0:Array Event) (n:Nat),HeapOk C w→(∀ x∈es,x∈es0∨ND x)→n≤w.heap.size→Facts C φ es0 n (s.runT P w es):=by
 induction s with
 | pure a=>exact fun w es es0 n hw he hn=>⟨he,hw,hn,hs⟩
 | load m a k ih =>
  intro w es es0 n hw he hn
  simp only [Sem.runT]
  split
  ·exact ih _ (hs _) _ _ _ _ hw (nd_push he ⟨by simp,by simp⟩) hn
  ·split
   ·exact ih _ (hs _) _ _ _ _ hw (nd_cells he _ _ _) hn
   ·rename_i h hx
    refine ⟨he,hw,hn,?_⟩
    show OkHalt h
    unfold World.farLoad at hx
    split at hx
    ·split at hx <;> cases hx;trivial
    ·cases hx
     exact okHalt_noCell hw _ _
 | store m a v k ih =>
  intro w es es0 n hw he hn
  cases v <;> simp only [Sem.runT] <;> first
   | exact ⟨he,hw,hn,trivial⟩
   | (split
      ·split
       ·exact ⟨he,hw,hn,trivial⟩
       ·exact ih hs _ _ _ _ (heapOk_setCell hw _ _) (nd_push he ⟨by simp,by simp⟩) (by simpa [World.setCell] using hn)
      ·split
       ·rename_i w' l hx
        have hh:HeapOk C w'∧w'.heap.size=w.heap.size:=by
         unfold World.farStore at hx
         split at hx
         ·rename_i at_ u _
          rcases viewStore_parts w P at_ u a _ (m == .atomic) with ⟨e,h⟩ | ⟨c,e,fr,l',h⟩
          ·have:=h w.tape w.drawn
           rw [re_self] at this
           rw [this] at hx
           cases hx
          ·have:=h w.tape w.drawn
           rw [re_self] at this
           rw [this] at hx
           cases hx
           exact ⟨heapOk_set hw trivial,by simp⟩
         ·cases hx
        exact ih hs _ _ _ _ hh.1 (nd_cells he _ _ _) (by rw [hh.2];exact hn)
       ·rename_i h hx
        refine ⟨he,hw,hn,?_⟩
        show OkHalt h
        unfold World.farStore at hx
        split at hx
        ·split at hx <;> cases hx;trivial
        ·cases hx
         exact okHalt_noCell hw _ _)
 | new o k ih=>exact fun w es es0 n hw he hn=>ih _ (hs.2 _) _ _ _ _ (heapOk_push hw hs.1) he (by simp;omega)
 | shape r k ih=>exact fun w es es0 n hw he hn=>ih _ (hs _) _ _ _ _ hw he hn
 | freeze a m k ih=>exact fun w es es0 n hw he hn=>ih hs _ _ _ _ (heapOk_freeze hw _ _) he (by unfold World.freeze;split <;> simpa using hn)
 | frozen a k ih=>exact fun w es es0 n hw he hn=>ih _ (hs _) _ _ _ _ hw he hn
 | getObj r k ih =>
  intro w es es0 n hw he hn
  simp only [Sem.runT]
  split
  ·exact ⟨he,hw,hn,trivial⟩
  ·rename_i o _ ho
   exact ih _ (hs _ (hw _ _ ho)) _ _ _ _ hw (nd_push he ⟨by simp,by simp⟩) hn
  ·exact ⟨he,hw,hn,trivial⟩
 | setObj r o k ih =>
  intro w es es0 n hw he hn
  simp only [Sem.runT]
  split
  ·exact ⟨he,hw,hn,trivial⟩
  ·exact ih hs.2 _ _ _ _ (heapOk_set hw hs.1) (nd_push he ⟨by simp,by simp⟩) (by simpa using hn)
  ·exact ⟨he,hw,hn,trivial⟩
 | choose q k ih =>
  intro w es es0 n hw he hn
  simp only [Sem.runT]
  split
  ·exact ih _ (hs _) _ _ _ _ hw he hn
  ·exact ih _ (hs _) { w with drawn:=w.drawn+1 } es es0 n hw he hn
 | sys c k ih =>
  intro w es es0 n hw he hn
  obtain ⟨rfl,hs⟩:=hs
  obtain ⟨r,os,h⟩:=sys_env w
  have h:=h w.tape w.drawn
  rw [re_self] at h
  simp only [Sem.runT,h]
  exact ih _ (hs _) _ _ _ _ (fun i o ho=>hw i o ho) (nd_push he ⟨by simp,by simp⟩) hn
 | program k ih=>exact fun w es es0 n hw he hn=>ih _ hs _ _ _ _ hw he hn
 | mark m k ih=>exact fun w es es0 n hw he hn=>ih hs.2.2 _ _ _ _ hw (nd_push he ⟨by simpa using hs.1,by simpa using hs.2.1⟩) hn
 | halt h=>exact fun w es es0 n hw he hn=>⟨he,hw,hn,hs⟩
theorem runT_local {α:Type} {φ:α→Prop} (s:Sem α) (hs:Tame C P φ s):∀ (w:World) (es:Array Event),HeapOk C w→∃ j,(s.runT P w es).1.world.drawn=w.drawn+j∧(s.runT P w es).1.world.tape=w.tape ∧
  ∀ τ d,Agree w j τ d→s.runT P (w.re τ d) es=((s.runT P w es).1.re τ (d+j),(s.runT P w es).2):=by
 induction s with
 | pure a=>exact fun w es _=>⟨0,rfl,rfl,fun τ d _=>rfl⟩
 | load m a k ih =>
  intro w es hw
  simp only [Sem.runT,re_cell,re_farLoad]
  cases w.cell? a with
  | some v=>exact ih _ (hs _) w _ hw
  | none =>
   cases w.farLoad P a (m == .atomic) with
   | ok x=>exact ih _ (hs _) w _ hw
   | error e=>exact ⟨0,rfl,rfl,fun τ d _=>rfl⟩
 | store m a v k ih =>
  intro w es hw
  by_cases hv:cell1 v=true
  ·have hrun:∀ w' es',Sem.runT P (.store m a v k) w' es'=(match w'.cell? a with
    | some _=>if w'.frozen? a then (.halt (.unsupported (.unsafePointer "a write to bytes that a string shares")) w',es') else k.runT P (w'.setCell a v) (es'.push ⟨.cell a,true,m == .atomic⟩)
    | none=>match w'.farStore P a v (m == .atomic) with
     | .ok (w',touched)=>k.runT P w' (es' ++ touched.toArray.map (⟨.cell ·,true,m == .atomic⟩))
     | .error h=>(.halt h w',es')):=by
    intro w' es'
    cases v <;> first | rfl | cases hv
   simp only [hrun,re_cell,re_frozen]
   cases hc:w.cell? a with
   | some x =>
    dsimp only
    by_cases hf:w.frozen? a=true
    ·simp only [hf,if_true]
     exact ⟨0,rfl,rfl,fun τ d _=>rfl⟩
    ·simp only [hf,Bool.false_eq_true,if_false]
     exact ih hs (w.setCell a v) _ (heapOk_setCell hw _ _)
   | none =>
    dsimp only
    unfold World.farStore
    simp only [re_heap]
    have hno:∀ τ d,(w.re τ d).noCell a "store: no such cell" = w.noCell a "store: no such cell" := fun _ _=>rfl
    cases ho:w.heap[a.block]? with
    | none=>simp only [hno];exact ⟨0,rfl,rfl,fun τ d _=>rfl⟩
    | some o =>
     cases o with
     | view at_ u =>
      rcases viewStore_parts w P at_ u a v (m == .atomic) with ⟨e,h⟩ | ⟨c,e,fr,l',h⟩
      ·have h0:=h w.tape w.drawn
       rw [re_self] at h0
       simp only [h,h0]
       exact ⟨0,rfl,rfl,fun τ d _=>rfl⟩
      ·have h0:=h w.tape w.drawn
       rw [re_self] at h0
       simp only [h,h0]
       exact ih hs ({ w with heap:=w.heap.setIfInBounds at_.block (.cells c e fr) }) _ (heapOk_set hw trivial)
     | _=>simp only [hno];exact ⟨0,rfl,rfl,fun τ d _=>rfl⟩
  ·have hrun:∀ w' es',Sem.runT P (.store m a v k) w' es'=(.halt (.stuck "store: not the value of one cell") w',es'):=by
    intro w' es'
    cases v <;> first | rfl | exact absurd rfl hv
   simp only [hrun]
   exact ⟨0,rfl,rfl,fun τ d _=>rfl⟩
 | new o k ih=>exact fun w es hw=>ih _ (hs.2 _) { w with heap:=w.heap.push o } es (heapOk_push hw hs.1)
 | shape r k ih=>exact fun w es hw=>ih _ (hs _) w es hw
 | freeze a m k ih =>
  intro w es hw
  obtain ⟨j,h1,h2,h3⟩:=ih hs (w.freeze a m) es (heapOk_freeze hw _ _)
  have e:(w.freeze a m).drawn=w.drawn∧(w.freeze a m).tape=w.tape:=by unfold World.freeze;split <;> exact ⟨rfl,rfl⟩
  refine ⟨j,by simp only [Sem.runT];rw [h1,e.1],by simp only [Sem.runT];rw [h2,e.2],fun τ d ha=>?_⟩
  simp only [Sem.runT,re_freeze]
  exact h3 τ d (fun i hi q=>by rw [e.1,e.2];exact ha i hi q)
 | frozen a k ih=>exact fun w es hw=>ih _ (hs _) w es hw
 | getObj r k ih =>
  intro w es hw
  simp only [Sem.runT,re_heap]
  cases ho:w.heap[r]? with
  | none=>exact ⟨0,rfl,rfl,fun τ d _=>rfl⟩
  | some o =>
   cases o with
   | cells c e f=>exact ⟨0,rfl,rfl,fun τ d _=>rfl⟩
   | _=>exact ih _ (hs _ (hw _ _ ho)) w _ hw
 | setObj r o k ih =>
  intro w es hw
  simp only [Sem.runT,re_heap]
  cases ho:w.heap[r]? with
  | none=>exact ⟨0,rfl,rfl,fun τ d _=>rfl⟩
  | some o' =>
   cases o' with
   | cells c e f=>exact ⟨0,rfl,rfl,fun τ d _=>rfl⟩
   | _=>exact ih hs.2 { w with heap:=w.heap.setIfInBounds r o } _ (heapOk_set hw hs.1)
 | choose q k ih =>
  intro w es hw
  simp only [Sem.runT]
  by_cases hq:q.forced=true
  ·simp only [hq,if_true]
   exact ih _ (hs _) w es hw
  ·simp only [hq,Bool.false_eq_true,if_false]
   obtain ⟨j,h1,h2,h3⟩:=ih _ (hs (q.cut (w.tape w.drawn q))) { w with drawn:=w.drawn+1 } es hw
   refine ⟨j+1,by rw [h1];show w.drawn+1+j=_;omega,h2,fun τ d ha=>?_⟩
   have h0:=ha 0 (by omega) q
   simp only [Nat.add_zero] at h0
   simp only [re_tape,re_drawn,h0]
   have h4:=h3 τ (d+1) (fun i hi q'=>by
    have:=ha (i+1) (by omega) q'
    rw [show d+1+i=d+(i+1) from by omega,this]
    show w.tape _ q'=w.tape _ q'
    congr 1;show w.drawn+(i+1)=w.drawn+1+i;omega)
   rw [show d+(j+1)=d+1+j from by omega]
   exact h4
 | sys c k ih =>
  intro w es hw
  obtain ⟨rfl,hs⟩:=hs
  obtain ⟨r,os,h⟩:=sys_env w
  have h0:=h w.tape w.drawn
  rw [re_self] at h0
  simp only [Sem.runT,h0,h]
  exact ih _ (hs _) { w with os:=os } _ (fun i o ho=>hw i o ho)
 | program k ih=>exact fun w es hw=>ih _ hs w es hw
 | mark m k ih=>exact fun w es hw=>ih hs.2.2 w _ hw
 | halt h=>exact fun w es _=>⟨0,rfl,rfl,fun τ d _=>rfl⟩
end
end Go.Tm
namespace Go.Tm
open Go
def okCall (r:Bool) (c:Call):Bool :=
 match c.callee with
 | .builtin b=>okBuiltin b && (r || !isRecover b)
 | _=>true
def noRoomB:Operand→Bool
 | .const (.int _ n)=>n == 0
 | _=>false
def okT (t:TypeId):Bool:=decide (t < 230) && t != 173
def okOp (r:Bool):Op→Bool
 | .ready _ | .waits _ | .entry _ | .mapEntry .. | .entryStore .. | .select .. => false
 | .makeChan _ x=>noRoomB x
 | .convert s d _=>okT s && okT d
 | .go c=>r && okCall false c
 | .call c=>okCall r c
 | .defer c=>okCall false c
 | .send .. | .recv .. => r
 | _=>true
def okCode (r:Bool):Code→Bool
 | .region _ ops _=>ops.all fun o=>okOp r o.op
 | .seq a b | .cond _ a b=>okCode r a && okCode r b
 | .block _ c | .loop c=>okCode r c
 | .rangeFunc _ _ a b=>okCode false a && okCode false b
 | .scope c=>okCode r c
 | .goto _=>false
 | _=>true
abbrev OC:Code→Prop:=fun c=>okCode false c=true
theorem okCall_mono {r:Bool} {c:Call} (h:okCall false c=true):okCall r c=true:=by
 unfold okCall at h ⊢
 split <;> simp_all
theorem okOp_mono {r:Bool} {o:Op} (h:okOp false o=true):okOp r o=true:=by
 cases o <;> first | exact h | exact okCall_mono h | cases h
theorem okCode_mono {r:Bool}:∀ {c:Code},okCode false c=true→okCode r c=true
 | .region _ ops _,h=>by
  simp only [okCode,Array.all_eq_true] at h ⊢
  exact fun i hi=>okOp_mono (h i hi)
 | .seq a b,h=>by
  simp only [okCode,Bool.and_eq_true] at h ⊢
  exact ⟨okCode_mono h.1,okCode_mono h.2⟩
 | .cond _ a b,h=>by
  simp only [okCode,Bool.and_eq_true] at h ⊢
  exact ⟨okCode_mono h.1,okCode_mono h.2⟩
 | .block _ c,h=>by
  simp only [okCode] at h ⊢
  exact okCode_mono h
 | .loop c,h=>by
  simp only [okCode] at h ⊢
  exact okCode_mono h
 | .rangeFunc _ _ a b,h=>h
 | .scope c,h=>by
  simp only [okCode] at h ⊢
  exact okCode_mono h
 | .goto _,h=>h
 | .skip,_ | .label _,_ | .ret,_ | .exit _,_ | .refuse _,_=>rfl
def ItemOk (r:Bool):Item→Prop
 | .code c | .inLoop c=>okCode r c=true
 | .inRegion ops _=>(ops.all fun o=>okOp r o.op)=true
 | .call .. | .extern .. => False
 | _=>True
structure FrOk (fr:Frame):Prop where
 todo:∀ x∈fr.todo,ItemOk fr.roundOf.isNone x
 defers:∀ d∈fr.defers,OkDef d
 kind:fr.kind=.normal∨fr.kind=.deferred
def Stk (f0:FuncId):Frame→List Frame→Prop
 | fr,[]=>FrOk fr∧fr.roundOf=none∧fr.kind=.normal∧fr.fn=f0
 | fr,c :: cs=>FrOk fr∧Stk f0 c cs
def Sok (P:Program) (S:FuncId→Prop):Prop :=
 ∀ f,S f→FnOk P f∧∀ fn c,P.funcs[f]? = some fn→fn.body=some c→okCode true c=true
section
variable {P:Program} {S:FuncId→Prop} {f0:FuncId}
theorem Stk.ok {fr:Frame} {mine:List Frame} (h:Stk f0 fr mine):FrOk fr:=by cases mine <;> exact h.1
theorem Stk.set {fr fr':Frame} {mine:List Frame} (h:Stk f0 fr mine) (h':FrOk fr') (hr:fr'.roundOf=fr.roundOf) (hk:fr'.kind=fr.kind) (hf:fr'.fn=fr.fn):Stk f0 fr' mine:=by
 cases mine with
 | nil=>exact ⟨h',hr ▸ h.2.1,hk ▸ h.2.2.1,hf ▸ h.2.2.2⟩
 | cons c cs=>exact ⟨h',h.2⟩
theorem Stk.push {fr fr':Frame} {mine:List Frame} (h:Stk f0 fr mine) (h':FrOk fr'):Stk f0 fr' (fr :: mine):=⟨h',h⟩
theorem frOk_finish {fr:Frame} (h:FrOk fr) (v:Value):FrOk (fr.finish v)∧(fr.finish v).roundOf=fr.roundOf∧(fr.finish v).kind=fr.kind∧(fr.finish v).fn=fr.fn:=by
 unfold Frame.finish
 split
 ·rename_i ops i rest k hk
  refine ⟨⟨?_,h.defers,h.kind⟩,rfl,rfl,rfl⟩
  have ht:=h.todo
  rw [hk] at ht
  intro x hx
  rcases List.mem_cons.1 hx with rfl | hx
  ·exact ht (.inRegion ops (i :: rest)) (by simp)
  ·exact ht x (by simp [hx])
 ·rename_i l k hk
  refine ⟨⟨?_,h.defers,h.kind⟩,rfl,rfl,rfl⟩
  have ht:=h.todo
  rw [hk] at ht
  intro x hx
  rcases List.mem_cons.1 hx with rfl | hx
  ·trivial
  ·exact ht x (by simp [hx])
 ·rename_i k hk
  refine ⟨⟨?_,h.defers,h.kind⟩,rfl,rfl,rfl⟩
  have ht:=h.todo
  rw [hk] at ht
  exact fun x hx=>ht x (by simp [hx])
 ·rename_i d wr resume saved k hk
  have ht:=h.todo
  rw [hk] at ht
  exact (ht (.call d wr resume saved) (by simp)).elim
 ·rename_i row args k hk
  have ht:=h.todo
  rw [hk] at ht
  exact (ht (.extern row args) (by simp)).elim
 ·exact ⟨h,rfl,rfl,rfl⟩
theorem frOk_raise {fr:Frame} (h:FrOk fr) (l:List PanicEntry):FrOk (fr.raise l)∧(fr.raise l).roundOf=fr.roundOf∧(fr.raise l).kind=fr.kind∧(fr.raise l).fn=fr.fn:=by
 unfold Frame.raise
 split <;> exact ⟨⟨h.todo,h.defers,h.kind⟩,rfl,rfl,rfl⟩
theorem frOk_enter (hS:Sok P S) {f:FuncId} (hf:S f) (args:Array Value) {k:CallKind} (hk:k=.normal∨k=.deferred):FrOk (Frame.enter P f args k):=by
 refine ⟨?_,by simp [Frame.enter],hk⟩
 intro x hx
 simp only [Frame.enter,List.mem_singleton] at hx
 subst hx
 show okCode true _=true
 cases hfn:P.funcs[f]? with
 | none=>rfl
 | some fn =>
  show okCode true (fn.body.getD _)=true
  cases hb:fn.body with
  | none=>rfl
  | some c=>exact (hS f hf).2 fn c hfn hb
theorem frOk_round {l:Nat} {f:FuncId} {tmps:Array Value} {assign body:Code} (ha:OC assign) (hb:OC body) {k:CallKind} (hk:k=.normal∨k=.deferred):FrOk (Frame.round l f tmps assign body k):=by
 refine ⟨?_,by simp [Frame.round],hk⟩
 intro x hx
 simp only [Frame.round,List.mem_cons,List.not_mem_nil,or_false] at hx
 rcases hx with rfl | rfl | rfl
 ·exact ha
 ·trivial
 ·exact hb
def Loc (P:Program) {α:Type} (s:Sem α) (w:World) (es:Array Event):Prop :=
 ∃ j,(s.runT P w es).1.world.drawn=w.drawn+j∧(s.runT P w es).1.world.tape=w.tape∧∀ τ d,Agree w j τ d→s.runT P (w.re τ d) es=((s.runT P w es).1.re τ (d+j),(s.runT P w es).2)
structure Fine (P:Program) {α:Type} (φ:α→Prop) (s:Sem α) (w:World) (es:Array Event):Prop where
 facts:Facts OC φ es w.heap.size (s.runT P w es)
 loc:Loc P s w es
theorem fine_tame {α:Type} {φ:α→Prop} {s:Sem α} (h:Tame OC P φ s) {w:World} (hw:HeapOk OC w) (es:Array Event):Fine P φ s w es :=
 ⟨runT_facts s h w es es _ hw (fun _ hx=>.inl hx) (Nat.le_refl _),runT_local s h w es hw⟩
theorem runT_bind_ok {α β:Type} {s:Sem α} {f:α→Sem β} {w:World} {es:Array Event} {a:α} {w':World} {es':Array Event} (h:s.runT P w es=(.ok a w',es')):(s >>= f).runT P w es=(f a).runT P w' es':=by
 show Sem.runT P (Sem.bind s f) w es=_;rw [Sem.runT_bind',h]
theorem runT_bind_halt {α β:Type} {s:Sem α} {f:α→Sem β} {w:World} {es:Array Event} {a:Halt} {w':World} {es':Array Event} (h:s.runT P w es=(.halt a w',es')):(s >>= f).runT P w es=(.halt a w',es'):=by
 show Sem.runT P (Sem.bind s f) w es=_;rw [Sem.runT_bind',h]
theorem fine_bind {α β:Type} {φ:α→Prop} {ψ:β→Prop} {s:Sem α} {f:α→Sem β} {w:World} {es:Array Event} (h:Fine P φ s w es)
  (hf:∀ a w' es',HeapOk OC w'→φ a→s.runT P w es=(.ok a w',es')→Fine P ψ (f a) w' es'):Fine P ψ (s >>= f) w es:=by
 obtain ⟨hfa,j,hd,ht,hl⟩:=h
 cases hr:s.runT P w es with
 | mk r es' =>
  cases r with
  | halt a w' =>
   rw [hr] at hfa hd ht hl
   refine ⟨?_,j,?_,?_,fun τ d ha=>?_⟩
   ·rw [runT_bind_halt hr];exact ⟨hfa.nd,hfa.heap,hfa.size,hfa.leaf⟩
   ·rw [runT_bind_halt hr];exact hd
   ·rw [runT_bind_halt hr];exact ht
   ·rw [runT_bind_halt hr,runT_bind_halt (hl τ d ha)];rfl
  | ok a w' =>
   rw [hr] at hfa hd ht hl
   obtain ⟨hfb,j',hd',ht',hl'⟩:=hf a w' es' hfa.heap hfa.leaf hr
   refine ⟨?_,j+j',?_,?_,fun τ d ha=>?_⟩
   ·rw [runT_bind_ok hr]
    refine ⟨fun x hx=>?_,hfb.heap,Nat.le_trans hfa.size hfb.size,hfb.leaf⟩
    rcases hfb.nd x hx with h1 | h1
    ·exact hfa.nd x h1
    ·exact .inr h1
   ·rw [runT_bind_ok hr,hd'];have:w'.drawn=w.drawn+j:=hd;omega
   ·rw [runT_bind_ok hr,ht'];exact ht
   ·rw [runT_bind_ok hr,runT_bind_ok (hl τ d (ha.mono (by omega)))]
    have h2:=hl' τ (d+j) (fun i hi q=>by
     have hd1:w'.drawn=w.drawn+j:=hd
     have ht1:w'.tape=w.tape:=ht
     rw [hd1,ht1,show d+j+i=d+(j+i) from by omega,ha (j+i) (by omega) q,show w.drawn+(j+i)=w.drawn+j+i from by omega])
    rw [show d+(j+j')=d+j+j' from by omega]
    exact h2
theorem runT_run {α:Type} {s:Sem α} {w:World} {es:Array Event} {r:Result α} {es':Array Event} (h:s.runT P w es=(r,es')):s.run P w=r:=by
 have:=Sem.runT_eq P s w es
 rw [h] at this
 exact (congrArg Prod.fst this).symm
def TgtOk (r:Bool):Target→Prop
 | .builtin b .. => okBuiltin b=true∧(isRecover b=true→r=true)
 | .coroexit _=>False
 | _=>True
theorem fine_callMethod (hS:Sok P S) {r:Bool} {recv:Value} {name:String} {args:Array Value} {w:World} {es:Array Event} (hw:HeapOk OC w)
  (hl:∀ u v f x w',recv=.iface u v→(method (P.types.size+Made.depth) u v name).run P w=.ok (f,x) w'→S f):Fine P (NextOk OC S r) (callMethod recv name args) w es:=by
 cases recv with
 | iface u v =>
  show Fine P _ (program >>= fun p=>method (p.types.size+Made.depth) u v name >>= fun x=>callFunc x.1 (#[x.2] ++ args)) w es
  refine fine_bind (fine_tame (φ:=fun p=>p=P) (by exact rfl) hw es) fun p w1 es1 hw1 hp h1=>?_
  subst hp
  have e1:w1=w:=by
   have:=runT_run h1
   simp [program,Sem.run] at this
   exact this.symm
  subst e1
  refine fine_bind (fine_tame (φ:=fun _=>True) (Calm.t OC _) hw1 es1) fun x w2 es2 hw2 _ h2=>?_
  exact fine_tame (tame_callFunc (hS _ (hl u v x.1 x.2 w2 rfl (runT_run h2))).1 (hl u v x.1 x.2 w2 rfl (runT_run h2)) _) hw2 es2
 | nilIface=>exact fine_tame (by unfold callMethod;exact tame_runtimePanic _) hw es
 | _=>exact fine_tame (by unfold callMethod;exact tame_stuck) hw es
theorem fine_invoke (hS:Sok P S) {r:Bool} {t:Target} {args:Array Value} {w:World} {es:Array Event} (ht:TgtOk r t) (hw:HeapOk OC w) (hl:∀ f,t.leads P w args=some f→S f) :
  Fine P (NextOk OC S r) (invoke t args) w es:=by
 unfold invoke
 cases t with
 | nil=>exact fine_tame (tame_runtimePanic _) hw es
 | builtin b ats ty cs=>exact fine_tame (tame_builtin ht.1 ht.2 _ _ _ _) hw es
 | coroexit c=>exact ht.elim
 | collected b=>exact fine_tame tame_stuck hw es
 | fn g captured =>
  cases g with
  | func f=>exact fine_tame (tame_callFunc (hS f (hl f rfl)).1 (hl f rfl) _) hw es
  | yield l=>exact fine_tame tame_yield hw es
  | via u path f pointer =>
   dsimp only
   cases h0:args[0]? with
   | none=>exact fine_tame tame_stuck hw es
   | some x =>
    refine fine_bind (fine_tame (φ:=fun _=>True) (Calm.t OC _) hw es) fun y w1 es1 hw1 _ _=>?_
    exact fine_tame (tame_callFunc (hS f (hl f rfl)).1 (hl f rfl) _) hw1 es1
  | method name =>
   dsimp only
   cases h0:args[0]? with
   | none=>exact fine_tame tame_stuck hw es
   | some recv =>
    refine fine_callMethod hS hw fun u v f x w' hr hm=>hl f ?_
    subst hr
    simp [Target.leads,h0,hm]
  | methodOf u name =>
   dsimp only
   cases h0:args[0]? with
   | none=>exact fine_tame tame_stuck hw es
   | some receiver =>
    refine fine_bind (fine_tame (φ:=fun _=>True) (Calm.t OC _) hw es) fun y w1 es1 hw1 _ h1=>?_
    have hrun:=runT_run h1
    simp only [underlying,Sem.run_bind,run_program,Result.andThen_ok] at hrun
    cases hu:P.underlying u with
    | none=>rw [hu] at hrun;cases hrun
    | some desc =>
     rw [hu] at hrun
     cases hrun
     have hl':∀ u' v f x w',(match y with | TypeDesc.interface _=>receiver | _=>Value.iface u receiver)=Value.iface u' v→(method (P.types.size+Made.depth) u' v name).run P w=.ok (f,x) w'→S f:=by
      intro u' v f x w' hr hm
      refine hl f ?_
      simp only [Target.leads,h0,hu,Option.map_some]
      cases y <;> simp_all
     cases y <;> exact fine_callMethod hS hw1 hl'
theorem tame_resolve {r:Bool} {ρ:Operand→Value} {c:Call} {t:TypeId} (hc:okCall r c=true):Tame OC P (fun d=>TgtOk r d.target) (resolve ρ c t):=by
 unfold resolve
 unfold okCall at hc
 cases hcc:c.callee with
 | builtin b =>
  rw [hcc] at hc
  simp only [Bool.and_eq_true,Bool.or_eq_true,Bool.not_eq_true'] at hc
  exact ⟨hc.1,fun h=>hc.2.resolve_right (by simp [h])⟩
 | value f =>
  show Tame OC P _ (Deferred.ofValue _ _)
  unfold Deferred.ofValue
  split <;> trivial
 | invoke x n=>trivial
theorem okDef_tgt {d:Deferred} (h:OkDef d):TgtOk false d.target:=by
 unfold OkDef at h
 unfold TgtOk
 split <;> simp_all
theorem tgt_okDef {d:Deferred} (h:TgtOk false d.target):OkDef d:=by
 unfold OkDef
 unfold TgtOk at h
 split <;> simp_all
theorem fine_execOp (hS:Sok P S) {r:Bool} {ρ:Operand→Value} (hρ:∀ v,ρ (.const v)=v) {o:Oper} {w:World} {es:Array Event} (ho:okOp r o.op=true) (hw:HeapOk OC w)
  (hl:∀ f,o.about P w ρ=some f→S f):Fine P (NextOk OC S r) (execOp ρ o) w es:=by
 unfold Oper.about at hl
 unfold execOp
 cases hop:o.op <;> rw [hop] at ho hl <;> dsimp only [okOp] at ho <;> first
  | (cases ho;done)
  | exact fine_tame (tame_value inferInstance) hw es
  | exact fine_tame (tame_skip inferInstance) hw es
  | (refine fine_tame (φ:=NextOk OC S r) (tame_pure ?_) hw es;exact trivial)
  | skip
 case pick c a b =>
  refine fine_tame (tame_then (s:=asBool (ρ c)) inferInstance fun _=>tame_pure ?_) hw es
  trivial
 case send ch x=>exact fine_tame (tame_pure ⟨ho,rfl,_,rfl⟩) hw es
 case recv ty ch ok =>
  refine fine_tame (tame_then inferInstance fun d=>?_) hw es
  cases d <;> first | exact tame_stuck | skip
  exact tame_then inferInstance fun z=>tame_pure ⟨ho,rfl,_,rfl⟩
 case makeChan ty x =>
  refine fine_tame (tame_value ?_) hw es
  unfold noRoomB at ho
  split at ho
  ·rename_i k n
   have hn:n=0:=by simpa using ho
   subst hn
   rw [hρ]
   unfold Instr.makeChan
   show Calm (underlying ty >>= _)
   refine calm_bind inferInstance fun d=>?_
   cases d <;> first | exact (calm_stuck:Calm (stuck "MakeChan: channel type expected" : Sem Value)) | skip
   dsimp only
   refine calm_bind inferInstance fun ti=>?_
   split
   ·refine calm_bind ⟨fun C P=>tame_runtimePanic _⟩ fun _=>?_
    exact calm_bind (calm_newObj fun _=>⟨rfl,rfl,rfl⟩) fun _=>inferInstance
   ·exact calm_bind (calm_newObj fun _=>⟨rfl,rfl,rfl⟩) fun _=>inferInstance
  ·cases ho
 case nilCheck x =>
  refine fine_tame ?_ hw es
  dsimp only
  repeat' (first | exact tame_runtimePanic _ | (refine tame_then inferInstance fun _=>?_) | split | trivial)
 case call c =>
  refine fine_bind (fine_tame (tame_resolve ho) hw es) fun d w1 es1 hw1 hd h1=>?_
  have hrun:=runT_run h1
  refine fine_invoke hS hd hw1 fun f hf=>hl f ?_
  dsimp only
  rw [hrun]
  exact hf
 next c =>
  simp only [Bool.and_eq_true] at ho
  exact fine_tame (Tame.bind (ψ:=NextOk OC S r) (fun d _=>tame_pure (show NextOk OC S r (.spawn d) from ho.1)) (tame_resolve ho.2)) hw es
 next c =>
  refine fine_tame (Tame.bind (fun d hd=>tame_pure ?_) (tame_resolve ho)) hw es
  exact tgt_okDef hd
end
end Go.Tm
