/- A part of the proof: U1, U2, U4. -/
import Derived.Test.YtjjmefieegcddaaDoorA02
import Derived.Test.YtjjmefieegcddaaDoorA03
set_option linter.unusedVariables false
set_option linter.unusedSimpArgs false
namespace Go.Tm
open Go
structure Alike (w0:World) (E:Nat→Prop) (w w1:World):Prop where
 tape:w1.tape=w.tape
 drawn:w1.drawn=w.drawn
 os:w1.os=w.os
 output:w1.output=w.output
 size:w1.heap.size=w.heap.size
 size0:w0.heap.size≤w.heap.size
 obj:∀ i:Nat,(w1.heap[i]? = w.heap[i]?∧∀ o,strange o=true→w0.heap[i]? = some o→w1.heap[i]?≠some clean)∨∃ o,strange o=true∧w0.heap[i]? = some o∧w.heap[i]? = some o∧w1.heap[i]? = some clean
 same:∀ i:Nat,E i→w1.heap[i]? = w.heap[i]?
section
variable {w0 w w1:World} {E:Nat→Prop}
theorem Alike.at (h:Alike w0 E w w1) (i:Nat):w1.heap[i]? = w.heap[i]?∨∃ o,strange o=true∧w.heap[i]? = some o∧w1.heap[i]? = some clean :=
 (h.obj i).elim (fun x=>.inl x.1) fun ⟨o,a,_,b,c⟩=>.inr ⟨o,a,b,c⟩
theorem Alike.cell (h:Alike w0 E w w1) (a:Addr):w1.cell? a=w.cell? a:=by
 unfold World.cell?
 rcases h.at a.block with e | ⟨o,hs,e1,e2⟩
 ·rw [e]
 ·rw [e1,e2]
  cases o <;> simp [strange] at hs ⊢
theorem Alike.shape (h:Alike w0 E w w1) (r:Nat):w1.shape? r=w.shape? r:=by
 unfold World.shape?
 rcases h.at r with e | ⟨o,hs,e1,e2⟩
 ·rw [e]
 ·rw [e1,e2]
  cases o <;> simp [strange] at hs ⊢
theorem Alike.frozen (h:Alike w0 E w w1) (a:Addr):w1.frozen? a=w.frozen? a:=by
 unfold World.frozen?
 rcases h.at a.block with e | ⟨o,hs,e1,e2⟩
 ·rw [e]
 ·rw [e1,e2]
  cases o <;> simp [strange] at hs ⊢
theorem Alike.push (h:Alike w0 E w w1) (o:Obj):Alike w0 E { w with heap:=w.heap.push o } { w1 with heap:=w1.heap.push o }:=by
 have key:∀ i:Nat,w1.heap[i]? = w.heap[i]?→(w1.heap.push o)[i]? = (w.heap.push o)[i]?:=fun i e=>by simp only [Array.getElem?_push,h.size,e]
 refine ⟨h.tape,h.drawn,h.os,h.output,by simp [h.size],by simp only [Array.size_push];have:=h.size0;omega,fun i=>?_,fun i hi=>key i (h.same i hi)⟩
 by_cases hi:i < w.heap.size
 ·have e:∀ (a:Array Obj),a.size=w.heap.size→(a.push o)[i]? = a[i]?:=fun a ha=>by rw [Array.getElem?_push,if_neg (by omega)]
  simp only [e w.heap rfl,e w1.heap h.size]
  exact h.obj i
 ·refine .inl ⟨key i (by rw [Array.getElem?_eq_none (by rw [h.size];omega),Array.getElem?_eq_none (by omega)]),fun o' _ h0=>?_⟩
  have:=h.size0
  rw [Array.getElem?_eq_none (by omega)] at h0
  cases h0
theorem Alike.set (h:Alike w0 E w w1) (r:Nat) (o:Obj) (ho:o≠clean):Alike w0 E { w with heap:=w.heap.setIfInBounds r o } { w1 with heap:=w1.heap.setIfInBounds r o }:=by
 have key:∀ i:Nat,w1.heap[i]? = w.heap[i]?→(w1.heap.setIfInBounds r o)[i]? = (w.heap.setIfInBounds r o)[i]?:=fun i e=>by simp only [Array.getElem?_setIfInBounds,h.size,e]
 refine ⟨h.tape,h.drawn,h.os,h.output,by simp [h.size],by simp only [Array.size_setIfInBounds];exact h.size0,fun i=>?_,fun i hi=>key i (h.same i hi)⟩
 by_cases e:r=i
 ·subst e
  refine .inl ⟨by simp only [Array.getElem?_setIfInBounds,h.size,if_true],fun o' _ _=>?_⟩
  simp only [Array.getElem?_setIfInBounds,if_true]
  split
  ·exact fun x=>ho (Option.some.inj x)
  ·simp
 ·simp only [Array.getElem?_setIfInBounds,if_neg e]
  exact h.obj i
theorem Alike.modify (h:Alike w0 E w w1) (r:Nat) (f:Obj→Obj) (hf:∀ o,(∀ c e fr,o≠.cells c e fr)→f o=o) (hc:∀ c e fr,f (.cells c e fr)≠clean):Alike w0 E { w with heap:=w.heap.modify r f } { w1 with heap:=w1.heap.modify r f }:=by
 have key:∀ i:Nat,w1.heap[i]? = w.heap[i]?→(w1.heap.modify r f)[i]? = (w.heap.modify r f)[i]?:=fun i e=>by simp only [Array.getElem?_modify,e]
 refine ⟨h.tape,h.drawn,h.os,h.output,by simp [h.size],by simp only [Array.size_modify];exact h.size0,fun i=>?_,fun i hi=>key i (h.same i hi)⟩
 rcases h.obj i with ⟨e,hn⟩ | ⟨o,h1,h2,h3,h4⟩
 ·refine .inl ⟨key i e,fun o hs h0=>?_⟩
  have:=hn o hs h0
  simp only [Array.getElem?_modify]
  split
  ·cases hx:w1.heap[i]? with
   | none=>simp
   | some x =>
    rw [hx] at this
    simp only [Option.map_some]
    cases x <;> first
     | exact fun y=>hc _ _ _ (Option.some.inj y)
     | (rw [hf _ (by simp)];exact this)
  ·exact this
 ·have fo:f o=o:=hf o fun c e fr=>by cases o <;> simp [strange] at h1 ⊢
  have fc:f clean=clean:=hf _ fun c e fr=>by simp
  refine .inr ⟨o,h1,h2,?_,?_⟩
  ·simp only [Array.getElem?_modify,h3,Option.map_some,fo,ite_self]
  ·simp only [Array.getElem?_modify,h4,Option.map_some,fc,ite_self]
theorem Alike.seen (h:Alike w0 E w w1) (p:Program) (at_:Addr) (u:TypeId) (k:Addr) (atomic:Bool):w1.seen p at_ u k atomic=w.seen p at_ u k atomic:=by
 unfold World.seen
 rcases h.at at_.block with e | ⟨o,hs,e1,e2⟩
 ·rw [e]
 ·rw [e1,e2]
  cases o <;> simp [strange] at hs ⊢
theorem Alike.other (h:Alike w0 E w w1) {v v1:World} (hv:v.heap=w.heap) (hv1:v1.heap=w1.heap) (ht:v1.tape=v.tape) (hd:v1.drawn=v.drawn) (ho:v1.os=v.os) (hu:v1.output=v.output):Alike w0 E v v1 :=
 ⟨ht,hd,ho,hu,by rw [hv,hv1,h.size],by rw [hv];exact h.size0,by rw [hv,hv1];exact h.obj,by rw [hv,hv1];exact h.same⟩
theorem ask_heap {α:Type} (k:Ask α):∀ (w:World),(w.ask k).2.heap=w.heap∧(w.ask k).2.os=w.os∧(w.ask k).2.output=w.output∧(w.ask k).2.tape=w.tape:=by
 induction k with
 | done a=>exact fun w=>⟨rfl,rfl,rfl,rfl⟩
 | ask what range k ih =>
  intro w
  unfold World.ask
  dsimp only
  split
  ·exact ih _ w
  ·exact ih _ _
theorem ask_both {α:Type} (k:Ask α):∀ (w w1:World),w1.tape=w.tape→w1.drawn=w.drawn→(w1.ask k).1=(w.ask k).1∧(w1.ask k).2.drawn=(w.ask k).2.drawn:=by
 induction k with
 | done a=>exact fun w w1 _ h=>⟨rfl,h⟩
 | ask what range k ih =>
  intro w w1 ht hd
  unfold World.ask
  dsimp only
  split
  ·exact ih _ w w1 ht hd
  ·rw [ht,hd]
   exact ih _ _ _ (by first | exact ht | rfl) (by first | rfl | simp [hd])
theorem Alike.sys (h:Alike w0 E w w1) (c:Sys):(w1.sys c).1=(w.sys c).1∧Alike w0 E (w.sys c).2 (w1.sys c).2:=by
 unfold World.sys
 rw [h.os]
 obtain ⟨a1,a2⟩:=ask_both (Kernel.perform c w.os) w w1 h.tape h.drawn
 have b:=ask_heap (Kernel.perform c w.os) w
 have b1:=ask_heap (Kernel.perform c w.os) w1
 generalize w.ask (Kernel.perform c w.os)=x at a1 a2 b ⊢
 generalize w1.ask (Kernel.perform c w.os)=x1 at a1 a2 b1 ⊢
 obtain ⟨⟨r,os⟩,v⟩:=x
 obtain ⟨⟨r1,os1⟩,v1⟩:=x1
 cases a1
 cases r <;> first
  | exact ⟨rfl,h⟩
  | exact ⟨rfl,h.other b.1 b1.1 (b1.2.2.2.trans (h.tape.trans b.2.2.2.symm)) a2 rfl (b1.2.2.1.trans (h.output.trans b.2.2.1.symm))⟩
end
end Go.Tm
namespace Go.Tm
open Go
def EvA (e e1:Event):Prop:=e1=e∨∃ r,e.loc=.obj r∧e1=⟨.obj r,false,false⟩∧e.write=false
inductive EvL:List Event→List Event→Prop
 | nil:EvL [] []
 | cons {e e1:Event} {l l1:List Event}:EvA e e1→EvL l l1→EvL (e :: l) (e1 :: l1)
def EvR (es es1:Array Event):Prop:=EvL es.toList es1.toList
theorem EvL.refl:∀ (l:List Event),EvL l l
 | []=>.nil
 | _ :: l=>.cons (.inl rfl) (EvL.refl l)
theorem EvL.app {l l1 m m1:List Event} (h:EvL l l1) (k:EvL m m1):EvL (l ++ m) (l1 ++ m1):=by
 induction h with
 | nil=>exact k
 | cons a _ ih=>exact .cons a ih
theorem EvR.refl (es:Array Event):EvR es es:=EvL.refl _
theorem EvR.push {es es1:Array Event} (h:EvR es es1) {e e1:Event} (he:EvA e e1):EvR (es.push e) (es1.push e1):=by
 unfold EvR
 rw [Array.toList_push,Array.toList_push]
 exact EvL.app h (.cons he .nil)
theorem EvR.append {es es1 l l1:Array Event} (h:EvR es es1) (k:EvR l l1):EvR (es ++ l) (es1 ++ l1):=by
 unfold EvR
 rw [Array.toList_append,Array.toList_append]
 exact EvL.app h k
section
variable {q:Bool} {C:Code→Prop} {P:Program} {w0 w w1:World} {E:Nat→Prop}
def Both (C:Code→Prop) (w0:World) (E:Nat→Prop) {α:Type} (φ:α→Prop) (r r1:Result α × Array Event):Prop :=
 (∃ h w',r1.1=.halt h w'∧badH h) ∨
 (∃ a w' w1' es' es1',r=(.ok a w',es')∧r1=(.ok a w1',es1')∧φ a∧Alike w0 E w' w1'∧HeapOk C w1'∧EvR es' es1') ∨
 ∃ h w' w1' es' es1',r=(.halt h w',es')∧r1=(.halt h w1',es1')∧NoInit h∧Alike w0 E w' w1'∧HeapOk C w1'∧EvR es' es1'
theorem Alike.noCell (h:HeapOk C w1) (a:Addr) (s:String):badH (w1.noCell a s):=by
 unfold World.noCell
 cases hr:w1.heap[a.block]? with
 | none=>trivial
 | some o=>cases o <;> first | trivial | exact (h _ _ hr).elim
theorem Alike.load (h:Alike w0 E w w1) (hw:HeapOk C w1) (P:Program) (a:Addr) (at_:Bool):(∃ x,w1.farLoad P a at_=.ok x∧w.farLoad P a at_=.ok x)∨∃ e,w1.farLoad P a at_=.error e∧badH e:=by
 unfold World.farLoad
 rcases h.at a.block with e | ⟨o,hs,e1,e2⟩
 ·rw [e]
  cases hr:w.heap[a.block]? with
  | none=>exact .inr ⟨_,rfl,Alike.noCell hw _ _⟩
  | some o =>
   cases o <;> first
    | exact .inr ⟨_,rfl,Alike.noCell hw _ _⟩
    | (simp only [World.viewLoad,h.seen]
       generalize (bind (m:=Except String) _ _)=x
       cases x with
       | ok r=>exact .inl ⟨r,rfl,rfl⟩
       | error e=>exact .inr ⟨_,rfl,trivial⟩)
 ·rw [e2]
  exact .inr ⟨_,rfl,Alike.noCell hw _ _⟩
theorem Alike.vstore (h:Alike w0 E w w1) (p:Program) (at_:Addr) (u:TypeId) (k:Addr) (v:Value) (atomic:Bool) :
  (∃ e,w1.viewStore p at_ u k v atomic=.error e) ∨
  ∃ c e fr l,w.viewStore p at_ u k v atomic=.ok ({ w with heap:=w.heap.setIfInBounds at_.block (.cells c e fr) },l)∧w1.viewStore p at_ u k v atomic=.ok ({ w1 with heap:=w1.heap.setIfInBounds at_.block (.cells c e fr) },l):=by
 unfold World.viewStore
 simp only [h.seen]
 cases tight p p.depth u <;> cases w.seen p at_ u k atomic with
 | error e=>first | exact .inl ⟨_,rfl⟩
 | ok x =>
  first
  | exact .inl ⟨_,rfl⟩
  | (obtain ⟨c,e,fr,first,like,cells⟩:=x
     simp only [Bool.not_true,Bool.false_eq_true,if_false]
     cases v.bytes? with
     | none=>exact .inl ⟨_,rfl⟩
     | some bytes =>
      by_cases hb:some bytes.length≠like.bytes?.map (·.length)
      ·refine .inl ⟨ "memory seen as another type: a value of another size", ?_⟩
       simp only [bind,Except.bind,hb,if_true,ne_eq,not_false_eq_true]
       rfl
      ·simp only [bind,Except.bind,pure,Except.pure,hb,if_false]
       generalize hf:(List.foldlM _ c cells:Except String (Array Value))=r
       cases r with
       | error e=>exact .inl ⟨e,rfl⟩
       | ok c'=>exact .inr ⟨c',e,fr,_,rfl,rfl⟩)
theorem Alike.store (h:Alike w0 E w w1) (hw:HeapOk C w1) (P:Program) (a:Addr) (v:Value) (at_:Bool):(∃ e,w1.farStore P a v at_=.error e∧badH e)∨∃ w' w1' l,w.farStore P a v at_=.ok (w',l)∧w1.farStore P a v at_=.ok (w1',l)∧Alike w0 E w' w1'∧HeapOk C w1':=by
 unfold World.farStore
 rcases h.at a.block with e | ⟨o,hs,e1,e2⟩
 ·rw [e]
  cases hr:w.heap[a.block]? with
  | none=>exact .inl ⟨_,rfl,Alike.noCell hw _ _⟩
  | some o =>
   cases o <;> first
    | exact .inl ⟨_,rfl,Alike.noCell hw _ _⟩
    | (rename_i b u
       rcases h.vstore P b u a v at_ with ⟨e,he⟩ | ⟨c,e,fr,l,h1,h2⟩
       ·simp only [he]
        exact .inl ⟨_,rfl,trivial⟩
       ·simp only [h1,h2]
        exact .inr ⟨_,_,_,rfl,rfl,h.set _ _ (by simp),heapOk_set hw trivial⟩)
 ·rw [e2]
  exact .inl ⟨_,rfl,Alike.noCell hw _ _⟩
theorem runT_both {α:Type} {φ:α→Prop} (t:Sem α) (x:Shy q C P φ t):∀ (w w1:World) (es es1:Array Event),Alike w0 E w w1→HeapOk C w1→EvR es es1→Both C w0 E φ (t.runT P w es) (t.runT P w1 es1):=by
 induction t with
 | pure a=>exact fun w w1 es es1 h ho hv=>.inr (.inl ⟨a,w,w1,es,es1,rfl,rfl,x,h,ho,hv⟩)
 | halt h=>exact fun w w1 es es1 hw ho hv=>.inr (.inr ⟨h,w,w1,es,es1,rfl,rfl,x.2,hw,ho,hv⟩)
 | program k ih=>exact fun w w1 es es1 h ho hv=>ih _ x w w1 es es1 h ho hv
 | mark m k ih=>exact fun w w1 es es1 h ho hv=>ih x.2 w w1 _ _ h ho (hv.push (.inl rfl))
 | new o k ih =>
  intro w w1 es es1 h ho hv
  unfold Sem.runT
  rw [h.size]
  exact ih _ (x.2 _) _ _ es es1 (h.push o) (heapOk_push ho x.1) hv
 | shape r k ih =>
  intro w w1 es es1 h ho hv
  unfold Sem.runT
  rw [h.shape]
  exact ih _ (x _) w w1 es es1 h ho hv
 | frozen a k ih =>
  intro w w1 es es1 h ho hv
  unfold Sem.runT
  rw [h.frozen]
  exact ih _ (x _) w w1 es es1 h ho hv
 | freeze a n k ih =>
  intro w w1 es es1 h ho hv
  unfold Sem.runT
  have hf:=heapOk_freeze ho a n
  revert hf
  unfold World.freeze
  by_cases hn:n=0
  ·simp only [hn,if_true]
   exact fun hf=>ih x w w1 es es1 h ho hv
  ·simp only [hn,if_false]
   exact fun hf=>ih x _ _ es es1 (h.modify _ _ (fun o ho=>by cases o <;> simp at ho ⊢) (fun c e fr=>by simp)) hf hv
 | choose q k ih =>
  intro w w1 es es1 h ho hv
  unfold Sem.runT
  by_cases hq:q.forced=true
  ·rw [if_pos hq,if_pos hq]
   exact ih _ (x _) w w1 es es1 h ho hv
  ·rw [if_neg hq,if_neg hq,h.tape,h.drawn]
   exact ih _ (x _) _ _ es es1 (h.other rfl rfl (by first | exact h.tape | rfl) rfl h.os h.output) ho hv
 | getObj r k ih =>
  intro w w1 es es1 h ho hv
  unfold Sem.runT
  rcases h.at r with e | ⟨o,hs,e1,e2⟩
  ·rw [e]
   cases hr:w.heap[r]? with
   | none=>exact .inl ⟨_,w1,rfl,trivial⟩
   | some o =>
    have hoo:=ho r o (by rw [e,hr])
    cases o <;> first | exact .inl ⟨_,w1,rfl,trivial⟩ | exact ih _ (x.1 _ hoo) w w1 _ _ h ho (hv.push (.inl rfl))
  ·rw [e1,e2]
   have hx:=x.2 o hs
   have hi:k clean=k o→∀ es es1,EvR es es1→Both C w0 E φ ((k o).runT P w es) ((k o).runT P w1 es1):=fun hk es es1 hv=>ih o (hk ▸ x.1 clean trivial) w w1 es es1 h ho hv
   rcases hx with hd | he
   ·refine .inl ?_
    show ∃ h w',((k clean).runT P w1 _).1=.halt h w'∧badH h
    generalize k clean=t at hd
    cases t <;> first | exact hd.elim | exact ⟨_,w1,rfl,hd⟩
   ·cases o <;> simp only [strange,Bool.false_eq_true] at hs <;>
     (show Both C w0 E φ _ ((k clean).runT P w1 _)
      rw [he]
      exact hi he _ _ (hv.push (.inr ⟨r,rfl,rfl,rfl⟩)))
 | setObj r o k ih =>
  intro w w1 es es1 h ho hv
  unfold Sem.runT
  rcases h.at r with e | ⟨o',hs,e1,e2⟩
  ·rw [e]
   cases hr:w.heap[r]? with
   | none=>exact .inl ⟨_,w1,rfl,trivial⟩
   | some o'=>cases o' <;> first | exact .inl ⟨_,w1,rfl,trivial⟩ | exact ih x.2 _ _ _ _ (h.set r o x.1.2) (heapOk_set ho x.1.1) (hv.push (.inl rfl))
  ·rw [e1,e2]
   cases o' <;> simp only [strange,Bool.false_eq_true] at hs <;> exact ih x.2 _ _ _ _ (h.set r o x.1.2) (heapOk_set ho x.1.1) (hv.push (.inl rfl))
 | sys c k ih =>
  intro w w1 es es1 h ho hv
  unfold Sem.runT
  obtain ⟨e,h'⟩:=h.sys c
  rw [e]
  refine ih _ (x.2 _) _ _ _ _ h' ?_ (hv.push (.inl rfl))
  have:(w1.sys c).2.heap=w1.heap:=by
   unfold World.sys
   have b:=ask_heap (Kernel.perform c w1.os) w1
   generalize w1.ask (Kernel.perform c w1.os)=y at b
   obtain ⟨⟨r,os⟩,v⟩:=y
   cases r <;> first | rfl | exact b.1
  intro i o hi
  rw [this] at hi
  exact ho i o hi
 | load m a k ih =>
  intro w w1 es es1 h ho hv
  unfold Sem.runT
  rw [h.cell]
  cases hc:w.cell? a with
  | some v=>exact ih v (x v) w w1 _ _ h ho (hv.push (.inl rfl))
  | none =>
   rcases h.load ho P a (m == .atomic) with ⟨y,e1,e2⟩ | ⟨e,he,hb⟩
   ·simp only [e1,e2]
    exact ih _ (x _) w w1 _ _ h ho (hv.append (EvR.refl _))
   ·simp only [he]
    exact .inl ⟨_,w1,rfl,hb⟩
 | store m a v k ih =>
  intro w w1 es es1 h ho hv
  have hst:=h.store ho P a v (m == .atomic)
  cases v <;> first
   | exact .inl ⟨_,w1,rfl,trivial⟩
   | (unfold Sem.runT
      rw [h.cell]
      cases hc:w.cell? a with
      | some v =>
       simp only [h.frozen]
       by_cases hf:w.frozen? a=true
       ·simp only [hf,if_true]
        exact .inl ⟨_,w1,rfl,trivial⟩
       ·simp only [hf,if_false]
        exact ih x _ _ _ _ (h.modify _ _ (fun o ho=>by cases o <;> simp at ho ⊢) (fun c e fr=>by simp)) (heapOk_setCell ho _ _) (hv.push (.inl rfl))
      | none =>
       rcases hst with ⟨e,he,hb⟩ | ⟨w',w1',l,e1,e2,h',ho'⟩
       ·simp only [he]
        exact .inl ⟨_,w1,rfl,hb⟩
       ·simp only [e1,e2]
        exact ih x _ _ _ _ h' ho' (hv.append (EvR.refl _)))
end
end Go.Tm
namespace Go.Tm
open Go
structure Prg (P:Program):Prop where
 shy:∀ f,FnShy P f
 code:∀ (f:FuncId) (fn:Func) (c:Code),P.funcs[f]? = some fn→fn.body=some c→okCode true c=true
 norace:∀ f:FuncId,(P.funcs[f]?).any (·.norace)=false
 safe:∀ t,okT t=true→P.underlying t≠some .unsafePointer
section
variable {P:Program} {r:Bool} {C:Code→Prop}
theorem shy_underlying {t:TypeId}:Shy true C P (fun d=>P.underlying t=some d) (underlying t):=by
 unfold underlying
 show Shy true C P (fun d=>P.underlying t=some d) (match P.underlying t with | some d=>pure d | none=>_)
 cases h:P.underlying t with
 | none=>exact ⟨fun _=>trivial,trivial⟩
 | some d=>exact rfl
theorem shy_convert (hP:Prg P) {s t:TypeId} {x:Value} (hs:okT s=true) (ht:okT t=true):Shy true OC P (fun _=>True) (convert s t x):=by
 unfold convert
 refine Shy.bind (fun d hd=>Shy.bind (fun d' hd'=>?_) shy_underlying) shy_underlying
 split <;> first
  | exact Shyc.t _ _
  | (refine shy_then inferInstance fun _=>?_;split <;> exact Shyc.t _ _)
  | exact (hP.safe _ hs hd).elim
  | exact (hP.safe _ ht hd').elim
theorem shy_callMethod (hP:Prg P) {recv:Value} {name:String} {args:Array Value}:Shy true OC P (NextSh OC r) (callMethod recv name args):=by
 cases recv with
 | iface u v =>
  show Shy true _ P _ (program >>= fun p=>method (p.types.size+Made.depth) u v name >>= fun x=>callFunc x.1 (#[x.2] ++ args))
  exact shy_then inferInstance fun p=>shy_then inferInstance fun x=>shy_callFunc (hP.shy _) _
 | nilIface=>unfold callMethod;exact shy_runtimePanic _
 | _=>unfold callMethod;exact shy_stuckφ
theorem shy_invoke (hP:Prg P) {t:Target} {args:Array Value} (ht:TgtOk r t):Shy true OC P (NextSh OC r) (invoke t args):=by
 unfold invoke
 cases t with
 | nil=>exact shy_runtimePanic _
 | builtin b ats ty cs=>exact shy_builtin ht.1 ht.2 _ _ _ _
 | coroexit c=>exact ht.elim
 | collected b=>exact shy_stuckφ
 | fn g captured =>
  cases g with
  | func f=>exact shy_callFunc (hP.shy f) _
  | yield l=>exact shy_yield
  | via u path f pointer =>
   dsimp only
   cases args[0]? with
   | none=>exact shy_stuckφ
   | some x=>exact shy_then inferInstance fun y=>shy_callFunc (hP.shy f) _
  | method name =>
   dsimp only
   cases args[0]? with
   | none=>exact shy_stuckφ
   | some x=>exact shy_callMethod hP
  | methodOf u name =>
   dsimp only
   cases args[0]? with
   | none=>exact shy_stuckφ
   | some x =>
    refine shy_then inferInstance fun y=>?_
    cases y <;> exact shy_callMethod hP
theorem shy_resolve {ρ:Operand→Value} {c:Call} {t:TypeId} (hc:okCall r c=true):Shy true OC P (fun d=>TgtOk r d.target) (resolve ρ c t):=by
 unfold resolve
 unfold okCall at hc
 cases hcc:c.callee with
 | builtin b =>
  rw [hcc] at hc
  simp only [Bool.and_eq_true,Bool.or_eq_true,Bool.not_eq_true'] at hc
  exact ⟨hc.1,fun h=>hc.2.resolve_right (by simp [h])⟩
 | value f =>
  show Shy true OC P _ (Deferred.ofValue _ _)
  unfold Deferred.ofValue
  split <;> first | trivial | exact ⟨fun _=>trivial,trivial⟩
 | invoke x n=>trivial
theorem shy_execOp (hP:Prg P) {ρ:Operand→Value} (hρ:∀ v,ρ (.const v)=v) {o:Oper} (ho:okOp r o.op=true):Shy true OC P (NextSh OC r) (execOp ρ o):=by
 unfold execOp
 cases hop:o.op <;> rw [hop] at ho <;> dsimp only [okOp] at ho <;> first
  | (cases ho;done)
  | exact shy_value inferInstance
  | exact shy_skip inferInstance
  | exact shy_pureφ trivial
  | skip
 case convert s t x =>
  simp only [Bool.and_eq_true] at ho
  exact Shy.bind (ψ:=NextSh OC r) (fun v _=>shy_pureφ (φ:=NextSh OC r) (a:=.value v) trivial) (shy_convert hP ho.1 ho.2)
 case pick c a b=>exact shy_then (s:=asBool (ρ c)) inferInstance fun _=>shy_pureφ trivial
 case recv ty ch ok =>
  refine shy_then inferInstance fun d=>?_
  cases d <;> first | exact shy_stuckφ | exact shy_then inferInstance fun z=>shy_pureφ trivial
 case makeChan ty x =>
  refine shy_value ?_
  unfold noRoomB at ho
  split at ho
  ·rename_i k n
   have hn:n=0:=by simpa using ho
   subst hn
   rw [hρ]
   unfold Instr.makeChan
   show Shyc (underlying ty >>= _)
   refine shy_bind inferInstance fun d=>?_
   cases d <;> first | exact (shy_stuck:Shyc (stuck "MakeChan: channel type expected" : Sem Value)) | skip
   dsimp only
   refine shy_bind inferInstance fun ti=>?_
   split
   ·refine shy_bind ⟨fun C P=>shy_runtimePanic _⟩ fun _=>?_
    exact shy_bind (shy_newObj fun _=>⟨rfl,rfl,rfl⟩) fun _=>inferInstance
   ·exact shy_bind (shy_newObj fun _=>⟨rfl,rfl,rfl⟩) fun _=>inferInstance
  ·cases ho
 case nilCheck x =>
  dsimp only
  repeat' (first | exact shy_runtimePanic _ | (refine shy_then inferInstance fun _=>?_) | split | trivial | exact ⟨fun _=>trivial,trivial⟩)
 case call c=>exact Shy.bind (fun d hd=>shy_invoke hP hd) (shy_resolve ho)
 next c =>
  simp only [Bool.and_eq_true] at ho
  exact Shy.bind (fun d hd=>shy_pureφ (φ:=NextSh OC r) (a:=.spawn d) (tgt_okDef hd)) (shy_resolve ho.2)
 next c=>exact Shy.bind (fun d hd=>shy_pureφ (φ:=NextSh OC r) (a:=.defer d) (tgt_okDef hd)) (shy_resolve ho)
end
structure FrI (fr:Frame):Prop where
 todo:∀ x∈fr.todo,ItemOk fr.roundOf.isNone x
 defers:∀ d∈fr.defers,OkDef d
structure GI (g:Goroutine):Prop where
 fr:FrI g.frame
 callers:∀ c∈g.callers,FrI c
section
variable {P:Program} {fr:Frame} {callers:List Frame} {dy:Option Dying}
theorem FrI.ok (h:FrI fr):FrOk { fr with kind:=.normal }:=⟨h.todo,h.defers,.inl rfl⟩
theorem finish_kind (fr:Frame) (v:Value):({ fr with kind:=.normal }:Frame).finish v={ fr.finish v with kind:=.normal }:=by
 unfold Frame.finish
 split <;> rename_i h <;> dsimp only at h <;> simp only [h]
theorem raise_kind (fr:Frame) (l:List PanicEntry):({ fr with kind:=.normal }:Frame).raise l={ fr.raise l with kind:=.normal }:=by
 unfold Frame.raise
 dsimp only
 split <;> rfl
theorem frI_finish (h:FrI fr) (v:Value):FrI (fr.finish v):=by
 have:=(frOk_finish h.ok v).1
 rw [finish_kind] at this
 exact ⟨this.todo,this.defers⟩
theorem frI_raise (h:FrI fr) (l:List PanicEntry):FrI (fr.raise l):=by
 have:=(frOk_raise h.ok l).1
 rw [raise_kind] at this
 exact ⟨this.todo,this.defers⟩
theorem frI_mode (h:FrI fr) (m:FrameMode):FrI { fr with mode:=m }:=⟨h.todo,h.defers⟩
theorem frI_enter (hP:Prg P) (f:FuncId) (args:Array Value) (k:CallKind):FrI (Frame.enter P f args k):=by
 refine ⟨?_,by simp [Frame.enter]⟩
 intro x hx
 simp only [Frame.enter,List.mem_singleton] at hx
 subst hx
 show okCode true _=true
 cases hfn:P.funcs[f]? with
 | none=>rfl
 | some fn =>
  show okCode true (fn.body.getD _)=true
  cases hb:fn.body with
  | none=>rfl
  | some c=>exact hP.code f fn c hfn hb
theorem frI_round {l:Nat} {f:FuncId} {tmps:Array Value} {assign body:Code} (ha:OC assign) (hb:OC body) (k:CallKind):FrI (Frame.round l f tmps assign body k) :=
 ⟨(frOk_round ha hb (.inl rfl):FrOk (Frame.round l f tmps assign body .normal)).todo,(frOk_round ha hb (.inl rfl):FrOk (Frame.round l f tmps assign body .normal)).defers⟩
theorem frI_todo (h:FrI fr) {todo:List Item} (ht:∀ x∈todo,ItemOk fr.roundOf.isNone x):FrI { fr with todo }:=⟨ht,h.defers⟩
theorem cons_frI (h:FrI fr) (hc:∀ c∈callers,FrI c):∀ c∈fr :: callers,FrI c:=fun c h'=>(List.mem_cons.1 h').elim (fun e=>e ▸ h) (hc c)
theorem frI_recover:∀ (callers:List Frame) (fr:Frame) (v:Value) (cs:List Frame),(∀ c∈callers,FrI c)→tryRecover fr callers=some (v,cs)→∀ c∈cs,FrI c
 | [],fr,v,cs,_,h=>by
  unfold tryRecover at h
  split at h <;> simp_all
 | c :: rest,fr,v,cs,hc,h=>by
  have hr:∀ x∈rest,FrI x:=fun x hx=>hc x (by simp [hx])
  have h0:FrI c:=hc c (by simp)
  unfold tryRecover at h
  split at h
  ·rename_i c' rest' e1 e2
   cases e2
   split at h
   ·cases h
    exact cons_frI (frI_mode h0 _) hr
   ·cases h
  ·rename_i c' rest' e1 e2
   cases e2
   cases ht:tryRecover c rest with
   | none=>rw [ht] at h;cases h
   | some x =>
    obtain ⟨v2,cs2⟩:=x
    rw [ht] at h
    cases h
    exact cons_frI h0 (frI_recover rest c _ cs2 hr ht)
  ·cases h
end
theorem seen_list {P:Program} (hP:∀ f:FuncId,(P.funcs[f]?).any (·.norace)=false) (fn:FuncId) (es:Array Event) :
  (seen P fn es).toList=es.toList.filter fun e=>match e.loc with | .mark (.extern _)=>false | _=>true:=by
 unfold seen
 dsimp only
 rw [hP fn,← Array.foldl_toList]
 have key:∀ (l:List Event) (kept:Array Event),
   (l.foldl (fun (x:Bool × Array Event) e=>match x with | (q,kept)=>match e.loc with | .mark (.extern f)=>((P.funcs[f]?).any (·.norace),kept) | _=>(q,if q && !e.sync then kept else kept.push e)) (false,kept)).2.toList
    = kept.toList ++ l.filter fun e=>match e.loc with | .mark (.extern _)=>false | _=>true:=by
  intro l
  induction l with
  | nil=>exact fun kept=>by simp
  | cons e l ih =>
   intro kept
   rw [List.foldl_cons,List.filter_cons]
   dsimp only
   split
   ·rw [hP]
    exact ih kept
   ·simp only [Bool.false_and,Bool.false_eq_true,if_false,if_true]
    rw [ih (kept.push e)]
    simp
 exact (key es.toList #[]).trans (by simp)
theorem seen_evR {P:Program} (hP:∀ f:FuncId,(P.funcs[f]?).any (·.norace)=false) (fn:FuncId) {es es1:Array Event} (h:EvR es es1):EvR (seen P fn es) (seen P fn es1):=by
 unfold EvR
 rw [seen_list hP,seen_list hP]
 unfold EvR at h
 generalize es.toList=l at h
 generalize es1.toList=l1 at h
 induction h with
 | nil=>exact .nil
 | @cons e e1 l l1 a _ ih =>
  rcases a with rfl | ⟨r,h1,rfl,h2⟩
  ·rw [List.filter_cons,List.filter_cons]
   by_cases hq:(match e1.loc with | .mark (.extern _)=>false | _=>true)=true
   ·rw [if_pos hq,if_pos hq]
    exact .cons (.inl rfl) ih
   ·rw [if_neg hq,if_neg hq]
    exact ih
  ·rw [List.filter_cons,List.filter_cons]
   simp only [h1,if_true]
   exact .cons (.inr ⟨r,h1,rfl,h2⟩) ih
def bad (o:Outcome):Prop:=∀ v,o≠.done v
inductive LockG (w0:World) (E:Nat→Prop):GStep→GStep→Prop
 | lost {s:GStep} {o:Outcome} {w:World} {es:Array Event}:bad o→LockG w0 E s (.ended o w es)
 | go {g:Goroutine} {w w1:World} {es es1:Array Event}:GI g→g.offers=none→Alike w0 E w w1→HeapOk OC w1→EvR es es1→LockG w0 E (.go g w es) (.go g w1 es1)
 | comm {g:Goroutine} {c:Array CommCase} {b:Bool} {sh:CommShape} {w w1:World} {es es1:Array Event}:GI g→g.offers=none→Alike w0 E w w1→HeapOk OC w1→EvR es es1→LockG w0 E (.comm g c b sh w es) (.comm g c b sh w1 es1)
 | spawn {g c:Goroutine} {w w1:World} {es es1:Array Event}:GI g→g.offers=none→GI c→c.offers=none→Alike w0 E w w1→HeapOk OC w1→EvR es es1→LockG w0 E (.spawn g c w es) (.spawn g c w1 es1)
 | ended {o:Outcome} {w w1:World} {es es1:Array Event}:Alike w0 E w w1→EvR es es1→LockG w0 E (.ended o w es) (.ended o w1 es1)
section
variable {P:Program} {w0 w w1:World} {E:Nat→Prop} {fr:Frame} {callers:List Frame} {dy:Option Dying} {main:Bool}
theorem lock_after {s s1:GStep} {es es1:Array Event} (h:LockG w0 E s s1) (hv:EvR es es1):LockG w0 E (s.after es) (s1.after es1):=by
 cases h with
 | lost h=>exact .lost h
 | go a o b c d=>exact .go a o b c (hv.append d)
 | comm a o b c d=>exact .comm a o b c (hv.append d)
 | spawn a o a' o' b c d=>exact .spawn a o a' o' b c (hv.append d)
 | ended a d=>exact .ended a (hv.append d)
theorem lock_go {g:Goroutine} (hg:GI g) (ha:Alike w0 E w w1) (hw:HeapOk OC w1) (ho:g.offers=none:=by rfl):LockG w0 E (.go g w) (.go g w1):=.go hg ho ha hw (EvR.refl _)
theorem lock_end {o:Outcome} (ha:Alike w0 E w w1):LockG w0 E (.ended o w) (.ended o w1):=.ended ha (EvR.refl _)
theorem lock_piece {α:Type} {φ:α→Prop} {s:Sem α} {fn:FuncId} (hP:Prg P) (hs:Shy true OC P φ s) (ha:Alike w0 E w w1) (hw:HeapOk OC w1) (K:Result α→GStep)
  (hbad:∀ h w,badH h→∃ o w' es,K (.halt h w)=.ended o w' es∧bad o)
  (hok:∀ a w w1,φ a→Alike w0 E w w1→HeapOk OC w1→LockG w0 E (K (.ok a w)) (K (.ok a w1)))
  (hh:∀ h w w1,NoInit h→Alike w0 E w w1→HeapOk OC w1→LockG w0 E (K (.halt h w)) (K (.halt h w1))) :
  LockG w0 E (GStep.after (seen P fn (s.runT P w #[]).2) (K (s.runT P w #[]).1)) (GStep.after (seen P fn (s.runT P w1 #[]).2) (K (s.runT P w1 #[]).1)):=by
 rcases runT_both s hs w w1 #[] #[] ha hw (EvR.refl _) with ⟨h,w',e,hb⟩ | ⟨a,w',w1',es,es1,e1,e2,hφ,ha',hw',hv⟩ | ⟨h,w',w1',es,es1,e1,e2,hn,ha',hw',hv⟩
 ·obtain ⟨o,w2,es2,h1,h2⟩:=hbad h w' hb
  rw [e,h1]
  exact .lost h2
 ·rw [e1,e2]
  exact lock_after (hok a w' w1' hφ ha' hw') (seen_evR hP.norace _ hv)
 ·rw [e1,e2]
  exact lock_after (hh h w' w1' hn ha' hw') (seen_evR hP.norace _ hv)
theorem lock_run {α:Type} {φ:α→Prop} {s:Sem α} (hs:Shy true OC P φ s) (ha:Alike w0 E w w1) (hw:HeapOk OC w1) (K:Result α→GStep)
  (hbad:∀ h w,badH h→∃ o w' es,K (.halt h w)=.ended o w' es∧bad o)
  (hok:∀ a w w1,φ a→Alike w0 E w w1→HeapOk OC w1→LockG w0 E (K (.ok a w)) (K (.ok a w1)))
  (hh:∀ h w w1,NoInit h→Alike w0 E w w1→HeapOk OC w1→LockG w0 E (K (.halt h w)) (K (.halt h w1))) :
  LockG w0 E (K (s.run P w)) (K (s.run P w1)):=by
 have e0:∀ w,(s.runT P w #[]).1=s.run P w:=fun w=>by rw [Sem.runT_eq]
 rw [← e0 w,← e0 w1]
 rcases runT_both s hs w w1 #[] #[] ha hw (EvR.refl _) with ⟨h,w',e,hb⟩ | ⟨a,w',w1',es,es1,e1,e2,hφ,ha',hw',hv⟩ | ⟨h,w',w1',es,es1,e1,e2,hn,ha',hw',hv⟩
 ·obtain ⟨o,w2,es2,h1,h2⟩:=hbad h w' hb
  rw [e,h1]
  exact .lost h2
 ·rw [e1,e2]
  exact hok a w' w1' hφ ha' hw'
 ·rw [e1,e2]
  exact hh h w' w1' hn ha' hw'
theorem bad_stuck {a b:String}:bad (.stuck a b):=fun _ h=>nomatch h
theorem bad_uns {a:Unsupported} {b:String}:bad (.unsupported a b):=fun _ h=>nomatch h
theorem dieOf_lock (hf:FrI fr) {l:List ByteArray} {m:String} {b:Bool} (ha:Alike w0 E w w1) (hw:HeapOk OC w1):LockG w0 E (dieOf fr l m b w) (dieOf fr l m b w1) :=
 lock_go ⟨hf,fun _ h=>nomatch h⟩ ha hw
theorem endPrinting_lock (hf:FrI fr) {v:Value} (ha:Alike w0 E w w1) (hw:HeapOk OC w1):LockG w0 E (endPrinting P fr v w) (endPrinting P fr v w1):=by
 unfold endPrinting
 dsimp only
 split
 ·exact dieOf_lock hf ha hw
 ·exact lock_end ha
theorem endWith_lock {n:Nat} {t:ByteArray} {o:Outcome} (ha:Alike w0 E w w1):LockG w0 E (endWith w n t o) (endWith w1 n t o):=by
 unfold endWith
 dsimp only
 obtain ⟨e,h⟩:=ha.sys (.write n t)
 generalize w.sys (.write n t)=x at e h
 generalize w1.sys (.write n t)=x1 at e h
 obtain ⟨r,v⟩:=x
 obtain ⟨r1,v1⟩:=x1
 cases e
 cases r <;> dsimp only <;> first
  | exact lock_end h
  | (split <;> exact lock_end h)
instance shy_reportChain:∀ (l:List PanicEntry) (b:Bool),Shyc (reportChain l b)
 | [],b=>by unfold reportChain;infer_instance
 | e :: l,b=>by
  have ih:=shy_reportChain l
  unfold reportChain
  repeat' (first | infer_instance | exact ih _ | (apply shy_mapM;intro _) | apply shy_ite2 | apply shy_bind | intro _ | dsimp only | split)
theorem shy_lmapM {α β:Type} (f:α→Sem β) (h:∀ c,Shyc (f c)):∀ (l:List α),Shyc (l.mapM f)
 | []=>by simp only [List.mapM_nil];infer_instance
 | c :: l=>by
  simp only [List.mapM_cons]
  exact shy_bind (h c) fun _=>shy_bind (shy_lmapM f h l) fun _=>inferInstance
instance {s:ByteArray}:Shyc (withAddress s):=by unfold withAddress;infer_instance
theorem endFatal_lock (hf:FrI fr) {m:String} (ha:Alike w0 E w w1) (hw:HeapOk OC w1):LockG w0 E (endFatal P fr callers dy m w) (endFatal P fr callers dy m w1):=by
 unfold endFatal
 dsimp only
 refine lock_run (P:=P) (φ:=fun _=>True) (s:=_) (Shyc.t (self:=?_) _ _) ha hw (fun r=>match r with
  | .ok (texts,tabs) w=>dieOf fr (panicPieces texts ++ tabs) m true w
  | .halt (.unsupported u) w=>.ended (.unsupported u "") w
  | .halt _ w=>.ended (.stuck "the report of a panic" "") w) ?_ ?_ ?_
 ·repeat' (first | infer_instance | (apply shy_lmapM;intro _) | apply shy_bind | intro _ | dsimp only | split)
 ·intro h w hb
  cases h <;> first | exact hb.elim | exact ⟨_,_,_,rfl,bad_uns⟩ | exact ⟨_,_,_,rfl,bad_stuck⟩
 ·exact fun a w w1 _ ha hw=>dieOf_lock hf ha hw
 ·intro h w w1 hn ha hw
  cases h <;> exact lock_end ha
end
end Go.Tm
