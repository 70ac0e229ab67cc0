/- A part of the proof: U1, U2, U4, U5. -/
import Derived.Test.YtjjmefieegcddaaDoorC02
set_option linter.unusedVariables false
set_option linter.unusedSimpArgs false
set_option maxHeartbeats 8000000
namespace Go.Tm
open Go
structure Alike (w0:World) (E:Nat→Prop) (w w1:World):Prop where
 tape:w1.tape=w.tape
 drawn:w1.drawn=w.drawn
 os:w1.os=w.os
 output:w1.output=w.output
 size:w1.heap.size=w.heap.size
 size0:w0.heap.size≤w.heap.size
 obj:∀ i:Nat,(w1.heap[i]? = w.heap[i]?∧∀ o,strange o=true→w0.heap[i]? = some o→w1.heap[i]?≠some clean)∨∃ o,strange o=true∧w0.heap[i]? = some o∧w.heap[i]? = some o∧w1.heap[i]? = some clean
 same:∀ i:Nat,E i→w1.heap[i]? = w.heap[i]?
section
variable {w0 w w1:World} {E:Nat→Prop}
theorem Alike.at (h:Alike w0 E w w1) (i:Nat):w1.heap[i]? = w.heap[i]?∨∃ o,strange o=true∧w.heap[i]? = some o∧w1.heap[i]? = some clean :=
 (h.obj i).elim (fun x=>.inl x.1) fun ⟨o,a,_,b,c⟩=>.inr ⟨o,a,b,c⟩
theorem Alike.cell (h:Alike w0 E w w1) (a:Addr):w1.cell? a=w.cell? a:=by
 unfold World.cell?
 rcases h.at a.block with e | ⟨o,hs,e1,e2⟩
 ·rw [e]
 ·rw [e1,e2]
  cases o <;> simp [strange] at hs ⊢
theorem Alike.shape (h:Alike w0 E w w1) (r:Nat):w1.shape? r=w.shape? r:=by
 unfold World.shape?
 rcases h.at r with e | ⟨o,hs,e1,e2⟩
 ·rw [e]
 ·rw [e1,e2]
  cases o <;> simp [strange] at hs ⊢
theorem Alike.frozen (h:Alike w0 E w w1) (a:Addr):w1.frozen? a=w.frozen? a:=by
 unfold World.frozen?
 rcases h.at a.block with e | ⟨o,hs,e1,e2⟩
 ·rw [e]
 ·rw [e1,e2]
  cases o <;> simp [strange] at hs ⊢
theorem Alike.push (h:Alike w0 E w w1) (o:Obj):Alike w0 E { w with heap:=w.heap.push o } { w1 with heap:=w1.heap.push o }:=by
 have key:∀ i:Nat,w1.heap[i]? = w.heap[i]?→(w1.heap.push o)[i]? = (w.heap.push o)[i]?:=fun i e=>by simp only [Array.getElem?_push,h.size,e]
 refine ⟨h.tape,h.drawn,h.os,h.output,by simp [h.size],by simp only [Array.size_push];have:=h.size0;omega,fun i=>?_,fun i hi=>key i (h.same i hi)⟩
 by_cases hi:i < w.heap.size
 ·have e:∀ (a:Array Obj),a.size=w.heap.size→(a.push o)[i]? = a[i]?:=fun a ha=>by rw [Array.getElem?_push,if_neg (by omega)]
  simp only [e w.heap rfl,e w1.heap h.size]
  exact h.obj i
 ·refine .inl ⟨key i (by rw [Array.getElem?_eq_none (by rw [h.size];omega),Array.getElem?_eq_none (by omega)]),fun o' _ h0=>?_⟩
  have:=h.size0
  rw [Array.getElem?_eq_none (by omega)] at h0
  cases h0
theorem Alike.set (h:Alike w0 E w w1) (r:Nat) (o:Obj) (ho:o≠clean):Alike w0 E { w with heap:=w.heap.setIfInBounds r o } { w1 with heap:=w1.heap.setIfInBounds r o }:=by
 have key:∀ i:Nat,w1.heap[i]? = w.heap[i]?→(w1.heap.setIfInBounds r o)[i]? = (w.heap.setIfInBounds r o)[i]?:=fun i e=>by simp only [Array.getElem?_setIfInBounds,h.size,e]
 refine ⟨h.tape,h.drawn,h.os,h.output,by simp [h.size],by simp only [Array.size_setIfInBounds];exact h.size0,fun i=>?_,fun i hi=>key i (h.same i hi)⟩
 by_cases e:r=i
 ·subst e
  refine .inl ⟨by simp only [Array.getElem?_setIfInBounds,h.size,if_true],fun o' _ _=>?_⟩
  simp only [Array.getElem?_setIfInBounds,if_true]
  split
  ·exact fun x=>ho (Option.some.inj x)
  ·simp
 ·simp only [Array.getElem?_setIfInBounds,if_neg e]
  exact h.obj i
theorem Alike.modify (h:Alike w0 E w w1) (r:Nat) (f:Obj→Obj) (hf:∀ o,(∀ c e fr,o≠.cells c e fr)→f o=o) (hc:∀ c e fr,f (.cells c e fr)≠clean):Alike w0 E { w with heap:=w.heap.modify r f } { w1 with heap:=w1.heap.modify r f }:=by
 have key:∀ i:Nat,w1.heap[i]? = w.heap[i]?→(w1.heap.modify r f)[i]? = (w.heap.modify r f)[i]?:=fun i e=>by simp only [Array.getElem?_modify,e]
 refine ⟨h.tape,h.drawn,h.os,h.output,by simp [h.size],by simp only [Array.size_modify];exact h.size0,fun i=>?_,fun i hi=>key i (h.same i hi)⟩
 rcases h.obj i with ⟨e,hn⟩ | ⟨o,h1,h2,h3,h4⟩
 ·refine .inl ⟨key i e,fun o hs h0=>?_⟩
  have:=hn o hs h0
  simp only [Array.getElem?_modify]
  split
  ·cases hx:w1.heap[i]? with
   | none=>simp
   | some x =>
    rw [hx] at this
    simp only [Option.map_some]
    cases x <;> first
     | exact fun y=>hc _ _ _ (Option.some.inj y)
     | (rw [hf _ (by simp)];exact this)
  ·exact this
 ·have fo:f o=o:=hf o fun c e fr=>by cases o <;> simp [strange] at h1 ⊢
  have fc:f clean=clean:=hf _ fun c e fr=>by simp
  refine .inr ⟨o,h1,h2,?_,?_⟩
  ·simp only [Array.getElem?_modify,h3,Option.map_some,fo,ite_self]
  ·simp only [Array.getElem?_modify,h4,Option.map_some,fc,ite_self]
theorem Alike.seen (h:Alike w0 E w w1) (p:Program) (at_:Addr) (u:TypeId) (k:Addr) (atomic:Bool):w1.seen p at_ u k atomic=w.seen p at_ u k atomic:=by
 unfold World.seen
 rcases h.at at_.block with e | ⟨o,hs,e1,e2⟩
 ·rw [e]
 ·rw [e1,e2]
  cases o <;> simp [strange] at hs ⊢
theorem Alike.other (h:Alike w0 E w w1) {v v1:World} (hv:v.heap=w.heap) (hv1:v1.heap=w1.heap) (ht:v1.tape=v.tape) (hd:v1.drawn=v.drawn) (ho:v1.os=v.os) (hu:v1.output=v.output):Alike w0 E v v1 :=
 ⟨ht,hd,ho,hu,by rw [hv,hv1,h.size],by rw [hv];exact h.size0,by rw [hv,hv1];exact h.obj,by rw [hv,hv1];exact h.same⟩
theorem D5 {α:Type} (k:Ask α):∀ (w:World),(w.ask k).2.heap=w.heap∧(w.ask k).2.os=w.os∧(w.ask k).2.output=w.output∧(w.ask k).2.tape=w.tape:=by
 induction k with
 | done a=>exact fun w=>⟨rfl,rfl,rfl,rfl⟩
 | ask what range k ih =>
  intro w
  unfold World.ask
  dsimp only
  split
  ·exact ih _ w
  ·exact ih _ _
theorem VH {α:Type} (k:Ask α):∀ (w w1:World),w1.tape=w.tape→w1.drawn=w.drawn→(w1.ask k).1=(w.ask k).1∧(w1.ask k).2.drawn=(w.ask k).2.drawn:=by
 induction k with
 | done a=>exact fun w w1 _ h=>⟨rfl,h⟩
 | ask what range k ih =>
  intro w w1 ht hd
  unfold World.ask
  dsimp only
  split
  ·exact ih _ w w1 ht hd
  ·rw [ht,hd]
   exact ih _ _ _ (by first | exact ht | rfl) (by first | rfl | simp [hd])
theorem Alike.sys (h:Alike w0 E w w1) (c:Sys):(w1.sys c).1=(w.sys c).1∧Alike w0 E (w.sys c).2 (w1.sys c).2:=by
 unfold World.sys
 rw [h.os]
 obtain ⟨a1,a2⟩:=VH (Kernel.perform c w.os) w w1 h.tape h.drawn
 have b:=D5 (Kernel.perform c w.os) w
 have b1:=D5 (Kernel.perform c w.os) w1
 generalize w.ask (Kernel.perform c w.os)=x at a1 a2 b ⊢
 generalize w1.ask (Kernel.perform c w.os)=x1 at a1 a2 b1 ⊢
 obtain ⟨⟨r,os⟩,v⟩:=x
 obtain ⟨⟨r1,os1⟩,v1⟩:=x1
 cases a1
 cases r <;> first
  | exact ⟨rfl,h⟩
  | exact ⟨rfl,h.other b.1 b1.1 (b1.2.2.2.trans (h.tape.trans b.2.2.2.symm)) a2 rfl (b1.2.2.1.trans (h.output.trans b.2.2.1.symm))⟩
end
def EvA (e e1:Event):Prop:=e1=e∨∃ r,e.loc=.obj r∧e1=⟨.obj r,false,false⟩∧e.write=false
inductive EvL:List Event→List Event→Prop
 | nil:EvL [] []
 | cons {e e1:Event} {l l1:List Event}:EvA e e1→EvL l l1→EvL (e :: l) (e1 :: l1)
def mZ (es es1:Array Event):Prop:=EvL es.toList es1.toList
theorem EvL.refl:∀ (l:List Event),EvL l l
 | []=>.nil
 | _ :: l=>.cons (.inl rfl) (EvL.refl l)
theorem EvL.app {l l1 m m1:List Event} (h:EvL l l1) (k:EvL m m1):EvL (l ++ m) (l1 ++ m1):=by
 induction h with
 | nil=>exact k
 | cons a _ ih=>exact .cons a ih
theorem mZ.refl (es:Array Event):mZ es es:=EvL.refl _
theorem mZ.push {es es1:Array Event} (h:mZ es es1) {e e1:Event} (he:EvA e e1):mZ (es.push e) (es1.push e1):=by
 unfold mZ
 rw [Array.toList_push,Array.toList_push]
 exact EvL.app h (.cons he .nil)
theorem mZ.append {es es1 l l1:Array Event} (h:mZ es es1) (k:mZ l l1):mZ (es ++ l) (es1 ++ l1):=by
 unfold mZ
 rw [Array.toList_append,Array.toList_append]
 exact EvL.app h k
section
variable {q:Bool} {C:Code→Prop} {P:Program} {w0 w w1:World} {E:Nat→Prop}
def Both (C:Code→Prop) (w0:World) (E:Nat→Prop) {α:Type} (φ:α→Prop) (r r1:Result α × Array Event):Prop :=
 (∃ h w',r1.1=.halt h w'∧Nr h) ∨
 (∃ a w' w1' es' es1',r=(.ok a w',es')∧r1=(.ok a w1',es1')∧φ a∧Alike w0 E w' w1'∧ay C w1'∧mZ es' es1') ∨
 ∃ h w' w1' es' es1',r=(.halt h w',es')∧r1=(.halt h w1',es1')∧IC h∧Alike w0 E w' w1'∧ay C w1'∧mZ es' es1'
theorem Alike.noCell (h:ay C w1) (a:Addr) (s:String):Nr (w1.noCell a s):=by
 unfold World.noCell
 cases hr:w1.heap[a.block]? with
 | none=>trivial
 | some o=>cases o <;> first | trivial | exact (h _ _ hr).elim
theorem Alike.load (h:Alike w0 E w w1) (hw:ay C w1) (P:Program) (a:Addr) (at_:Bool):(∃ x,w1.farLoad P a at_=.ok x∧w.farLoad P a at_=.ok x)∨∃ e,w1.farLoad P a at_=.error e∧Nr e:=by
 unfold World.farLoad
 rcases h.at a.block with e | ⟨o,hs,e1,e2⟩
 ·rw [e]
  cases hr:w.heap[a.block]? with
  | none=>exact .inr ⟨_,rfl,Alike.noCell hw _ _⟩
  | some o =>
   cases o <;> first
    | exact .inr ⟨_,rfl,Alike.noCell hw _ _⟩
    | (simp only [World.viewLoad,h.seen]
       generalize (bind (m:=Except String) _ _)=x
       cases x with
       | ok r=>exact .inl ⟨r,rfl,rfl⟩
       | error e=>exact .inr ⟨_,rfl,trivial⟩)
 ·rw [e2]
  exact .inr ⟨_,rfl,Alike.noCell hw _ _⟩
theorem Alike.aaf (h:Alike w0 E w w1) (p:Program) (at_:Addr) (u:TypeId) (k:Addr) (v:Value) (atomic:Bool) :
  (∃ e,w1.viewStore p at_ u k v atomic=.error e) ∨
  ∃ c e fr l,w.viewStore p at_ u k v atomic=.ok ({ w with heap:=w.heap.setIfInBounds at_.block (.cells c e fr) },l)∧w1.viewStore p at_ u k v atomic=.ok ({ w1 with heap:=w1.heap.setIfInBounds at_.block (.cells c e fr) },l):=by
 unfold World.viewStore
 simp only [h.seen]
 cases tight p p.depth u <;> cases w.seen p at_ u k atomic with
 | error e=>first | exact .inl ⟨_,rfl⟩
 | ok x =>
  first
  | exact .inl ⟨_,rfl⟩
  | (obtain ⟨c,e,fr,first,like,cells⟩:=x
     simp only [Bool.not_true,Bool.false_eq_true,if_false]
     cases v.bytes? with
     | none=>exact .inl ⟨_,rfl⟩
     | some bytes =>
      by_cases hb:some bytes.length≠like.bytes?.map (·.length)
      ·refine .inl ⟨ "memory seen as another type: a value of another size", ?_⟩
       simp only [bind,Except.bind,hb,if_true,ne_eq,not_false_eq_true]
       rfl
      ·simp only [bind,Except.bind,pure,Except.pure,hb,if_false]
       generalize hf:(List.foldlM _ c cells:Except String (Array Value))=r
       cases r with
       | error e=>exact .inl ⟨e,rfl⟩
       | ok c'=>exact .inr ⟨c',e,fr,_,rfl,rfl⟩)
theorem Alike.store (h:Alike w0 E w w1) (hw:ay C w1) (P:Program) (a:Addr) (v:Value) (at_:Bool):(∃ e,w1.farStore P a v at_=.error e∧Nr e)∨∃ w' w1' l,w.farStore P a v at_=.ok (w',l)∧w1.farStore P a v at_=.ok (w1',l)∧Alike w0 E w' w1'∧ay C w1':=by
 unfold World.farStore
 rcases h.at a.block with e | ⟨o,hs,e1,e2⟩
 ·rw [e]
  cases hr:w.heap[a.block]? with
  | none=>exact .inl ⟨_,rfl,Alike.noCell hw _ _⟩
  | some o =>
   cases o <;> first
    | exact .inl ⟨_,rfl,Alike.noCell hw _ _⟩
    | (rename_i b u
       rcases h.aaf P b u a v at_ with ⟨e,he⟩ | ⟨c,e,fr,l,h1,h2⟩
       ·simp only [he]
        exact .inl ⟨_,rfl,trivial⟩
       ·simp only [h1,h2]
        exact .inr ⟨_,_,_,rfl,rfl,h.set _ _ (by simp),jF hw trivial⟩)
 ·rw [e2]
  exact .inl ⟨_,rfl,Alike.noCell hw _ _⟩
theorem l7 {α:Type} {φ:α→Prop} (t:Sem α) (x:Shy q C P φ t):∀ (w w1:World) (es es1:Array Event),Alike w0 E w w1→ay C w1→mZ es es1→Both C w0 E φ (t.runT P w es) (t.runT P w1 es1):=by
 induction t with
 | pure a=>exact fun w w1 es es1 h ho hv=>.inr (.inl ⟨a,w,w1,es,es1,rfl,rfl,x,h,ho,hv⟩)
 | halt h=>exact fun w w1 es es1 hw ho hv=>.inr (.inr ⟨h,w,w1,es,es1,rfl,rfl,x.2,hw,ho,hv⟩)
 | program k ih=>exact fun w w1 es es1 h ho hv=>ih _ x w w1 es es1 h ho hv
 | mark m k ih=>exact fun w w1 es es1 h ho hv=>ih x.2 w w1 _ _ h ho (hv.push (.inl rfl))
 | new o k ih =>
  intro w w1 es es1 h ho hv
  unfold Sem.runT
  rw [h.size]
  exact ih _ (x.2 _) _ _ es es1 (h.push o) (qo ho x.1) hv
 | shape r k ih =>
  intro w w1 es es1 h ho hv
  unfold Sem.runT
  rw [h.shape]
  exact ih _ (x _) w w1 es es1 h ho hv
 | frozen a k ih =>
  intro w w1 es es1 h ho hv
  unfold Sem.runT
  rw [h.frozen]
  exact ih _ (x _) w w1 es es1 h ho hv
 | freeze a n k ih =>
  intro w w1 es es1 h ho hv
  unfold Sem.runT
  have hf:=qI ho a n
  revert hf
  unfold World.freeze
  by_cases hn:n=0
  ·simp only [hn,if_true]
   exact fun hf=>ih x w w1 es es1 h ho hv
  ·simp only [hn,if_false]
   exact fun hf=>ih x _ _ es es1 (h.modify _ _ (fun o ho=>by cases o <;> simp at ho ⊢) (fun c e fr=>by simp)) hf hv
 | choose q k ih =>
  intro w w1 es es1 h ho hv
  unfold Sem.runT
  by_cases hq:q.forced=true
  ·rw [if_pos hq,if_pos hq]
   exact ih _ (x _) w w1 es es1 h ho hv
  ·rw [if_neg hq,if_neg hq,h.tape,h.drawn]
   exact ih _ (x _) _ _ es es1 (h.other rfl rfl (by first | exact h.tape | rfl) rfl h.os h.output) ho hv
 | getObj r k ih =>
  intro w w1 es es1 h ho hv
  unfold Sem.runT
  rcases h.at r with e | ⟨o,hs,e1,e2⟩
  ·rw [e]
   cases hr:w.heap[r]? with
   | none=>exact .inl ⟨_,w1,rfl,trivial⟩
   | some o =>
    have hoo:=ho r o (by rw [e,hr])
    cases o <;> first | exact .inl ⟨_,w1,rfl,trivial⟩ | exact ih _ (x.1 _ hoo) w w1 _ _ h ho (hv.push (.inl rfl))
  ·rw [e1,e2]
   have hx:=x.2 o hs
   have hi:k clean=k o→∀ es es1,mZ es es1→Both C w0 E φ ((k o).runT P w es) ((k o).runT P w1 es1):=fun hk es es1 hv=>ih o (hk ▸ x.1 clean trivial) w w1 es es1 h ho hv
   rcases hx with hd | he
   ·refine .inl ?_
    show ∃ h w',((k clean).runT P w1 _).1=.halt h w'∧Nr h
    generalize k clean=t at hd
    cases t <;> first | exact hd.elim | exact ⟨_,w1,rfl,hd⟩
   ·cases o <;> simp only [strange,Bool.false_eq_true] at hs <;>
     (show Both C w0 E φ _ ((k clean).runT P w1 _)
      rw [he]
      exact hi he _ _ (hv.push (.inr ⟨r,rfl,rfl,rfl⟩)))
 | setObj r o k ih =>
  intro w w1 es es1 h ho hv
  unfold Sem.runT
  rcases h.at r with e | ⟨o',hs,e1,e2⟩
  ·rw [e]
   cases hr:w.heap[r]? with
   | none=>exact .inl ⟨_,w1,rfl,trivial⟩
   | some o'=>cases o' <;> first | exact .inl ⟨_,w1,rfl,trivial⟩ | exact ih x.2 _ _ _ _ (h.set r o x.1.2) (jF ho x.1.1) (hv.push (.inl rfl))
  ·rw [e1,e2]
   cases o' <;> simp only [strange,Bool.false_eq_true] at hs <;> exact ih x.2 _ _ _ _ (h.set r o x.1.2) (jF ho x.1.1) (hv.push (.inl rfl))
 | sys c k ih =>
  intro w w1 es es1 h ho hv
  unfold Sem.runT
  obtain ⟨e,h'⟩:=h.sys c
  rw [e]
  refine ih _ (x.2 _) _ _ _ _ h' ?_ (hv.push (.inl rfl))
  have:(w1.sys c).2.heap=w1.heap:=by
   unfold World.sys
   have b:=D5 (Kernel.perform c w1.os) w1
   generalize w1.ask (Kernel.perform c w1.os)=y at b
   obtain ⟨⟨r,os⟩,v⟩:=y
   cases r <;> first | rfl | exact b.1
  intro i o hi
  rw [this] at hi
  exact ho i o hi
 | load m a k ih =>
  intro w w1 es es1 h ho hv
  unfold Sem.runT
  rw [h.cell]
  cases hc:w.cell? a with
  | some v=>exact ih v (x v) w w1 _ _ h ho (hv.push (.inl rfl))
  | none =>
   rcases h.load ho P a (m == .atomic) with ⟨y,e1,e2⟩ | ⟨e,he,hb⟩
   ·simp only [e1,e2]
    exact ih _ (x _) w w1 _ _ h ho (hv.append (mZ.refl _))
   ·simp only [he]
    exact .inl ⟨_,w1,rfl,hb⟩
 | store m a v k ih =>
  intro w w1 es es1 h ho hv
  have hst:=h.store ho P a v (m == .atomic)
  cases v <;> first
   | exact .inl ⟨_,w1,rfl,trivial⟩
   | (unfold Sem.runT
      rw [h.cell]
      cases hc:w.cell? a with
      | some v =>
       simp only [h.frozen]
       by_cases hf:w.frozen? a=true
       ·simp only [hf,if_true]
        exact .inl ⟨_,w1,rfl,trivial⟩
       ·simp only [hf,if_false]
        exact ih x _ _ _ _ (h.modify _ _ (fun o ho=>by cases o <;> simp at ho ⊢) (fun c e fr=>by simp)) (lC ho _ _) (hv.push (.inl rfl))
      | none =>
       rcases hst with ⟨e,he,hb⟩ | ⟨w',w1',l,e1,e2,h',ho'⟩
       ·simp only [he]
        exact .inl ⟨_,w1,rfl,hb⟩
       ·simp only [e1,e2]
        exact ih x _ _ _ _ h' ho' (hv.append (mZ.refl _)))
end
structure FP (P:Program):Prop where
 shy:∀ f,U0 P f
 code:∀ (f:FuncId) (fn:Func) (c:Code),P.funcs[f]? = some fn→fn.body=some c→bY true c=true
 norace:∀ f:FuncId,(P.funcs[f]?).any (·.norace)=false
 safe:∀ t,o9 t=true→P.underlying t≠some .unsafePointer
section
variable {P:Program} {r:Bool} {C:Code→Prop}
theorem vV {t:TypeId}:Shy true C P (fun d=>P.underlying t=some d) (underlying t):=by
 unfold underlying
 show Shy true C P (fun d=>P.underlying t=some d) (match P.underlying t with | some d=>pure d | none=>_)
 cases h:P.underlying t with
 | none=>exact ⟨fun _=>trivial,trivial⟩
 | some d=>exact rfl
theorem Ky (hP:FP P) {s t:TypeId} {x:Value} (hs:o9 s=true) (ht:o9 t=true):Shy true OC P (fun _=>True) (convert s t x):=by
 unfold convert
 refine Shy.bind (fun d hd=>Shy.bind (fun d' hd'=>?_) vV) vV
 split <;> first
  | exact ak.t _ _
  | (refine eP inferInstance fun _=>?_;split <;> exact ak.t _ _)
  | exact (hP.safe _ hs hd).elim
  | exact (hP.safe _ ht hd').elim
theorem vw (hP:FP P) {recv:Value} {name:String} {args:Array Value}:Shy true OC P (kF OC r) (callMethod recv name args):=by
 cases recv with
 | iface u v =>
  show Shy true _ P _ (program >>= fun p=>method (p.types.size+Made.depth) u v name >>= fun x=>callFunc x.1 (#[x.2] ++ args))
  exact eP inferInstance fun p=>eP inferInstance fun x=>tJ (hP.shy _) _
 | nilIface=>unfold callMethod;exact dh _
 | _=>unfold callMethod;exact kK
theorem ug (hP:FP P) {t:Target} {args:Array Value} (ht:BM r t):Shy true OC P (kF OC r) (invoke t args):=by
 unfold invoke
 cases t with
 | nil=>exact dh _
 | builtin b ats ty cs=>exact MR ht.1 ht.2 _ _ _ _
 | coroexit c=>exact ht.elim
 | collected b=>exact kK
 | fn g captured =>
  cases g with
  | func f=>exact tJ (hP.shy f) _
  | yield l=>exact Rw
  | via u path f pointer =>
   dsimp only
   cases args[0]? with
   | none=>exact kK
   | some x=>exact eP inferInstance fun y=>tJ (hP.shy f) _
  | method name =>
   dsimp only
   cases args[0]? with
   | none=>exact kK
   | some x=>exact vw hP
  | methodOf u name =>
   dsimp only
   cases args[0]? with
   | none=>exact kK
   | some x =>
    refine eP inferInstance fun y=>?_
    cases y <;> exact vw hP
theorem ny {ρ:Operand→Value} {c:Call} {t:TypeId} (hc:lH r c=true):Shy true OC P (fun d=>BM r d.target) (resolve ρ c t):=by
 unfold resolve
 unfold lH at hc
 cases hcc:c.callee with
 | builtin b =>
  rw [hcc] at hc
  simp only [Bool.and_eq_true,Bool.or_eq_true,Bool.not_eq_true'] at hc
  exact ⟨hc.1,fun h=>hc.2.resolve_right (by simp [h])⟩
 | value f =>
  show Shy true OC P _ (Deferred.ofValue _ _)
  unfold Deferred.ofValue
  split <;> first | trivial | exact ⟨fun _=>trivial,trivial⟩
 | invoke x n=>trivial
theorem Ob (hP:FP P) {ρ:Operand→Value} (hρ:∀ v,ρ (.const v)=v) {o:Oper} (ho:qj r o.op=true):Shy true OC P (kF OC r) (execOp ρ o):=by
 unfold execOp
 cases hop:o.op <;> rw [hop] at ho <;> dsimp only [qj] at ho <;> first
  | (cases ho;done)
  | exact wV inferInstance
  | exact VF inferInstance
  | exact jL trivial
  | skip
 case convert s t x =>
  simp only [Bool.and_eq_true] at ho
  exact Shy.bind (ψ:=kF OC r) (fun v _=>jL (φ:=kF OC r) (a:=.value v) trivial) (Ky hP ho.1 ho.2)
 case pick c a b=>exact eP (s:=asBool (ρ c)) inferInstance fun _=>jL trivial
 case recv ty ch ok =>
  refine eP inferInstance fun d=>?_
  cases d <;> first | exact kK | exact eP inferInstance fun z=>jL trivial
 case makeChan ty x =>
  refine wV ?_
  unfold JF at ho
  split at ho
  ·rename_i k n
   have hn:n=0:=by simpa using ho
   subst hn
   rw [hρ]
   unfold Instr.makeChan
   show ak (underlying ty >>= _)
   refine aW inferInstance fun d=>?_
   cases d <;> first | exact (aF:ak (stuck "MakeChan: channel type expected" : Sem Value)) | skip
   dsimp only
   refine aW inferInstance fun ti=>?_
   split
   ·refine aW ⟨fun C P=>dh _⟩ fun _=>?_
    exact aW (iP fun _=>⟨rfl,rfl,rfl⟩) fun _=>inferInstance
   ·exact aW (iP fun _=>⟨rfl,rfl,rfl⟩) fun _=>inferInstance
  ·cases ho
 case nilCheck x =>
  dsimp only
  repeat' (first | exact dh _ | (refine eP inferInstance fun _=>?_) | split | trivial | exact ⟨fun _=>trivial,trivial⟩)
 case call c=>exact Shy.bind (fun d hd=>ug hP hd) (ny ho)
 next c =>
  simp only [Bool.and_eq_true] at ho
  exact Shy.bind (fun d hd=>jL (φ:=kF OC r) (a:=.spawn d) (rU hd)) (ny ho.2)
 next c=>exact Shy.bind (fun d hd=>jL (φ:=kF OC r) (a:=.defer d) (rU hd)) (ny ho)
end
structure qg (fr:Frame):Prop where
 todo:∀ x∈fr.todo,iC fr.roundOf.isNone x
 defers:∀ d∈fr.defers,iZ d
structure GI (g:Goroutine):Prop where
 fr:qg g.frame
 callers:∀ c∈g.callers,qg c
section
variable {P:Program} {fr:Frame} {callers:List Frame} {dy:Option Dying}
theorem qg.ok (h:qg fr):qh { fr with kind:=.normal }:=⟨h.todo,h.defers,.inl rfl⟩
theorem Nu (fr:Frame) (v:Value):({ fr with kind:=.normal }:Frame).finish v={ fr.finish v with kind:=.normal }:=by
 unfold Frame.finish
 split <;> rename_i h <;> dsimp only at h <;> simp only [h]
theorem OG (fr:Frame) (l:List PanicEntry):({ fr with kind:=.normal }:Frame).raise l={ fr.raise l with kind:=.normal }:=by
 unfold Frame.raise
 dsimp only
 split <;> rfl
theorem fG (h:qg fr) (v:Value):qg (fr.finish v):=by
 have:=(aZ h.ok v).1
 rw [Nu] at this
 exact ⟨this.todo,this.defers⟩
theorem oH (h:qg fr) (l:List PanicEntry):qg (fr.raise l):=by
 have:=(dI h.ok l).1
 rw [OG] at this
 exact ⟨this.todo,this.defers⟩
theorem zy (h:qg fr) (m:FrameMode):qg { fr with mode:=m }:=⟨h.todo,h.defers⟩
theorem qZ (hP:FP P) (f:FuncId) (args:Array Value) (k:CallKind):qg (Frame.enter P f args k):=by
 refine ⟨?_,by simp [Frame.enter]⟩
 intro x hx
 simp only [Frame.enter,List.mem_singleton] at hx
 subst hx
 show bY true _=true
 cases hfn:P.funcs[f]? with
 | none=>rfl
 | some fn =>
  show bY true (fn.body.getD _)=true
  cases hb:fn.body with
  | none=>rfl
  | some c=>exact hP.code f fn c hfn hb
theorem Hq {l:Nat} {f:FuncId} {tmps:Array Value} {assign body:Code} (ha:OC assign) (hb:OC body) (k:CallKind):qg (Frame.round l f tmps assign body k) :=
 ⟨(uh ha hb (.inl rfl):qh (Frame.round l f tmps assign body .normal)).todo,(uh ha hb (.inl rfl):qh (Frame.round l f tmps assign body .normal)).defers⟩
theorem EH (h:qg fr) {todo:List Item} (ht:∀ x∈todo,iC fr.roundOf.isNone x):qg { fr with todo }:=⟨ht,h.defers⟩
theorem zJ (h:qg fr) (hc:∀ c∈callers,qg c):∀ c∈fr :: callers,qg c:=fun c h'=>(List.mem_cons.1 h').elim (fun e=>e ▸ h) (hc c)
theorem Bo:∀ (callers:List Frame) (fr:Frame) (v:Value) (cs:List Frame),(∀ c∈callers,qg c)→tryRecover fr callers=some (v,cs)→∀ c∈cs,qg c
 | [],fr,v,cs,_,h=>by
  unfold tryRecover at h
  split at h <;> simp_all
 | c :: rest,fr,v,cs,hc,h=>by
  have hr:∀ x∈rest,qg x:=fun x hx=>hc x (by simp [hx])
  have h0:qg c:=hc c (by simp)
  unfold tryRecover at h
  split at h
  ·rename_i c' rest' e1 e2
   cases e2
   split at h
   ·cases h
    exact zJ (zy h0 _) hr
   ·cases h
  ·rename_i c' rest' e1 e2
   cases e2
   cases ht:tryRecover c rest with
   | none=>rw [ht] at h;cases h
   | some x =>
    obtain ⟨v2,cs2⟩:=x
    rw [ht] at h
    cases h
    exact zJ h0 (Bo rest c _ cs2 hr ht)
  ·cases h
end
theorem Ig {P:Program} (hP:∀ f:FuncId,(P.funcs[f]?).any (·.norace)=false) (fn:FuncId) (es:Array Event) :
  (seen P fn es).toList=es.toList.filter fun e=>match e.loc with | .mark (.extern _)=>false | _=>true:=by
 unfold seen
 dsimp only
 rw [hP fn,← Array.foldl_toList]
 have key:∀ (l:List Event) (kept:Array Event),
   (l.foldl (fun (x:Bool × Array Event) e=>match x with | (q,kept)=>match e.loc with | .mark (.extern f)=>((P.funcs[f]?).any (·.norace),kept) | _=>(q,if q && !e.sync then kept else kept.push e)) (false,kept)).2.toList
    = kept.toList ++ l.filter fun e=>match e.loc with | .mark (.extern _)=>false | _=>true:=by
  intro l
  induction l with
  | nil=>exact fun kept=>by simp
  | cons e l ih =>
   intro kept
   rw [List.foldl_cons,List.filter_cons]
   dsimp only
   split
   ·rw [hP]
    exact ih kept
   ·simp only [Bool.false_and,Bool.false_eq_true,if_false,if_true]
    rw [ih (kept.push e)]
    simp
 exact (key es.toList #[]).trans (by simp)
theorem jU {P:Program} (hP:∀ f:FuncId,(P.funcs[f]?).any (·.norace)=false) (fn:FuncId) {es es1:Array Event} (h:mZ es es1):mZ (seen P fn es) (seen P fn es1):=by
 unfold mZ
 rw [Ig hP,Ig hP]
 unfold mZ at h
 generalize es.toList=l at h
 generalize es1.toList=l1 at h
 induction h with
 | nil=>exact .nil
 | @cons e e1 l l1 a _ ih =>
  rcases a with rfl | ⟨r,h1,rfl,h2⟩
  ·rw [List.filter_cons,List.filter_cons]
   by_cases hq:(match e1.loc with | .mark (.extern _)=>false | _=>true)=true
   ·rw [if_pos hq,if_pos hq]
    exact .cons (.inl rfl) ih
   ·rw [if_neg hq,if_neg hq]
    exact ih
  ·rw [List.filter_cons,List.filter_cons]
   simp only [h1,if_true]
   exact .cons (.inr ⟨r,h1,rfl,h2⟩) ih
def bad (o:Outcome):Prop:=∀ v,o≠.done v
inductive fJ (w0:World) (E:Nat→Prop):GStep→GStep→Prop
 | lost {s:GStep} {o:Outcome} {w:World} {es:Array Event}:bad o→fJ w0 E s (.ended o w es)
 | go {g:Goroutine} {w w1:World} {es es1:Array Event}:GI g→g.offers=none→Alike w0 E w w1→ay OC w1→mZ es es1→fJ w0 E (.go g w es) (.go g w1 es1)
 | comm {g:Goroutine} {c:Array CommCase} {b:Bool} {sh:CommShape} {w w1:World} {es es1:Array Event}:GI g→g.offers=none→Alike w0 E w w1→ay OC w1→mZ es es1→fJ w0 E (.comm g c b sh w es) (.comm g c b sh w1 es1)
 | spawn {g c:Goroutine} {w w1:World} {es es1:Array Event}:GI g→g.offers=none→GI c→c.offers=none→Alike w0 E w w1→ay OC w1→mZ es es1→fJ w0 E (.spawn g c w es) (.spawn g c w1 es1)
 | ended {o:Outcome} {w w1:World} {es es1:Array Event}:Alike w0 E w w1→mZ es es1→fJ w0 E (.ended o w es) (.ended o w1 es1)
section
variable {P:Program} {w0 w w1:World} {E:Nat→Prop} {fr:Frame} {callers:List Frame} {dy:Option Dying} {main:Bool}
theorem aQ {s s1:GStep} {es es1:Array Event} (h:fJ w0 E s s1) (hv:mZ es es1):fJ w0 E (s.after es) (s1.after es1):=by
 cases h with
 | lost h=>exact .lost h
 | go a o b c d=>exact .go a o b c (hv.append d)
 | comm a o b c d=>exact .comm a o b c (hv.append d)
 | spawn a o a' o' b c d=>exact .spawn a o a' o' b c (hv.append d)
 | ended a d=>exact .ended a (hv.append d)
theorem bn {g:Goroutine} (hg:GI g) (ha:Alike w0 E w w1) (hw:ay OC w1) (ho:g.offers=none:=by rfl):fJ w0 E (.go g w) (.go g w1):=.go hg ho ha hw (mZ.refl _)
theorem bP {o:Outcome} (ha:Alike w0 E w w1):fJ w0 E (.ended o w) (.ended o w1):=.ended ha (mZ.refl _)
theorem pz {α:Type} {φ:α→Prop} {s:Sem α} {fn:FuncId} (hP:FP P) (hs:Shy true OC P φ s) (ha:Alike w0 E w w1) (hw:ay OC w1) (K:Result α→GStep)
  (hbad:∀ h w,Nr h→∃ o w' es,K (.halt h w)=.ended o w' es∧bad o)
  (hok:∀ a w w1,φ a→Alike w0 E w w1→ay OC w1→fJ w0 E (K (.ok a w)) (K (.ok a w1)))
  (hh:∀ h w w1,IC h→Alike w0 E w w1→ay OC w1→fJ w0 E (K (.halt h w)) (K (.halt h w1))) :
  fJ w0 E (GStep.after (seen P fn (s.runT P w #[]).2) (K (s.runT P w #[]).1)) (GStep.after (seen P fn (s.runT P w1 #[]).2) (K (s.runT P w1 #[]).1)):=by
 rcases l7 s hs w w1 #[] #[] ha hw (mZ.refl _) with ⟨h,w',e,hb⟩ | ⟨a,w',w1',es,es1,e1,e2,hφ,ha',hw',hv⟩ | ⟨h,w',w1',es,es1,e1,e2,hn,ha',hw',hv⟩
 ·obtain ⟨o,w2,es2,h1,h2⟩:=hbad h w' hb
  rw [e,h1]
  exact .lost h2
 ·rw [e1,e2]
  exact aQ (hok a w' w1' hφ ha' hw') (jU hP.norace _ hv)
 ·rw [e1,e2]
  exact aQ (hh h w' w1' hn ha' hw') (jU hP.norace _ hv)
theorem yI {α:Type} {φ:α→Prop} {s:Sem α} (hs:Shy true OC P φ s) (ha:Alike w0 E w w1) (hw:ay OC w1) (K:Result α→GStep)
  (hbad:∀ h w,Nr h→∃ o w' es,K (.halt h w)=.ended o w' es∧bad o)
  (hok:∀ a w w1,φ a→Alike w0 E w w1→ay OC w1→fJ w0 E (K (.ok a w)) (K (.ok a w1)))
  (hh:∀ h w w1,IC h→Alike w0 E w w1→ay OC w1→fJ w0 E (K (.halt h w)) (K (.halt h w1))) :
  fJ w0 E (K (s.run P w)) (K (s.run P w1)):=by
 have e0:∀ w,(s.runT P w #[]).1=s.run P w:=fun w=>by rw [Sem.runT_eq]
 rw [← e0 w,← e0 w1]
 rcases l7 s hs w w1 #[] #[] ha hw (mZ.refl _) with ⟨h,w',e,hb⟩ | ⟨a,w',w1',es,es1,e1,e2,hφ,ha',hw',hv⟩ | ⟨h,w',w1',es,es1,e1,e2,hn,ha',hw',hv⟩
 ·obtain ⟨o,w2,es2,h1,h2⟩:=hbad h w' hb
  rw [e,h1]
  exact .lost h2
 ·rw [e1,e2]
  exact hok a w' w1' hφ ha' hw'
 ·rw [e1,e2]
  exact hh h w' w1' hn ha' hw'
theorem dS {a b:String}:bad (.stuck a b):=fun _ h=>nomatch h
theorem qC {a:Unsupported} {b:String}:bad (.unsupported a b):=fun _ h=>nomatch h
theorem aal (hf:qg fr) {l:List ByteArray} {m:String} {b:Bool} (ha:Alike w0 E w w1) (hw:ay OC w1):fJ w0 E (dieOf fr l m b w) (dieOf fr l m b w1) :=
 bn ⟨hf,fun _ h=>nomatch h⟩ ha hw
theorem rP (hf:qg fr) {v:Value} (ha:Alike w0 E w w1) (hw:ay OC w1):fJ w0 E (endPrinting P fr v w) (endPrinting P fr v w1):=by
 unfold endPrinting
 dsimp only
 split
 ·exact aal hf ha hw
 ·exact bP ha
theorem yN {n:Nat} {t:ByteArray} {o:Outcome} (ha:Alike w0 E w w1):fJ w0 E (endWith w n t o) (endWith w1 n t o):=by
 unfold endWith
 dsimp only
 obtain ⟨e,h⟩:=ha.sys (.write n t)
 generalize w.sys (.write n t)=x at e h
 generalize w1.sys (.write n t)=x1 at e h
 obtain ⟨r,v⟩:=x
 obtain ⟨r1,v1⟩:=x1
 cases e
 cases r <;> dsimp only <;> first
  | exact bP h
  | (split <;> exact bP h)
instance Cm:∀ (l:List PanicEntry) (b:Bool),ak (reportChain l b)
 | [],b=>by unfold reportChain;infer_instance
 | e :: l,b=>by
  have ih:=Cm l
  unfold reportChain
  repeat' (first | infer_instance | exact ih _ | (apply Em;intro _) | apply J8 | apply aW | intro _ | dsimp only | split)
theorem Gt {α β:Type} (f:α→Sem β) (h:∀ c,ak (f c)):∀ (l:List α),ak (l.mapM f)
 | []=>by simp only [List.mapM_nil];infer_instance
 | c :: l=>by
  simp only [List.mapM_cons]
  exact aW (h c) fun _=>aW (Gt f h l) fun _=>inferInstance
instance {s:ByteArray}:ak (withAddress s):=by unfold withAddress;infer_instance
theorem xg (hf:qg fr) {m:String} (ha:Alike w0 E w w1) (hw:ay OC w1):fJ w0 E (endFatal P fr callers dy m w) (endFatal P fr callers dy m w1):=by
 unfold endFatal
 dsimp only
 refine yI (P:=P) (φ:=fun _=>True) (s:=_) (ak.t (self:=?_) _ _) ha hw (fun r=>match r with
  | .ok (texts,tabs) w=>dieOf fr (panicPieces texts ++ tabs) m true w
  | .halt (.unsupported u) w=>.ended (.unsupported u "") w
  | .halt _ w=>.ended (.stuck "the report of a panic" "") w) ?_ ?_ ?_
 ·repeat' (first | infer_instance | (apply Gt;intro _) | apply aW | intro _ | dsimp only | split)
 ·intro h w hb
  cases h <;> first | exact hb.elim | exact ⟨_,_,_,rfl,qC⟩ | exact ⟨_,_,_,rfl,dS⟩
 ·exact fun a w w1 _ ha hw=>aal hf ha hw
 ·intro h w w1 hn ha hw
  cases h <;> exact bP ha
end
section
variable {P:Program} {w0 w w1:World} {E:Nat→Prop} {fr:Frame} {callers:List Frame} {dy:Option Dying} {main:Bool}
theorem E8 {c:Prop} [Decidable c] {a b a1 b1:GStep} (h:c→fJ w0 E a a1) (h':¬c→fJ w0 E b b1):fJ w0 E (if c then a else b) (if c then a1 else b1):=by
 by_cases x:c
 ·rw [if_pos x,if_pos x]
  exact h x
 ·rw [if_neg x,if_neg x]
  exact h' x
theorem tu (hP:FP P) (hf:qg fr) (hc:∀ c∈callers,qg c) {s:Sem Next} (hs:Shy true OC P (kF OC fr.roundOf.isNone) s) (ha:Alike w0 E w w1) (hw:ay OC w1) :
  fJ w0 E (stepG.apply P true fr callers dy s w) (stepG.apply P true fr callers dy s w1):=by
 have hno:∀ d wr rs sv k,fr.todo=.call d wr rs sv :: k→False:=fun d wr rs sv k h=>by
  have:=hf.todo
  rw [h] at this
  exact this (.call d wr rs sv) (by simp)
 have hcs:=zJ hf hc
 have ev:∀ {es es1:Array Event},mZ es es1→mZ (if (fr.kind == CallKind.early)=true then #[] else es) (if (fr.kind == CallKind.early)=true then #[] else es1):=fun h=>by
  split
  ·exact mZ.refl _
  ·exact h
 unfold stepG.apply
 dsimp only
 simp only [if_true]
 rcases l7 s hs w w1 #[] #[] ha hw (mZ.refl _) with ⟨h,w',e,hb⟩ | ⟨a,w',w1',es,es1,e1,e2,hφ,ha',hw',hv⟩ | ⟨h,w',w1',es,es1,e1,e2,hn,ha',hw',hv⟩
 ·rw [e]
  cases h <;> first
   | exact hb.elim
   | exact .lost dS
   | (rename_i u;cases u <;> first | exact hb.elim | exact .lost qC)
 ·rw [e1,e2]
  have hv':=jU hP.norace fr.fn (ev hv)
  cases a <;> first | (exact hφ.elim) | skip
  case value v=>exact aQ (bn ⟨fG hf v,hc⟩ ha' hw') hv'
  case skip=>exact aQ (bn ⟨fG hf _,hc⟩ ha' hw') hv'
  case enter f args=>exact aQ (bn ⟨qZ hP f args _,hcs⟩ ha' hw') hv'
  case round l f tmps assign body=>exact aQ (bn ⟨Hq hφ.1 hφ.2 _,hcs⟩ ha' hw') hv'
  next d =>
   exact aQ (bn ⟨fG (fr:={ fr with defers:=d :: fr.defers }) ⟨hf.todo,fun x hx=>(List.mem_cons.1 hx).elim (fun e=>e ▸ hφ) (hf.defers x)⟩ undef,hc⟩ ha' hw') hv'
  case recover =>
   have hro:fr.roundOf=none:=by
    have:fr.roundOf.isNone=true:=hφ
    simpa using this
   refine aQ ?_ hv'
   simp only [hro]
   cases ht:tryRecover fr callers with
   | none=>exact bn ⟨fG hf _,hc⟩ ha' hw'
   | some x =>
    obtain ⟨v,cs⟩:=x
    exact bn ⟨fG hf v,Bo callers fr v cs hc ht⟩ ha' hw'
  case comm c b sh=>exact aQ (.comm ⟨hf,hc⟩ rfl ha' hw' (mZ.refl _)) hv'
  case spawn d =>
   refine aQ ?_ hv'
   dsimp only
   refine E8 (fun _=>aal hf ha' hw') (fun _=>?_)
   ·refine .spawn ⟨fG hf _,hc⟩ rfl ⟨⟨fun x hx=>(nomatch hx),fun x hx=>?_⟩,fun _ h=>nomatch h⟩ rfl ha' hw' (mZ.refl _)
    rcases List.mem_singleton.1 hx with rfl
    exact hφ
 ·rw [e1,e2]
  have hv':=jU hP.norace fr.fn (ev hv)
  have hv0:=jU hP.norace fr.fn (ev (mZ.refl #[]))
  cases h <;> first
   | exact aQ (bP ha') hv'
   | skip
  case panic v=>exact aQ (bn ⟨oH hf _,hc⟩ ha' hw') hv'
  case goexit=>exact aQ (bn ⟨oH hf _,hc⟩ ha' hw') hv'
  case blocked=>exact aQ (bn ⟨hf,hc⟩ ha' hw') hv0
  case waiting=>exact aQ (bn ⟨hf,hc⟩ ha' hw') hv0
  case fatal m=>exact aQ (xg hf ha' hw') hv'
  case throw m=>exact aQ (aal hf ha' hw') hv'
  case unsupported u=>cases u <;> first | exact hn.elim | exact aQ (bP ha') hv'
theorem qM (hP:FP P) (hf:qg fr) (hc:∀ c∈callers,qg c) {v:Value} (ha:Alike w0 E w w1) (hw:ay OC w1) :
  fJ w0 E (doReturn P main fr callers dy v w) (doReturn P main fr callers dy v w1):=by
 unfold doReturn
 cases callers with
 | cons c rest =>
  have h0:qg c:=hc c (by simp)
  have hr:∀ x∈rest,qg x:=fun x hx=>hc x (by simp [hx])
  dsimp only
  split
  ·exact bn ⟨fG h0 v,hr⟩ ha hw
  ·exact bn ⟨fG h0 v,hr⟩ ha hw
  ·exact bn ⟨h0,hr⟩ ha hw
  ·refine bn ⟨?_,hr⟩ ha hw
   split
   ·split
    ·exact zy h0 _
    ·exact zy h0 _
   ·exact h0
 | nil =>
  dsimp only
  split
  ·exact bn ⟨hf,fun _ h=>nomatch h⟩ ha hw
  ·exact bP ha
  ·split
   ·exact bn ⟨hf,fun _ h=>nomatch h⟩ ha hw
   ·split
    ·exact bn ⟨qZ hP _ _ _,fun _ h=>nomatch h⟩ ha hw
    ·exact bP ha
theorem xY (hP:FP P) (hf:qg fr) (hc:∀ c∈callers,qg c) {jump:Option Code} (hj:∀ c,jump=some c→OC c) {F:World→GStep} (ha:Alike w0 E w w1) (hw:ay OC w1)
  (hF:∀ w,F w=(match fr.roundOf with
   | none=>if Aw jump then .go { frame:={ fr with mode:=.returning },callers,status:=.running,dying:=dy } w else .ended (.stuck "exit, goto: no such block or label" (fr.pos P)) w
   | some l =>
    let (r,es):=(Instr.endRound l jump).runT P w #[]
    GStep.after (seen P fr.fn es) <| match r with
    | .ok v w=>doReturn P main fr callers dy v w
    | .halt _ w=>.ended (.stuck "range over a function: no such loop" (fr.pos P)) w)):fJ w0 E (F w) (F w1):=by
 rw [hF,hF]
 have h0:qg { fr with mode:=.returning }:=zy hf _
 revert h0
 cases fr.roundOf with
 | none=>exact fun h0=>E8 (fun _=>bn ⟨h0,hc⟩ ha hw) (fun _=>bP ha)
 | some l =>
  intro _
  refine pz hP (JL hj) ha hw (fun r=>match r with
    | .ok v w=>doReturn P main fr callers dy v w
    | .halt _ w=>.ended (.stuck "range over a function: no such loop" (fr.pos P)) w) ?_ ?_ ?_
  ·exact fun h w _=>⟨_,_,_,rfl,dS⟩
  ·exact fun a w w1 _ ha hw=>qM hP hf hc ha hw
  ·exact fun h w w1 _ ha hw=>bP ha
theorem Rh (hP:FP P) (hf:qg fr) (hc:∀ c∈callers,qg c) (ha:Alike w0 E w w1) (hw:ay OC w1) :
  fJ w0 E (stepG.exec P main true fr callers dy w) (stepG.exec P main true fr callers dy w1):=by
 have to:∀ {todo:List Item} (_:∀ w,stepG.exec P main true fr callers dy w=.go { frame:={ fr with todo },callers,status:=.running,dying:=dy } w) (_:∀ x∈todo,iC fr.roundOf.isNone x),
   fJ w0 E (stepG.exec P main true fr callers dy w) (stepG.exec P main true fr callers dy w1):=fun h ht=>by
  rw [h,h]
  exact bn ⟨EH hf ht,hc⟩ ha hw
 have lost:∀ (o:Outcome),bad o→(∀ w,stepG.exec P main true fr callers dy w=.ended o w)→fJ w0 E (stepG.exec P main true fr callers dy w) (stepG.exec P main true fr callers dy w1):=fun o ho h=>by
  rw [h w1]
  exact .lost ho
 cases htd:fr.todo with
 | nil=>exact xY (main:=main) (jump:=none) hP hf hc (by simp) ha hw fun w=>by simp only [stepG.exec,htd];cases fr.roundOf <;> rfl
 | cons x k =>
  have hx:iC fr.roundOf.isNone x:=hf.todo x (by simp [htd])
  have hkk:∀ y∈k,iC fr.roundOf.isNone y:=fun y hy=>hf.todo y (by simp [htd,hy])
  have two:∀ {a b:Item},iC fr.roundOf.isNone a→iC fr.roundOf.isNone b→∀ y∈a :: b :: k,iC fr.roundOf.isNone y:=fun h1 h2 y hy=>by
   rcases List.mem_cons.1 hy with rfl | hy
   ·exact h1
   ·rcases List.mem_cons.1 hy with rfl | hy
    ·exact h2
    ·exact hkk y hy
  have one:∀ {a:Item},iC fr.roundOf.isNone a→∀ y∈a :: k,iC fr.roundOf.isNone y:=fun h1 y hy=>by
   rcases List.mem_cons.1 hy with rfl | hy
   ·exact h1
   ·exact hkk y hy
  cases x with
  | call d wr res sv=>exact hx.elim
  | extern row args=>exact hx.elim
  | inScope c=>exact to (todo:=k) (fun w=>by simp only [stepG.exec,htd]) hkk
  | inBlock id=>exact to (todo:=k) (fun w=>by simp only [stepG.exec,htd]) hkk
  | inLoop body=>exact to (todo:=.code body :: .inLoop body :: k) (fun w=>by simp only [stepG.exec,htd]) (two hx hx)
  | beginRound =>
   have e:∀ w,stepG.exec P main true fr callers dy w=stepG.apply P true fr callers dy (do fr.roundOf.elim (stuck "beginRound: no round") Instr.beginRound;pure .skip) w:=fun w=>by simp only [stepG.exec,htd]
   rw [e,e]
   refine tu hP hf hc ?_ ha hw
   cases fr.roundOf with
   | none=>exact Shy.bind (φ:=fun _=>True) (fun _ _=>jL trivial) (by exact kK)
   | some l=>exact Shy.bind (fun _ _=>jL trivial) (Dq (l:=l))
  | inRangeFunc l=>exact lost (.unsupported (.noEntry "a range function without a Go body that blocks") (fr.pos P)) qC fun w=>by simp only [stepG.exec,htd]
  | endRangeFunc l =>
   have e:∀ w,stepG.exec P main true fr callers dy w=GStep.after (seen P fr.fn ((Instr.endLoop l).runT P w #[]).2) (match ((Instr.endLoop l).runT P w #[]).1 with
    | .ok jump w=>.go { frame:={ fr with todo:=(jump.map Item.code).toList ++ k },callers,status:=.running,dying:=dy } w
    | .halt (.panic v) w=>.go { frame:=fr.raise [{ v,recovered:=false }],callers,status:=.running,dying:=dy } w
    | .halt _ w=>.ended (.stuck "range over a function: no such loop" (fr.pos P)) w):=fun w=>by simp only [stepG.exec,htd];rfl
   rw [e,e]
   refine pz hP Nj ha hw (fun r=>match r with
    | .ok jump w=>.go { frame:={ fr with todo:=(jump.map Item.code).toList ++ k },callers,status:=.running,dying:=dy } w
    | .halt (.panic v) w=>.go { frame:=fr.raise [{ v,recovered:=false }],callers,status:=.running,dying:=dy } w
    | .halt _ w=>.ended (.stuck "range over a function: no such loop" (fr.pos P)) w) ?_ ?_ ?_
   ·intro h w hb
    cases h <;> first | exact hb.elim | exact ⟨_,_,_,rfl,dS⟩
   ·intro jump w w1 hr ha hw
    refine bn ⟨EH hf fun y hy=>?_,hc⟩ ha hw
    rcases List.mem_append.1 hy with hy | hy
    ·cases jump with
     | none=>simp at hy
     | some c =>
      simp only [Option.map_some,Option.toList_some,List.mem_singleton] at hy
      subst hy
      exact gW (hr c rfl)
    ·exact hkk y hy
   ·intro h w w1 hn ha hw
    cases h <;> first
     | exact bP ha
     | exact bn ⟨oH hf _,hc⟩ ha hw
  | inRegion ops todo =>
   cases todo with
   | nil=>exact to (todo:=k) (fun w=>by simp only [stepG.exec,htd]) hkk
   | cons i rest =>
    by_cases hwt:(((ops[i]?).map (Region.wanted · (yielded ops fr.tmps))).getD false)=true
    ·cases hop:ops[i]? with
     | none=>rw [hop] at hwt;cases hwt
     | some o =>
      have hoo:qj fr.roundOf.isNone o.op=true:=by
       have hx':(ops.all fun o=>qj fr.roundOf.isNone o.op)=true:=hx
       rw [Array.all_eq_true] at hx'
       obtain ⟨hi,rfl⟩:=Array.getElem?_eq_some_iff.1 hop
       exact hx' i hi
      have hfo:fr.oper? = some o:=by unfold Frame.oper?;rw [htd];exact hop
      by_cases hdf:∃ l c,fr.roundOf=some l∧o.op=.defer c
      ·obtain ⟨l,c,hro,hoc⟩:=hdf
       have hoc':lH false c=true:=by rw [hoc] at hoo;exact hoo
       have e:∀ w,stepG.exec P main true fr callers dy w=stepG.apply P true fr callers dy (do Instr.deferInRound l (← resolve fr.eval c o.type);pure .skip) w:=fun w=>by
        simp only [stepG.exec,htd,hwt,if_true,stepG.oper,hfo,hro,hoc]
       rw [e,e]
       refine tu hP hf hc ?_ ha hw
       refine Shy.bind (fun d hd=>?_) (ny hoc')
       exact Shy.bind (fun _ _=>jL trivial) (AB (rU hd))
      ·have e:∀ w,stepG.exec P main true fr callers dy w=stepG.apply P true fr callers dy (execOp fr.eval o) w:=fun w=>by
        simp only [stepG.exec,htd,hwt,if_true,stepG.oper,hfo]
        split
        ·rename_i l c h1 h2
         exact (hdf ⟨l,c,h1,h2⟩).elim
        ·rfl
       rw [e,e]
       exact tu hP hf hc (Ob hP (fun _=>rfl) hoo) ha hw
    ·have e:∀ w,stepG.exec P main true fr callers dy w=.go { frame:=fr.finish undef,callers,status:=.running,dying:=dy } w:=fun w=>by
      simp only [stepG.exec,htd,hwt]
      rfl
     rw [e,e]
     exact bn ⟨fG hf _,hc⟩ ha hw
  | code c =>
   have hcd:bY fr.roundOf.isNone c=true:=hx
   cases c with
   | ret=>exact xY (main:=main) (jump:=some .ret) hP hf hc (by rintro c h;cases h;rfl) ha hw fun w=>by simp only [stepG.exec,htd];cases fr.roundOf <;> rfl
   | skip=>exact to (todo:=k) (fun w=>by simp only [stepG.exec,htd]) hkk
   | label l=>exact to (todo:=k) (fun w=>by simp only [stepG.exec,htd]) hkk
   | seq a b =>
    simp only [bY,Bool.and_eq_true] at hcd
    exact to (todo:=.code a :: .code b :: k) (fun w=>by simp only [stepG.exec,htd]) (two hcd.1 hcd.2)
   | cond e a b =>
    simp only [bY,Bool.and_eq_true] at hcd
    by_cases hb:∃ b,fr.eval e=.bool b
    ·obtain ⟨t,ht⟩:=hb
     refine to (todo:=.code (if t then a else b) :: k) (fun w=>by simp only [stepG.exec,htd,ht]) (one ?_)
     show bY _ _=true
     cases t
     ·exact hcd.2
     ·exact hcd.1
    ·refine lost (.stuck "cond: bool expected" (fr.pos P)) dS fun w=>?_
     simp only [stepG.exec,htd]
     split
     ·rename_i b' h';exact (hb ⟨b',h'⟩).elim
     ·rfl
   | block id body=>exact to (todo:=.code body :: .inBlock id :: k) (fun w=>by simp only [stepG.exec,htd]) (two hcd trivial)
   | loop body=>exact to (todo:=.code body :: .inLoop body :: k) (fun w=>by simp only [stepG.exec,htd]) (two hcd hcd)
   | scope body=>exact to (todo:=.code body :: .inScope body :: k) (fun w=>by simp only [stepG.exec,htd]) (two hcd trivial)
   | goto l=>cases hcd
   | exit id =>
    cases he:exitTo id k with
    | some k'=>exact to (todo:=k') (fun w=>by simp only [stepG.exec,htd,he,Option.elim_some]) (GX he hkk)
    | none=>exact xY (main:=main) (jump:=some (.exit id)) hP hf hc (by rintro c h;cases h;rfl) ha hw fun w=>by simp only [stepG.exec,htd,he,Option.elim_none];cases fr.roundOf <;> rfl
   | refuse why=>exact lost (.unsupported (Unsupported.elab why) (fr.pos P)) qC fun w=>by simp only [stepG.exec,htd]
   | region id ops draw =>
    have hops:(ops.all fun o=>qj fr.roundOf.isNone o.op)=true:=hcd
    cases draw with
    | false=>exact to (todo:=.inRegion ops (List.range ops.size) :: k) (fun w=>by simp only [stepG.exec,htd];rfl) (one hops)
    | true =>
     have e:∀ w,stepG.exec P main true fr callers dy w=(match (choose (.order fr.fn id)).run P w with
      | .ok t w=>.go { frame:={ fr with todo:=.inRegion ops (Region.schedule (P.follows .mixedOrders) ops t) :: k },callers,status:=.running,dying:=dy } w
      | .halt _ w=>.ended (.stuck "order" (fr.pos P)) w):=fun w=>by simp only [stepG.exec,htd];rfl
     rw [e,e]
     refine yI (P:=P) (φ:=fun _=>True) (ak.t (s:=choose (.order fr.fn id)) _ _) ha hw (fun r=>match r with
      | .ok t w=>.go { frame:={ fr with todo:=.inRegion ops (Region.schedule (P.follows .mixedOrders) ops t) :: k },callers,status:=.running,dying:=dy } w
      | .halt _ w=>.ended (.stuck "order" (fr.pos P)) w) ?_ ?_ ?_
     ·exact fun h w _=>⟨_,_,_,rfl,dS⟩
     ·exact fun t w w1 _ ha hw=>bn ⟨EH hf (one hops),hc⟩ ha hw
     ·exact fun h w w1 _ ha hw=>bP ha
   | rangeFunc f params assign body =>
    simp only [bY,Bool.and_eq_true] at hcd
    have e:∀ w,stepG.exec P main true fr callers dy w=GStep.after (seen P fr.fn ((Instr.enterLoop fr.fn fr.tmps params assign body fr.roundOf).runT P w #[]).2) (match ((Instr.enterLoop fr.fn fr.tmps params assign body fr.roundOf).runT P w #[]).1 with
     | .ok (l,mark) w=>stepG.apply P true { fr with todo:=.inRangeFunc l :: k,defers:=mark ++ fr.defers } callers dy (do
       let d ← resolve ({ fr with todo:=.inRangeFunc l :: k,defers:=mark ++ fr.defers }:Frame).eval { callee:=.value f,args:=#[.const (.func (.yield l) #[] #[])],argTypes:=#[] } 0
       invoke d.target d.args) w
     | .halt _ w=>.ended (.stuck "range over a function: no such loop" (fr.pos P)) w):=fun w=>by simp only [stepG.exec,htd];rfl
    rw [e,e]
    refine pz hP (Gi hcd.1 hcd.2) ha hw (fun r=>match r with
     | .ok (l,mark) w=>stepG.apply P true { fr with todo:=.inRangeFunc l :: k,defers:=mark ++ fr.defers } callers dy (do
       let d ← resolve ({ fr with todo:=.inRangeFunc l :: k,defers:=mark ++ fr.defers }:Frame).eval { callee:=.value f,args:=#[.const (.func (.yield l) #[] #[])],argTypes:=#[] } 0
       invoke d.target d.args) w
     | .halt _ w=>.ended (.stuck "range over a function: no such loop" (fr.pos P)) w) ?_ ?_ ?_
    ·exact fun h w _=>⟨_,_,_,rfl,dS⟩
    ·rintro ⟨l,mark⟩ w w1 hr ha hw
     have hfr:qg { fr with todo:=.inRangeFunc l :: k,defers:=mark ++ fr.defers }:=⟨one trivial,fun d hd=>(List.mem_append.1 hd).elim (hr d) (hf.defers d)⟩
     exact tu hP hfr hc (Shy.bind (fun d hd=>ug hP hd) (ny (r:=fr.roundOf.isNone) rfl)) ha hw
    ·exact fun h w w1 _ ha hw=>bP ha
theorem yM (hP:FP P) (hf:qg fr) (hc:∀ c∈callers,qg c) {d:Deferred} (hd:iZ d) (ha:Alike w0 E w w1) (hw:ay OC w1) :
  fJ w0 E (callDeferred P fr callers dy d w) (callDeferred P fr callers dy d w1):=by
 have hcs:=zJ hf hc
 have hbl:qg { fr with defers:=d :: fr.defers }:=⟨hf.todo,fun x hx=>(List.mem_cons.1 hx).elim (fun e=>e ▸ hd) (hf.defers x)⟩
 unfold callDeferred
 dsimp only
 refine E8 (fun _=>bP ha) (fun _=>?_)
 have hs:Shy true OC P (kF OC false) (invoke d.target d.args):=ug hP (G6 hd)
 rcases l7 _ hs w w1 #[] #[] ha hw (mZ.refl _) with ⟨h,w',e,hb⟩ | ⟨a,w',w1',es,es1,e1,e2,hφ,ha',hw',hv⟩ | ⟨h,w',w1',es,es1,e1,e2,hn,ha',hw',hv⟩
 ·rw [e]
  cases h <;> first
   | exact hb.elim
   | exact .lost dS
   | exact .lost qC
 ·rw [e1,e2]
  have hv':=jU hP.norace fr.fn hv
  cases a <;> first | (exact hφ.elim) | skip
  case recover=>cases (show false=true from hφ)
  case enter f args=>exact aQ (bn ⟨qZ hP f args _,hcs⟩ ha' hw') hv'
  case round l f tmps assign body=>exact aQ (bn ⟨Hq hφ.1 hφ.2 _,hcs⟩ ha' hw') hv'
  all_goals exact aQ (bn ⟨hf,hc⟩ ha' hw') hv'
 ·rw [e1,e2]
  have hv':=jU hP.norace fr.fn hv
  have hv0:=jU hP.norace fr.fn (mZ.refl #[])
  cases h <;> first
   | exact aQ (bP ha') hv'
   | skip
  case panic v=>exact aQ (bn ⟨oH hf _,hc⟩ ha' hw') hv'
  case goexit=>exact aQ (bn ⟨oH hf _,hc⟩ ha' hw') hv'
  case blocked=>exact aQ (bn ⟨hbl,hc⟩ ha' hw') hv0
  case waiting=>exact aQ (bn ⟨hbl,hc⟩ ha' hw') hv0
  case fatal m=>exact aQ (xg hf ha' hw') hv'
  case throw m=>exact aQ (aal hf ha' hw') hv'
instance Yq (fn:Func) (tmps:Array Value):ak (results fn tmps):=by
 unfold results
 refine aW (Em _ (fun c=>?_) _) fun vs=>inferInstance
 split
 ·infer_instance
 ·infer_instance
theorem J4 (hP:FP P) (hf:qg fr) (hc:∀ c∈callers,qg c) (ha:Alike w0 E w w1) (hw:ay OC w1) :
  fJ w0 E (unwind P main fr callers dy w) (unwind P main fr callers dy w1):=by
 cases hds:fr.defers with
 | cons d ds =>
  have hdd:iZ d:=hf.defers d (by simp [hds])
  have hds':qg { fr with defers:=ds }:=⟨hf.todo,fun x hx=>hf.defers x (by simp [hds,hx])⟩
  by_cases hcol:∃ b,d.target=.collected b
  ·obtain ⟨b,hb⟩:=hcol
   obtain ⟨tg,args⟩:=d
   dsimp only at hb
   subst hb
   have e:∀ w,unwind P main fr callers dy w=GStep.after (seen P fr.fn ((Instr.takeDeferred b).runT P w #[]).2) (match ((Instr.takeDeferred b).runT P w #[]).1 with
    | .ok calls w=>.go { frame:={ fr with defers:=calls ++ ds },callers,status:=.running,dying:=dy } w
    | .halt _ w=>.ended (.stuck "the deferred calls of a range-over-func loop have been taken" (fr.pos P)) w):=fun w=>by simp only [unwind,hds];rfl
   rw [e,e]
   refine pz hP Ag ha hw (fun r=>match r with
    | .ok calls w=>.go { frame:={ fr with defers:=calls ++ ds },callers,status:=.running,dying:=dy } w
    | .halt _ w=>.ended (.stuck "the deferred calls of a range-over-func loop have been taken" (fr.pos P)) w) ?_ ?_ ?_
   ·exact fun h w _=>⟨_,_,_,rfl,dS⟩
   ·exact fun calls w w1 hr ha hw=>bn ⟨⟨hf.todo,fun x hx=>(List.mem_append.1 hx).elim (hr x) (hds'.defers x)⟩,hc⟩ ha hw
   ·exact fun h w w1 _ ha hw=>bP ha
  ·have e:∀ w,unwind P main fr callers dy w=callDeferred P { fr with defers:=ds } callers dy d w:=fun w=>by
    unfold unwind
    obtain ⟨tg,args⟩:=d
    simp only [hds]
    cases tg <;> first | rfl | exact (hcol ⟨_,rfl⟩).elim
   rw [e,e]
   exact yM hP hds' hc hdd ha hw
 | nil =>
  unfold unwind
  simp only [hds]
  cases hm:fr.mode with
  | run=>exact bP ha
  | panicking chain =>
   dsimp only
   split
   ·exact bP ha
   ·cases callers with
    | cons c rest=>exact bn ⟨oH (hc c (by simp)) chain,fun x hx=>hc x (by simp [hx])⟩ ha hw
    | nil =>
     cases dy with
     | none =>
      dsimp only
      split
      ·exact bn ⟨hf,fun _ h=>nomatch h⟩ ha hw
      ·refine yI (φ:=fun _=>True) (ak.t _ _) ha hw (fun r=>match r with
        | .ok todo w=>.go { frame:=fr,callers:=[],status:=.running,dying:=some { todo,texts:=[],calling:=false,pending := "", runtimeError:=isRuntimeError P (chain.head?.map (·.v)) } } w
        | .halt (.unsupported u) w=>.ended (.unsupported u "") w
        | .halt _ w=>.ended (.stuck "the report of a panic" "") w) ?_ ?_ ?_
       ·intro h w hb
        cases h <;> first | exact hb.elim | exact ⟨_,_,_,rfl,qC⟩ | exact ⟨_,_,_,rfl,dS⟩
       ·exact fun todo w w1 _ ha hw=>bn ⟨hf,fun _ h=>nomatch h⟩ ha hw
       ·intro h w w1 hn ha hw
        cases h <;> exact bP ha
     | some d =>
      dsimp only
      split
      ·exact rP hf ha hw
      ·exact bP ha
  | returning =>
   cases hfn:P.funcs[fr.fn]? with
   | none=>exact qM hP hf hc ha hw
   | some fn =>
    refine pz hP (φ:=fun _=>True) (ak.t (s:=results fn fr.tmps) _ _) ha hw (fun r=>match r with
     | .ok v w=>doReturn P main fr callers dy v w
     | .halt (.stuck s) w=>.ended (.stuck s (fr.pos P)) w
     | .halt _ w=>.ended (.stuck "return: the result variables cannot be read" (fr.pos P)) w) ?_ ?_ ?_
    ·intro h w hb
     cases h <;> first | exact hb.elim | exact ⟨_,_,_,rfl,dS⟩
    ·exact fun v w w1 _ ha hw=>qM hP hf hc ha hw
    ·intro h w w1 hn ha hw
     cases h <;> exact bP ha
class uJ {α:Type} (s:Sem α):Prop where
 t:∀ (C:Code→Prop) (P:Program),Shy false C P (fun _=>True) s
theorem H6 {α β:Type} {s:Sem α} {f:α→Sem β} (h:uJ s) (hf:∀ a,uJ (f a)):uJ (s >>= f):=⟨fun C P=>Shy.bind (fun a _=>(hf a).t C P) (h.t C P)⟩
theorem MW {α:Type} {c:Prop} [Decidable c] {a b:Sem α} (ha:uJ a) (hb:uJ b):uJ (if c then a else b):=by split <;> assumption
instance {α:Type} {a:α}:uJ (pure a:Sem α):=⟨fun _ _=>trivial⟩
instance {α:Type} {a:α}:uJ (Sem.pure a:Sem α):=⟨fun _ _=>trivial⟩
instance {m:Mark}:uJ (mark m):=⟨fun _ _=>⟨fun h=>(nomatch h),trivial⟩⟩
instance {c:Sys}:uJ (sys c):=⟨fun _ _=>⟨fun h=>(nomatch h),fun _=>trivial⟩⟩
instance:uJ program:=⟨fun _ _=>trivial⟩
instance {a:Addr} {m:Mode}:uJ (load a m):=⟨fun _ _ _=>trivial⟩
instance {a:Addr} {v:Value} {m:Mode}:uJ (store a v m):=⟨fun _ _=>trivial⟩
instance {α:Type} {s:String}:uJ (unsupported (.noEntry s):Sem α):=⟨fun _ _=>⟨fun h=>(nomatch h),trivial⟩⟩
instance {α:Type} {s:String}:uJ (stuck s:Sem α):=⟨fun _ _=>⟨fun h=>(nomatch h),trivial⟩⟩
instance {α:Type}:uJ (Sem.halt .blocked:Sem α):=⟨fun _ _=>⟨fun h=>(nomatch h),trivial⟩⟩
instance:uJ Extern.PrintPieces.held:=by
 unfold Extern.PrintPieces.held
 repeat' (first | infer_instance | apply MW | apply H6 | intro _ | dsimp only | split)
theorem JO (hP:FP P) (hf:qg fr) {d:Dying} {f:Fatal} (ha:Alike w0 E w w1) (hw:ay OC w1):fJ w0 E (writeOn P fr d f w) (writeOn P fr d f w1):=by
 unfold writeOn
 dsimp only
 split
 ·exact bP ha
 ·rename_i piece rest _
  generalize hws:(if (!(f.whole && f.begun))=true then (_:Sem Unit) else _)=write
  have hs:uJ write:=by
   rw [← hws]
   repeat' (first | infer_instance | apply MW | apply H6 | intro _ | dsimp only | split)
  rcases l7 (C:=OC) (P:=P) (φ:=fun _=>True) write (hs.t _ _) w w1 #[] #[] ha hw (mZ.refl _) with ⟨h,w',e,hb⟩ | ⟨a,w',w1',es,es1,e1,e2,hφ,ha',hw',hv⟩ | ⟨h,w',w1',es,es1,e1,e2,hn,ha',hw',hv⟩
  ·generalize write.runT P w1 #[]=x at e
   obtain ⟨r,es⟩:=x
   dsimp only at e
   subst e
   cases h <;> first | exact hb.elim | exact .lost qC | exact .lost dS
  ·rw [e1,e2]
   exact .go ⟨hf,fun _ h=>nomatch h⟩ rfl ha' hw' hv
  ·rw [e1,e2]
   cases h <;> first | exact bP ha' | exact bn ⟨hf,fun _ h=>nomatch h⟩ ha' hw'
theorem WQ (hP:FP P) (hf:qg fr) {d:Dying} (ha:Alike w0 E w w1) (hw:ay OC w1):fJ w0 E (die P fr d w) (die P fr d w1):=by
 have hn0:∀ c∈([]:List Frame),qg c:=fun _ h=>nomatch h
 unfold die
 split
 ·exact JO hP hf ha hw
 split
 ·have:printLockHeld P w1=printLockHeld P w:=by unfold printLockHeld;rw [ha.cell]
  rw [this]
  split
  ·exact bn ⟨hf,hn0⟩ ha hw
  ·exact yN ha
 ·dsimp only
  split
  ·exact bn ⟨hf,hn0⟩ ha hw
  ·rename_i v mark rest _ _ s _
   refine yI (P:=P) (φ:=fun _=>True) (ak.t (s:=withAddress s) _ _) ha hw (fun r=>match r with
    | .ok s w=>.go { frame:=fr,callers:=[],status:=.running,dying:=some { { d with todo:=rest,pending:=mark } with texts:=(s,mark) :: d.texts } } w
    | .halt _ w=>.ended (.stuck "report: an address" "") w) ?_ ?_ ?_
   ·exact fun h w _=>⟨_,_,_,rfl,dS⟩
   ·exact fun s w w1 _ ha hw=>bn ⟨hf,hn0⟩ ha hw
   ·exact fun h w w1 _ ha hw=>bP ha
  ·rename_i v mark rest _ _ t recv name _
   have hs:Shy true OC P (kF OC false) (invoke (.fn (.method name) #[]) #[.iface t recv]):=ug hP trivial
   rcases l7 _ hs w w1 #[] #[] ha hw (mZ.refl _) with ⟨h,w',e,hb⟩ | ⟨a,w',w1',es,es1,e1,e2,hφ,ha',hw',hv⟩ | ⟨h,w',w1',es,es1,e1,e2,hn,ha',hw',hv⟩
   ·rw [e]
    cases h <;> first
     | exact hb.elim
     | exact .lost dS
     | exact .lost qC
   ·rw [e1,e2]
    have hv':=jU hP.norace fr.fn hv
    cases a <;> first | (exact hφ.elim) | skip
    case enter f args=>exact aQ (bn ⟨qZ hP f args _,hn0⟩ ha' hw') hv'
    case value v =>
     refine aQ ?_ hv'
     cases v <;> first | exact bP ha | exact bn ⟨hf,hn0⟩ ha' hw'
    all_goals exact aQ (bP ha) hv'
   ·rw [e1,e2]
    have hv':=jU hP.norace fr.fn hv
    cases h <;> first
     | exact aQ (bP ha') hv'
     | exact aQ (bP ha) hv'
     | exact aQ (rP hf ha' hw') hv'
  ·exact bP ha
theorem Ov (hP:FP P) {g:Goroutine} (hg:GI g) (ha:Alike w0 E w w1) (hw:ay OC w1):fJ w0 E (stepG P main g w) (stepG P main g w1):=by
 obtain ⟨fr,callers,st,dy,off⟩:=g
 obtain ⟨hf,hc⟩:=hg
 dsimp only at hf hc
 unfold stepG
 dsimp only
 split
 ·exact WQ hP hf ha hw
 ·exact Rh hP hf hc ha hw
 ·exact J4 hP hf hc ha hw
end
end Go.Tm
