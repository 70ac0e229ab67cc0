/- A part of the proof: U1, U2, U4, U5, U6, U7, U8, U9, U10, P2, S1, R1, R2, M1, M2, M3, M4, M6. -/
import Derived.Test.YtjjmefieegcddaaDoorM01
import Derived.Conc.Crowd
import Derived.Test.YtjjmefieegcddaaDoorM03
import Derived.WalkKit
import Derived.StillTail
import Derived.Deep.Quiet
import Derived.Test.YtjjmefieegcddaaDoorProg
import Derived.WalkSpells
import Derived.WalkLawsBesides
import Derived.RegionTactic
import Derived.Deep.QuietTactic
import Derived.BigQuiet
import Derived.LoopTactic
import Derived.Deep.RegionWith
import Derived.Deep.MidRow
import Derived.OwnWalk
import Derived.OrdersHeld
import Derived.Below
set_option linter.unusedVariables false
set_option linter.unusedSimpArgs false
set_option maxHeartbeats 8000000
namespace Go.Tm
open Go
structure Alike (w0:World) (E:Nat->Prop) (w w1:World):Prop where
 tape:w1.tape=w.tape
 drawn:w1.drawn=w.drawn
 os:w1.os=w.os
 output:w1.output=w.output
 size:w1.heap.size=w.heap.size
 size0:w0.heap.size<=w.heap.size
 obj:∀ i:Nat,(w1.heap[i]? = w.heap[i]?/\∀ o,strange o=true->w0.heap[i]? = some o->w1.heap[i]?≠some clean)\/∃ o,strange o=true/\w0.heap[i]? = some o/\w.heap[i]? = some o/\w1.heap[i]? = some clean
 same:∀ i:Nat,E i->w1.heap[i]? = w.heap[i]?
section
variable {w0 w w1:World} {E:Nat->Prop}
theorem Alike.at (h:Alike w0 E w w1) (i:Nat):w1.heap[i]? = w.heap[i]?\/∃ o,strange o=true/\w.heap[i]? = some o/\w1.heap[i]? = some clean :=
 (h.obj i).elim (fun x=>.inl x.1) fun⟨o,a,_,b,c⟩=>.inr ⟨o,a,b,c⟩
theorem Alike.cell (h:Alike w0 E w w1) (a:Addr):w1.cell? a=w.cell? a:=by
 unfold World.cell?;rcases h.at a.block with e|⟨o,hs,e1,e2⟩
 ·rw[e]
 ·rw[e1,e2];cases o<;>simp[strange]at hs |-
theorem Alike.shape (h:Alike w0 E w w1) (r:Nat):w1.shape? r=w.shape? r:=by
 unfold World.shape?;rcases h.at r with e|⟨o,hs,e1,e2⟩
 ·rw[e]
 ·rw[e1,e2];cases o<;>simp[strange]at hs |-
theorem Alike.frozen (h:Alike w0 E w w1) (a:Addr):w1.frozen? a=w.frozen? a:=by
 unfold World.frozen?;rcases h.at a.block with e|⟨o,hs,e1,e2⟩
 ·rw[e]
 ·rw[e1,e2];cases o<;>simp[strange]at hs |-
theorem Alike.push (h:Alike w0 E w w1) (o:Obj):Alike w0 E {w with heap:=w.heap.push o} {w1 with heap:=w1.heap.push o}:=by
 have key:∀ i:Nat,w1.heap[i]? = w.heap[i]?->(w1.heap.push o)[i]? = (w.heap.push o)[i]?:=fun i e=>by simp only[Array.getElem?_push,h.size,e]
 refine⟨h.tape,h.drawn,h.os,h.output,by simp[h.size],by simp only[Array.size_push];have:=h.size0;omega,fun i=>?_,fun i hi=>key i (h.same i hi)⟩;by_cases hi:i<w.heap.size
 ·have e:∀ (a:Array Obj),a.size=w.heap.size->(a.push o)[i]? = a[i]?:=fun a ha=>by rw [Array.getElem?_push,if_neg (by omega)]
  simp only[e w.heap rfl,e w1.heap h.size];exact h.obj i
 ·refine .inl ⟨key i (by rw[Array.getElem?_eq_none (by rw[h.size];omega),Array.getElem?_eq_none (by omega)]),fun o' _ h0=>?_⟩;have:=h.size0;rw[Array.getElem?_eq_none (by omega)]at h0;cases h0
theorem Alike.set (h:Alike w0 E w w1) (r:Nat) (o:Obj) (ho:o≠clean):Alike w0 E {w with heap:=w.heap.setIfInBounds r o} {w1 with heap:=w1.heap.setIfInBounds r o}:=by
 have key:∀ i:Nat,w1.heap[i]? = w.heap[i]?->(w1.heap.setIfInBounds r o)[i]? = (w.heap.setIfInBounds r o)[i]?:=fun i e=>by simp only[Array.getElem?_setIfInBounds,h.size,e]
 refine⟨h.tape,h.drawn,h.os,h.output,by simp[h.size],by simp only[Array.size_setIfInBounds];exact h.size0,fun i=>?_,fun i hi=>key i (h.same i hi)⟩;by_cases e:r=i
 ·subst e;refine .inl ⟨by simp only [Array.getElem?_setIfInBounds,h.size,if_true],fun o' _ _=>?_⟩;simp only [Array.getElem?_setIfInBounds,if_true];split
  ·exact fun x=>ho (Option.some.inj x)
  ·simp
 ·simp only[Array.getElem?_setIfInBounds,if_neg e];exact h.obj i
theorem Alike.modify (h:Alike w0 E w w1) (r:Nat) (f:Obj->Obj) (hf:∀ o,(∀ c e fr,o≠.cells c e fr)->f o=o) (hc:∀ c e fr,f (.cells c e fr)≠clean):Alike w0 E {w with heap:=w.heap.modify r f} {w1 with heap:=w1.heap.modify r f}:=by
 have key:∀ i:Nat,w1.heap[i]? = w.heap[i]?->(w1.heap.modify r f)[i]? = (w.heap.modify r f)[i]?:=fun i e=>by simp only[Array.getElem?_modify,e]
 refine⟨h.tape,h.drawn,h.os,h.output,by simp[h.size],by simp only[Array.size_modify];exact h.size0,fun i=>?_,fun i hi=>key i (h.same i hi)⟩;rcases h.obj i with⟨e,hn⟩|⟨o,h1,h2,h3,h4⟩
 ·refine .inl ⟨key i e,fun o hs h0=>?_⟩;have:=hn o hs h0;simp only [Array.getElem?_modify];split
  ·cases hx:w1.heap[i]? with
   |none=>simp
   | some x =>
    rw[hx]at this;simp only[Option.map_some];cases x<;>first
     |exact fun y=>hc _ _ _ (Option.some.inj y)
     |(rw[hf _ (by simp)];exact this)
  ·exact this
 ·have fo:f o=o:=hf o fun c e fr=>by cases o <;> simp [strange] at h1 |-
  have fc:f clean=clean:=hf _ fun c e fr=>by simp
  refine .inr ⟨o,h1,h2,?_,?_⟩
  ·simp only[Array.getElem?_modify,h3,Option.map_some,fo,ite_self]
  ·simp only[Array.getElem?_modify,h4,Option.map_some,fc,ite_self]
theorem Alike.seen (h:Alike w0 E w w1) (p:Program) (at_:Addr) (u:TypeId) (k:Addr) (atomic:Bool):w1.seen p at_ u k atomic=w.seen p at_ u k atomic:=by
 unfold World.seen;rcases h.at at_.block with e|⟨o,hs,e1,e2⟩
 ·rw[e]
 ·rw[e1,e2];cases o<;>simp[strange]at hs |-
theorem Alike.other (h:Alike w0 E w w1) {v v1:World} (hv:v.heap=w.heap) (hv1:v1.heap=w1.heap) (ht:v1.tape=v.tape) (hd:v1.drawn=v.drawn) (ho:v1.os=v.os) (hu:v1.output=v.output):Alike w0 E v v1 :=
 ⟨ht,hd,ho,hu,by rw[hv,hv1,h.size],by rw[hv];exact h.size0,by rw[hv,hv1];exact h.obj,by rw[hv,hv1];exact h.same⟩
theorem D5 {α:Type} (k:Ask α):∀ (w:World),(w.ask k).2.heap=w.heap/\(w.ask k).2.os=w.os/\(w.ask k).2.output=w.output/\(w.ask k).2.tape=w.tape:=by
 induction k with
 |done a=>exact fun w=>⟨rfl,rfl,rfl,rfl⟩
 |ask what range k ih =>
  intro w;unfold World.ask;dsimp only;split
  ·exact ih _ w
  ·exact ih _ _
theorem VH {α:Type} (k:Ask α):∀ (w w1:World),w1.tape=w.tape->w1.drawn=w.drawn->(w1.ask k).1=(w.ask k).1/\(w1.ask k).2.drawn=(w.ask k).2.drawn:=by
 induction k with
 |done a=>exact fun w w1 _ h=>⟨rfl,h⟩
 |ask what range k ih =>
  intro w w1 ht hd;unfold World.ask;dsimp only;split
  ·exact ih _ w w1 ht hd
  ·rw[ht,hd];exact ih _ _ _ (by first|exact ht|rfl) (by first|rfl|simp[hd])
theorem Alike.sys (h:Alike w0 E w w1) (c:Sys):(w1.sys c).1=(w.sys c).1/\Alike w0 E (w.sys c).2 (w1.sys c).2:=by
 unfold World.sys;rw[h.os];obtain⟨a1,a2⟩:=VH (Kernel.perform c w.os) w w1 h.tape h.drawn;have b:=D5 (Kernel.perform c w.os) w;have b1:=D5 (Kernel.perform c w.os) w1;generalize w.ask (Kernel.perform c w.os)=x at a1 a2 b |-;generalize w1.ask (Kernel.perform c w.os)=x1 at a1 a2 b1 |-;obtain⟨⟨r,os⟩,v⟩:=x;obtain⟨⟨r1,os1⟩,v1⟩:=x1;cases a1;cases r<;>first
  |exact⟨rfl,h⟩
  |exact⟨rfl,h.other b.1 b1.1 (b1.2.2.2.trans (h.tape.trans b.2.2.2.symm)) a2 rfl (b1.2.2.1.trans (h.output.trans b.2.2.1.symm))⟩
end
def EvA (e e1:Event):Prop:=e1=e\/∃ r,e.loc=.obj r/\e1=⟨.obj r,false,false⟩/\e.write=false
inductive EvL:List Event->List Event->Prop
 |nil:EvL [] []
 |cons {e e1:Event} {l l1:List Event}:EvA e e1->EvL l l1->EvL (e::l) (e1::l1)
def mZ (es es1:Array Event):Prop:=EvL es.toList es1.toList
theorem EvL.refl:∀ (l:List Event),EvL l l
 | []=>.nil
 |_::l=>.cons (.inl rfl) (EvL.refl l)
theorem EvL.app {l l1 m m1:List Event} (h:EvL l l1) (k:EvL m m1):EvL (l ++ m) (l1 ++ m1):=by
 induction h with
 |nil=>exact k
 |cons a _ ih=>exact .cons a ih
theorem mZ.refl (es:Array Event):mZ es es:=EvL.refl _
theorem mZ.push {es es1:Array Event} (h:mZ es es1) {e e1:Event} (he:EvA e e1):mZ (es.push e) (es1.push e1):=by
 unfold mZ;rw[Array.toList_push,Array.toList_push];exact EvL.app h (.cons he .nil)
theorem mZ.append {es es1 l l1:Array Event} (h:mZ es es1) (k:mZ l l1):mZ (es ++ l) (es1 ++ l1):=by
 unfold mZ;rw[Array.toList_append,Array.toList_append];exact EvL.app h k
section
variable {q:Bool} {C:Code->Prop} {P:Program} {w0 w w1:World} {E:Nat->Prop}
def Both (C:Code->Prop) (w0:World) (E:Nat->Prop) {α:Type} (φ:α->Prop) (r r1:Result α × Array Event):Prop :=
 (∃ h w',r1.1=.halt h w'/\Nr h) \/
 (∃ a w' w1' es' es1',r=(.ok a w',es')/\r1=(.ok a w1',es1')/\φ a/\Alike w0 E w' w1'/\ay C w1'/\mZ es' es1') \/
 ∃ h w' w1' es' es1',r=(.halt h w',es')/\r1=(.halt h w1',es1')/\IC h/\Alike w0 E w' w1'/\ay C w1'/\mZ es' es1'
theorem Alike.noCell (h:ay C w1) (a:Addr) (s:String):Nr (w1.noCell a s):=by
 unfold World.noCell;cases hr:w1.heap[a.block]? with
 |none=>trivial
 |some o=>cases o<;>first|trivial|exact(h _ _ hr).elim
theorem Alike.load (h:Alike w0 E w w1) (hw:ay C w1) (P:Program) (a:Addr) (at_:Bool):(∃ x,w1.farLoad P a at_=.ok x/\w.farLoad P a at_=.ok x)\/∃ e,w1.farLoad P a at_=.error e/\Nr e:=by
 unfold World.farLoad;rcases h.at a.block with e|⟨o,hs,e1,e2⟩
 ·rw [e];cases hr:w.heap[a.block]? with
  |none=>exact .inr ⟨_,rfl,Alike.noCell hw _ _⟩
  | some o =>
   cases o<;>first
    |exact .inr ⟨_,rfl,Alike.noCell hw _ _⟩
    | (simp only [World.viewLoad,h.seen]
       generalize (bind (m:=Except String) _ _)=x;cases x with
       |ok r=>exact .inl ⟨r,rfl,rfl⟩
       |error e=>exact .inr ⟨_,rfl,trivial⟩)
 ·rw[e2];exact .inr ⟨_,rfl,Alike.noCell hw _ _⟩
theorem Alike.aaf (h:Alike w0 E w w1) (p:Program) (at_:Addr) (u:TypeId) (k:Addr) (v:Value) (atomic:Bool) :
  (∃ e,w1.viewStore p at_ u k v atomic=.error e) \/
  ∃ c e fr l,w.viewStore p at_ u k v atomic=.ok ({w with heap:=w.heap.setIfInBounds at_.block (.cells c e fr)},l)/\w1.viewStore p at_ u k v atomic=.ok ({w1 with heap:=w1.heap.setIfInBounds at_.block (.cells c e fr)},l):=by
 unfold World.viewStore;simp only[h.seen];cases tight p p.depth u<;>cases w.seen p at_ u k atomic with
 |error e=>first|exact .inl ⟨_,rfl⟩
 | ok x =>
  first
  |exact .inl ⟨_,rfl⟩
  | (obtain ⟨c,e,fr,first,like,cells⟩:=x
     simp only[Bool.not_true,Bool.false_eq_true,if_false];cases v.bytes? with
     |none=>exact .inl ⟨_,rfl⟩
     | some bytes =>
      by_cases hb:some bytes.length≠like.bytes?.map (·.length)
      ·refine .inl ⟨ "memory seen as another type: a value of another size", ?_⟩
       simp only[bind,Except.bind,hb,if_true,ne_eq,not_false_eq_true];rfl
      ·simp only [bind,Except.bind,pure,Except.pure,hb,if_false];generalize hf:(List.foldlM _ c cells:Except String (Array Value))=r;cases r with
       |error e=>exact .inl ⟨e,rfl⟩
       |ok c'=>exact .inr ⟨c',e,fr,_,rfl,rfl⟩)
theorem Alike.store (h:Alike w0 E w w1) (hw:ay C w1) (P:Program) (a:Addr) (v:Value) (at_:Bool):(∃ e,w1.farStore P a v at_=.error e/\Nr e)\/∃ w' w1' l,w.farStore P a v at_=.ok (w',l)/\w1.farStore P a v at_=.ok (w1',l)/\Alike w0 E w' w1'/\ay C w1':=by
 unfold World.farStore;rcases h.at a.block with e|⟨o,hs,e1,e2⟩
 ·rw [e];cases hr:w.heap[a.block]? with
  |none=>exact .inl ⟨_,rfl,Alike.noCell hw _ _⟩
  | some o =>
   cases o<;>first
    |exact .inl ⟨_,rfl,Alike.noCell hw _ _⟩
    | (rename_i b u
       rcases h.aaf P b u a v at_ with⟨e,he⟩|⟨c,e,fr,l,h1,h2⟩
       ·simp only[he];exact .inl ⟨_,rfl,trivial⟩
       ·simp only[h1,h2];exact .inr ⟨_,_,_,rfl,rfl,h.set _ _ (by simp),jF hw trivial⟩)
 ·rw[e2];exact .inl ⟨_,rfl,Alike.noCell hw _ _⟩
theorem l7 {α:Type} {φ:α->Prop} (t:Sem α) (x:Shy q C P φ t):∀ (w w1:World) (es es1:Array Event),Alike w0 E w w1->ay C w1->mZ es es1->Both C w0 E φ (t.runT P w es) (t.runT P w1 es1):=by
 induction t with
 |pure a=>exact fun w w1 es es1 h ho hv=>.inr (.inl ⟨a,w,w1,es,es1,rfl,rfl,x,h,ho,hv⟩)
 |halt h=>exact fun w w1 es es1 hw ho hv=>.inr (.inr ⟨h,w,w1,es,es1,rfl,rfl,x.2,hw,ho,hv⟩)
 |program k ih=>exact fun w w1 es es1 h ho hv=>ih _ x w w1 es es1 h ho hv
 |mark m k ih=>exact fun w w1 es es1 h ho hv=>ih x.2 w w1 _ _ h ho (hv.push (.inl rfl))
 |new o k ih =>
  intro w w1 es es1 h ho hv;unfold Sem.runT;rw[h.size];exact ih _ (x.2 _) _ _ es es1 (h.push o) (air ho x.1) hv
 |shape r k ih =>
  intro w w1 es es1 h ho hv;unfold Sem.runT;rw[h.shape];exact ih _ (x _) w w1 es es1 h ho hv
 |frozen a k ih =>
  intro w w1 es es1 h ho hv;unfold Sem.runT;rw[h.frozen];exact ih _ (x _) w w1 es es1 h ho hv
 |freeze a n k ih =>
  intro w w1 es es1 h ho hv;unfold Sem.runT;have hf:=qI ho a n;revert hf;unfold World.freeze;by_cases hn:n=0
  ·simp only[hn,if_true];exact fun hf=>ih x w w1 es es1 h ho hv
  ·simp only[hn,if_false];exact fun hf=>ih x _ _ es es1 (h.modify _ _ (fun o ho=>by cases o<;>simp at ho |-) (fun c e fr=>by simp)) hf hv
 |choose q k ih =>
  intro w w1 es es1 h ho hv;unfold Sem.runT;by_cases hq:q.forced=true
  ·rw[if_pos hq,if_pos hq];exact ih _ (x _) w w1 es es1 h ho hv
  ·rw[if_neg hq,if_neg hq,h.tape,h.drawn];exact ih _ (x _) _ _ es es1 (h.other rfl rfl (by first|exact h.tape|rfl) rfl h.os h.output) ho hv
 | getObj r k ih =>
  intro w w1 es es1 h ho hv;unfold Sem.runT;rcases h.at r with e|⟨o,hs,e1,e2⟩
  ·rw [e];cases hr:w.heap[r]? with
   |none=>exact .inl ⟨_,w1,rfl,trivial⟩
   |some o =>
    have hoo:=ho r o (by rw[e,hr]);cases o<;>first|exact .inl ⟨_,w1,rfl,trivial⟩|exact ih _ (x.1 _ hoo) w w1 _ _ h ho (hv.push (.inl rfl))
  ·rw [e1,e2];have hx:=x.2 o hs;have hi:k clean=k o->∀ es es1,mZ es es1->Both C w0 E φ ((k o).runT P w es) ((k o).runT P w1 es1):=fun hk es es1 hv=>ih o (hk ▸ x.1 clean trivial) w w1 es es1 h ho hv
   rcases hx with hd|he
   ·refine .inl ?_;show ∃ h w',((k clean).runT P w1 _).1=.halt h w'/\Nr h;generalize k clean=t at hd;cases t<;>first|exact hd.elim|exact⟨_,w1,rfl,hd⟩
   ·cases o<;>simp only[strange,Bool.false_eq_true]at hs <;>
     (show Both C w0 E φ _ ((k clean).runT P w1 _)
      rw[he];exact hi he _ _ (hv.push (.inr ⟨r,rfl,rfl,rfl⟩)))
 | setObj r o k ih =>
  intro w w1 es es1 h ho hv;unfold Sem.runT;rcases h.at r with e|⟨o',hs,e1,e2⟩
  ·rw [e];cases hr:w.heap[r]? with
   |none=>exact .inl ⟨_,w1,rfl,trivial⟩
   |some o'=>cases o'<;>first|exact .inl ⟨_,w1,rfl,trivial⟩|exact ih x.2 _ _ _ _ (h.set r o x.1.2) (jF ho x.1.1) (hv.push (.inl rfl))
  ·rw[e1,e2];cases o'<;>simp only[strange,Bool.false_eq_true]at hs<;>exact ih x.2 _ _ _ _ (h.set r o x.1.2) (jF ho x.1.1) (hv.push (.inl rfl))
 | sys c k ih =>
  intro w w1 es es1 h ho hv;unfold Sem.runT;obtain⟨e,h'⟩:=h.sys c;rw[e];refine ih _ (x.2 _) _ _ _ _ h' ?_ (hv.push (.inl rfl));have:(w1.sys c).2.heap=w1.heap:=by
   unfold World.sys;have b:=D5 (Kernel.perform c w1.os) w1;generalize w1.ask (Kernel.perform c w1.os)=y at b;obtain⟨⟨r,os⟩,v⟩:=y;cases r<;>first|rfl|exact b.1
  intro i o hi;rw[this]at hi;exact ho i o hi
 | load m a k ih =>
  intro w w1 es es1 h ho hv;unfold Sem.runT;rw[h.cell];cases hc:w.cell? a with
  |some v=>exact ih v (x v) w w1 _ _ h ho (hv.push (.inl rfl))
  |none =>
   rcases h.load ho P a (m == .atomic)with⟨y,e1,e2⟩|⟨e,he,hb⟩
   ·simp only[e1,e2];exact ih _ (x _) w w1 _ _ h ho (hv.append (mZ.refl _))
   ·simp only[he];exact .inl ⟨_,w1,rfl,hb⟩
 | store m a v k ih =>
  intro w w1 es es1 h ho hv;have hst:=h.store ho P a v (m == .atomic);cases v<;>first
   |exact .inl ⟨_,w1,rfl,trivial⟩
   | (unfold Sem.runT
      rw[h.cell];cases hc:w.cell? a with
      |some v =>
       simp only[h.frozen];by_cases hf:w.frozen? a=true
       ·simp only[hf,if_true];exact .inl ⟨_,w1,rfl,trivial⟩
       ·simp only[hf,if_false];exact ih x _ _ _ _ (h.modify _ _ (fun o ho=>by cases o<;>simp at ho |-) (fun c e fr=>by simp)) (lC ho _ _) (hv.push (.inl rfl))
      |none =>
       rcases hst with⟨e,he,hb⟩|⟨w',w1',l,e1,e2,h',ho'⟩
       ·simp only[he];exact .inl ⟨_,w1,rfl,hb⟩
       ·simp only[e1,e2];exact ih x _ _ _ _ h' ho' (hv.append (mZ.refl _)))
end
structure FP (P:Program):Prop where
 shy:∀ f,U0 P f
 code:∀ (f:FuncId) (fn:Func) (c:Code),P.funcs[f]? = some fn->fn.body=some c->bY true c=true
 norace:∀ f:FuncId,(P.funcs[f]?).any (·.norace)=false
 safe:∀ t,okT t=true->P.underlying t≠some .unsafePointer
section
variable {t:TypeId} {args:Array Value} {ρ:Operand->Value}
variable {P:Program} {r:Bool} {C:Code->Prop}
theorem vV:Shy true C P (fun d=>P.underlying t=some d) (underlying t):=by
 unfold underlying;show Shy true C P (fun d=>P.underlying t=some d) (match P.underlying t with|some d=>pure d|none=>_);cases h:P.underlying t with
 |none=>exact⟨fun _=>trivial,trivial⟩
 |some d=>exact rfl
theorem Ky (hP:FP P) {s:TypeId} {x:Value} (hs:okT s=true) (ht:okT t=true):Shy true OC P (fun _=>True) (convert s t x):=by
 unfold convert;refine Shy.bind (fun d hd=>Shy.bind (fun d' hd'=>?_) vV) vV;split<;>first
  |exact ak.t _ _
  |(refine eP inferInstance fun _=>?_;split<;>exact ak.t _ _)
  |exact(hP.safe _ hs hd).elim
  |exact(hP.safe _ ht hd').elim
theorem vw (hP:FP P) {recv:Value} {name:String} :Shy true OC P (kF OC r) (callMethod recv name args):=by
 cases recv with
 |iface u v =>
  show Shy true _ P _ (program >>= fun p=>method (p.types.size+Made.depth) u v name >>= fun x=>callFunc x.1 (#[x.2] ++ args));exact eP inferInstance fun p=>eP inferInstance fun x=>tJ (hP.shy _) _
 |nilIface=>unfold callMethod;exact dh _
 |_=>unfold callMethod;exact kK
theorem ug (hP:FP P) {t:Target} (ht:BM r t):Shy true OC P (kF OC r) (invoke t args):=by
 unfold invoke;cases t with
 |nil=>exact dh _
 |builtin b ats ty cs=>exact MR ht.1 ht.2 _ _ _ _
 |coroexit c=>exact ht.elim
 |collected b=>exact kK
 | fn g captured =>
  cases g with
  |func f=>exact tJ (hP.shy f) _
  |yield l=>exact agH
  |via u path f pointer =>
   dsimp only;cases args[0]? with
   |none=>exact kK
   |some x=>exact eP inferInstance fun y=>tJ (hP.shy f) _
  |method name =>
   dsimp only;cases args[0]? with
   |none=>exact kK
   |some x=>exact vw hP
  | methodOf u name =>
   dsimp only;cases args[0]? with
   |none=>exact kK
   |some x =>
    refine eP inferInstance fun y=>?_
    cases y<;>exact vw hP
theorem ny {c:Call} (hc:lH r c=true):Shy true OC P (fun d=>BM r d.target) (resolve ρ c t):=by
 unfold resolve;unfold lH at hc;cases hcc:c.callee with
 |builtin b =>
  rw[hcc]at hc;simp only[Bool.and_eq_true,Bool.or_eq_true,Bool.not_eq_true']at hc;exact⟨hc.1,fun h=>hc.2.resolve_right (by simp[h])⟩
 |value f =>
  show Shy true OC P _ (Deferred.ofValue _ _);unfold Deferred.ofValue;split<;>first|trivial|exact⟨fun _=>trivial,trivial⟩
 |invoke x n=>trivial
theorem Ob (hP:FP P) (hρ:∀ v,ρ (.const v)=v) {o:Oper} (ho:qj r o.op=true):Shy true OC P (kF OC r) (execOp ρ o):=by
 unfold execOp;cases hop:o.op<;>rw[hop]at ho<;>dsimp only[qj]at ho<;>first
  |(cases ho;done)
  |exact wV inferInstance
  |exact VF inferInstance
  |exact jL trivial
  |skip
 case convert s t x =>
  simp only[Bool.and_eq_true]at ho;exact Shy.bind (ψ:=kF OC r) (fun v _=>jL (φ:=kF OC r) (a:=.value v) trivial) (Ky hP ho.1 ho.2)
 case pick c a b=>exact eP (s:=asBool (ρ c)) inferInstance fun _=>jL trivial
 case recv ty ch ok =>
  refine eP inferInstance fun d=>?_
  cases d<;>first|exact kK|exact eP inferInstance fun z=>jL trivial
 case makeChan ty x =>
  refine wV ?_;unfold JF at ho;split at ho
  ·rename_i k n;have hn:n=0:=by simpa using ho
   subst hn;rw[hρ];unfold Instr.makeChan;show ak (underlying ty >>= _);refine aW inferInstance fun d=>?_
   cases d <;> first | exact (aF:ak (stuck "MakeChan: channel type expected" : Sem Value)) | skip
   dsimp only;refine aW inferInstance fun ti=>?_
   split
   ·refine aW ⟨fun C P=>dh _⟩ fun _=>?_
    exact aW (iP fun _=>⟨rfl,rfl,rfl⟩) fun _=>inferInstance
   ·exact aW (iP fun _=>⟨rfl,rfl,rfl⟩) fun _=>inferInstance
  ·cases ho
 case nilCheck x =>
  dsimp only;repeat' (first|exact dh _|(refine eP inferInstance fun _=>?_)|split|trivial|exact⟨fun _=>trivial,trivial⟩)
 case call c=>exact Shy.bind (fun d hd=>ug hP hd) (ny ho)
 next c =>
  simp only[Bool.and_eq_true]at ho;exact Shy.bind (fun d hd=>jL (φ:=kF OC r) (a:=.spawn d) (rU hd)) (ny ho.2)
 next c=>exact Shy.bind (fun d hd=>jL (φ:=kF OC r) (a:=.defer d) (rU hd)) (ny ho)
end
structure FrI (fr:Frame):Prop where
 todo:∀ x∈fr.todo,iC fr.roundOf.isNone x
 defers:∀ d∈fr.defers,iZ d
structure GI (g:Goroutine):Prop where
 fr:FrI g.frame
 callers:∀ c∈g.callers,FrI c
section
variable {P:Program} {fr:Frame} {callers:List Frame} {dy:Option Dying}
theorem FrI.ok (h:FrI fr):qh {fr with kind:=.normal}:=⟨h.todo,h.defers,.inl rfl⟩
theorem Nu (fr:Frame) (v:Value):({fr with kind:=.normal}:Frame).finish v={fr.finish v with kind:=.normal}:=by
 unfold Frame.finish;split<;>rename_i h<;>dsimp only at h<;>simp only[h]
theorem OG (fr:Frame) (l:List PanicEntry):({fr with kind:=.normal}:Frame).raise l={fr.raise l with kind:=.normal}:=by
 unfold Frame.raise;dsimp only;split<;>rfl
theorem fG (h:FrI fr) (v:Value):FrI (fr.finish v):=by
 have:=(aZ h.ok v).1;rw[Nu]at this;exact⟨this.todo,this.defers⟩
theorem oH (h:FrI fr) (l:List PanicEntry):FrI (fr.raise l):=by
 have:=(dI h.ok l).1;rw[OG]at this;exact⟨this.todo,this.defers⟩
theorem zy (h:FrI fr) (m:FrameMode):FrI {fr with mode:=m}:=⟨h.todo,h.defers⟩
theorem qZ (hP:FP P) (f:FuncId) (args:Array Value) (k:CallKind):FrI (Frame.enter P f args k):=by
 refine⟨?_,by simp[Frame.enter]⟩;intro x hx;simp only[Frame.enter,List.mem_singleton]at hx;subst hx;show bY true _=true;cases hfn:P.funcs[f]? with
 |none=>rfl
 |some fn =>
  show bY true (fn.body.getD _)=true;cases hb:fn.body with
  |none=>rfl
  |some c=>exact hP.code f fn c hfn hb
theorem Hq {l:Nat} {f:FuncId} {tmps:Array Value} {assign body:Code} (ha:OC assign) (hb:OC body) (k:CallKind):FrI (Frame.round l f tmps assign body k) :=
 ⟨(uh ha hb (.inl rfl):qh (Frame.round l f tmps assign body .normal)).todo,(uh ha hb (.inl rfl):qh (Frame.round l f tmps assign body .normal)).defers⟩
theorem EH (h:FrI fr) {todo:List Item} (ht:∀ x∈todo,iC fr.roundOf.isNone x):FrI {fr with todo}:=⟨ht,h.defers⟩
theorem zJ (h:FrI fr) (hc:∀ c∈callers,FrI c):∀ c∈fr::callers,FrI c:=fun c h'=>(List.mem_cons.1 h').elim (fun e=>e ▸ h) (hc c)
theorem Bo:∀ (callers:List Frame) (fr:Frame) (v:Value) (cs:List Frame),(∀ c∈callers,FrI c)->tryRecover fr callers=some (v,cs)->∀ c∈cs,FrI c
 | [],fr,v,cs,_,h=>by
  unfold tryRecover at h;split at h<;>simp_all
 | c::rest,fr,v,cs,hc,h=>by
  have hr:∀ x∈rest,FrI x:=fun x hx=>hc x (by simp[hx])
  have h0:FrI c:=hc c (by simp);unfold tryRecover at h;split at h
  ·rename_i c' rest' e1 e2;cases e2;split at h
   ·cases h;exact zJ (zy h0 _) hr
   ·cases h
  ·rename_i c' rest' e1 e2;cases e2;cases ht:tryRecover c rest with
   |none=>rw[ht]at h;cases h
   |some x =>
    obtain⟨v2,cs2⟩:=x;rw[ht]at h;cases h;exact zJ h0 (Bo rest c _ cs2 hr ht)
  ·cases h
end
theorem Ig {P:Program} (hP:∀ f:FuncId,(P.funcs[f]?).any (·.norace)=false) (fn:FuncId) (es:Array Event) :
  (seen P fn es).toList=es.toList.filter fun e=>match e.loc with | .mark (.extern _)=>false|_=>true:=by
 unfold seen;dsimp only;rw[hP fn,<- Array.foldl_toList];have key:∀ (l:List Event) (kept:Array Event),
   (l.foldl (fun (x:Bool × Array Event) e=>match x with | (q,kept)=>match e.loc with | .mark (.extern f)=>((P.funcs[f]?).any (·.norace),kept) | _=>(q,if q && !e.sync then kept else kept.push e)) (false,kept)).2.toList
    = kept.toList ++ l.filter fun e=>match e.loc with | .mark (.extern _)=>false|_=>true:=by
  intro l
  induction l with
  |nil=>exact fun kept=>by simp
  |cons e l ih =>
   intro kept;rw[List.foldl_cons,List.filter_cons];dsimp only;split
   ·rw[hP];exact ih kept
   ·simp only[Bool.false_and,Bool.false_eq_true,if_false,if_true];rw[ih (kept.push e)];simp
 exact(key es.toList #[]).trans (by simp)
theorem jU {P:Program} (hP:∀ f:FuncId,(P.funcs[f]?).any (·.norace)=false) (fn:FuncId) {es es1:Array Event} (h:mZ es es1):mZ (seen P fn es) (seen P fn es1):=by
 unfold mZ;rw[Ig hP,Ig hP];unfold mZ at h;generalize es.toList=l at h;generalize es1.toList=l1 at h
 induction h with
 |nil=>exact .nil
 | @cons e e1 l l1 a _ ih =>
  rcases a with rfl|⟨r,h1,rfl,h2⟩
  ·rw [List.filter_cons,List.filter_cons];by_cases hq:(match e1.loc with | .mark (.extern _)=>false | _=>true)=true
   ·rw[if_pos hq,if_pos hq];exact .cons (.inl rfl) ih
   ·rw[if_neg hq,if_neg hq];exact ih
  ·rw[List.filter_cons,List.filter_cons];simp only[h1,if_true];exact .cons (.inr ⟨r,h1,rfl,h2⟩) ih
def bad (o:Outcome):Prop:=∀ v,o≠.done v
inductive fJ (w0:World) (E:Nat->Prop):GStep->GStep->Prop
 |lost {s:GStep} {o:Outcome} {w:World} {es:Array Event}:bad o->fJ w0 E s (.ended o w es)
 |go {g:Goroutine} {w w1:World} {es es1:Array Event}:GI g->g.offers=none->Alike w0 E w w1->ay OC w1->mZ es es1->fJ w0 E (.go g w es) (.go g w1 es1)
 |comm {g:Goroutine} {c:Array CommCase} {b:Bool} {sh:CommShape} {w w1:World} {es es1:Array Event}:GI g->g.offers=none->Alike w0 E w w1->ay OC w1->mZ es es1->fJ w0 E (.comm g c b sh w es) (.comm g c b sh w1 es1)
 |spawn {g c:Goroutine} {w w1:World} {es es1:Array Event}:GI g->g.offers=none->GI c->c.offers=none->Alike w0 E w w1->ay OC w1->mZ es es1->fJ w0 E (.spawn g c w es) (.spawn g c w1 es1)
 |ended {o:Outcome} {w w1:World} {es es1:Array Event}:Alike w0 E w w1->mZ es es1->fJ w0 E (.ended o w es) (.ended o w1 es1)
section
variable {b m:String}
variable {P:Program} {w0 w w1:World} {E:Nat->Prop} {fr:Frame} {callers:List Frame} {dy:Option Dying} {main:Bool}
theorem aQ {s s1:GStep} {es es1:Array Event} (h:fJ w0 E s s1) (hv:mZ es es1):fJ w0 E (s.after es) (s1.after es1):=by
 cases h with
 |lost h=>exact .lost h
 |go a o b c d=>exact .go a o b c (hv.append d)
 |comm a o b c d=>exact .comm a o b c (hv.append d)
 |spawn a o a' o' b c d=>exact .spawn a o a' o' b c (hv.append d)
 |ended a d=>exact .ended a (hv.append d)
theorem af7 {g:Goroutine} (hg:GI g) (ha:Alike w0 E w w1) (hw:ay OC w1) (ho:g.offers=none:=by rfl):fJ w0 E (.go g w) (.go g w1):=.go hg ho ha hw (mZ.refl _)
theorem bP {o:Outcome} (ha:Alike w0 E w w1):fJ w0 E (.ended o w) (.ended o w1):=.ended ha (mZ.refl _)
theorem pz {α:Type} {φ:α->Prop} {s:Sem α} {fn:FuncId} (hP:FP P) (hs:Shy true OC P φ s) (ha:Alike w0 E w w1) (hw:ay OC w1) (K:Result α->GStep)
 (hbad:∀ h w,Nr h->∃ o w' es,K (.halt h w)=.ended o w' es/\bad o)
 (hok:∀ a w w1,φ a->Alike w0 E w w1->ay OC w1->fJ w0 E (K (.ok a w)) (K (.ok a w1)))
 (hh:∀ h w w1,IC h->Alike w0 E w w1->ay OC w1->fJ w0 E (K (.halt h w)) (K (.halt h w1))) :
  fJ w0 E (GStep.after (seen P fn (s.runT P w #[]).2) (K (s.runT P w #[]).1)) (GStep.after (seen P fn (s.runT P w1 #[]).2) (K (s.runT P w1 #[]).1)):=by
 rcases l7 s hs w w1 #[] #[] ha hw (mZ.refl _)with⟨h,w',e,hb⟩|⟨a,w',w1',es,es1,e1,e2,hφ,ha',hw',hv⟩|⟨h,w',w1',es,es1,e1,e2,hn,ha',hw',hv⟩
 ·obtain⟨o,w2,es2,h1,h2⟩:=hbad h w' hb;rw[e,h1];exact .lost h2
 ·rw[e1,e2];exact aQ (hok a w' w1' hφ ha' hw') (jU hP.norace _ hv)
 ·rw[e1,e2];exact aQ (hh h w' w1' hn ha' hw') (jU hP.norace _ hv)
theorem yI {α:Type} {φ:α->Prop} {s:Sem α} (hs:Shy true OC P φ s) (ha:Alike w0 E w w1) (hw:ay OC w1) (K:Result α->GStep)
 (hbad:∀ h w,Nr h->∃ o w' es,K (.halt h w)=.ended o w' es/\bad o)
 (hok:∀ a w w1,φ a->Alike w0 E w w1->ay OC w1->fJ w0 E (K (.ok a w)) (K (.ok a w1)))
 (hh:∀ h w w1,IC h->Alike w0 E w w1->ay OC w1->fJ w0 E (K (.halt h w)) (K (.halt h w1))) :
  fJ w0 E (K (s.run P w)) (K (s.run P w1)):=by
 have e0:∀ w,(s.runT P w #[]).1=s.run P w:=fun w=>by rw[Sem.runT_eq]
 rw[<- e0 w,<- e0 w1];rcases l7 s hs w w1 #[] #[] ha hw (mZ.refl _)with⟨h,w',e,hb⟩|⟨a,w',w1',es,es1,e1,e2,hφ,ha',hw',hv⟩|⟨h,w',w1',es,es1,e1,e2,hn,ha',hw',hv⟩
 ·obtain⟨o,w2,es2,h1,h2⟩:=hbad h w' hb;rw[e,h1];exact .lost h2
 ·rw[e1,e2];exact hok a w' w1' hφ ha' hw'
 ·rw[e1,e2];exact hh h w' w1' hn ha' hw'
theorem dS {a:String}:bad (.stuck a b):=fun _ h=>nomatch h
theorem qC {a:Unsupported} :bad (.unsupported a b):=fun _ h=>nomatch h
theorem aeM (hf:FrI fr) {l:List ByteArray} {b:Bool} (ha:Alike w0 E w w1) (hw:ay OC w1):fJ w0 E (dieOf fr l m b w) (dieOf fr l m b w1) :=
 af7 ⟨hf,fun _ h=>nomatch h⟩ ha hw
theorem rP (hf:FrI fr) {v:Value} (ha:Alike w0 E w w1) (hw:ay OC w1):fJ w0 E (endPrinting P fr v w) (endPrinting P fr v w1):=by
 unfold endPrinting;dsimp only;split
 ·exact aeM hf ha hw
 ·exact bP ha
theorem yN {n:Nat} {t:ByteArray} {o:Outcome} (ha:Alike w0 E w w1):fJ w0 E (endWith w n t o) (endWith w1 n t o):=by
 unfold endWith;dsimp only;obtain⟨e,h⟩:=ha.sys (.write n t);generalize w.sys (.write n t)=x at e h;generalize w1.sys (.write n t)=x1 at e h;obtain⟨r,v⟩:=x;obtain⟨r1,v1⟩:=x1;cases e;cases r<;>dsimp only<;>first
  |exact bP h
  |(split<;>exact bP h)
instance Cm:∀ (l:List PanicEntry) (b:Bool),ak (reportChain l b)
 | [],b=>by unfold reportChain;infer_instance
 |e::l,b=>by
  have ih:=Cm l;unfold reportChain;repeat' (first|infer_instance|exact ih _|(apply Em;intro _)|apply J8|apply aW|intro _|dsimp only|split)
theorem Gt {α β:Type} (f:α->Sem β) (h:∀ c,ak (f c)):∀ (l:List α),ak (l.mapM f)
 | []=>by simp only[List.mapM_nil];infer_instance
 |c::l=>by
  simp only[List.mapM_cons];exact aW (h c) fun _=>aW (Gt f h l) fun _=>inferInstance
instance {s:ByteArray}:ak (withAddress s):=by unfold withAddress;infer_instance
theorem xg (hf:FrI fr) (ha:Alike w0 E w w1) (hw:ay OC w1):fJ w0 E (endFatal P fr callers dy m w) (endFatal P fr callers dy m w1):=by
 unfold endFatal;dsimp only;refine yI (P:=P) (φ:=fun _=>True) (s:=_) (ak.t (self:=?_) _ _) ha hw (fun r=>match r with
  |.ok (texts,tabs) w=>dieOf fr (panicPieces texts ++ tabs) m true w
  | .halt (.unsupported u) w=>.ended (.unsupported u "") w
  | .halt _ w=>.ended (.stuck "the report of a panic" "") w) ?_ ?_ ?_
 ·repeat' (first|infer_instance|(apply Gt;intro _)|apply aW|intro _|dsimp only|split)
 ·intro h w hb;cases h<;>first|exact hb.elim|exact⟨_,_,_,rfl,qC⟩|exact⟨_,_,_,rfl,dS⟩
 ·exact fun a w w1 _ ha hw=>aeM hf ha hw
 ·intro h w w1 hn ha hw;cases h<;>exact bP ha
end
section
variable {P:Program} {w0 w w1:World} {E:Nat->Prop} {fr:Frame} {callers:List Frame} {dy:Option Dying} {main:Bool}
theorem E8 {c:Prop} [Decidable c] {a b a1 b1:GStep} (h:c->fJ w0 E a a1) (h':¬c->fJ w0 E b b1):fJ w0 E (if c then a else b) (if c then a1 else b1):=by
 by_cases x:c
 ·rw[if_pos x,if_pos x];exact h x
 ·rw[if_neg x,if_neg x];exact h' x
theorem tu (hP:FP P) (hf:FrI fr) (hc:∀ c∈callers,FrI c) {s:Sem Next} (hs:Shy true OC P (kF OC fr.roundOf.isNone) s) (ha:Alike w0 E w w1) (hw:ay OC w1) :
  fJ w0 E (stepG.apply P true fr callers dy s w) (stepG.apply P true fr callers dy s w1):=by
 have hno:∀ d wr rs sv k,fr.todo=.call d wr rs sv::k->False:=fun d wr rs sv k h=>by
  have:=hf.todo;rw[h]at this;exact this (.call d wr rs sv) (by simp)
 have hcs:=zJ hf hc;have ev:∀ {es es1:Array Event},mZ es es1->mZ (if (fr.kind == CallKind.early)=true then #[] else es) (if (fr.kind == CallKind.early)=true then #[] else es1):=fun h=>by
  split
  ·exact mZ.refl _
  ·exact h
 unfold stepG.apply;dsimp only;simp only[if_true];rcases l7 s hs w w1 #[] #[] ha hw (mZ.refl _)with⟨h,w',e,hb⟩|⟨a,w',w1',es,es1,e1,e2,hφ,ha',hw',hv⟩|⟨h,w',w1',es,es1,e1,e2,hn,ha',hw',hv⟩
 ·rw[e];cases h<;>first
   |exact hb.elim
   |exact .lost dS
   |(rename_i u;cases u<;>first|exact hb.elim|exact .lost qC)
 ·rw [e1,e2];have hv':=jU hP.norace fr.fn (ev hv);cases a <;> first | (exact hφ.elim) | skip
  case value v=>exact aQ (af7 ⟨fG hf v,hc⟩ ha' hw') hv'
  case skip=>exact aQ (af7 ⟨fG hf _,hc⟩ ha' hw') hv'
  case enter f args=>exact aQ (af7 ⟨qZ hP f args _,hcs⟩ ha' hw') hv'
  case round l f tmps assign body=>exact aQ (af7 ⟨Hq hφ.1 hφ.2 _,hcs⟩ ha' hw') hv'
  next d =>
   exact aQ (af7 ⟨fG (fr:={fr with defers:=d::fr.defers}) ⟨hf.todo,fun x hx=>(List.mem_cons.1 hx).elim (fun e=>e ▸ hφ) (hf.defers x)⟩ undef,hc⟩ ha' hw') hv'
  case recover =>
   have hro:fr.roundOf=none:=by
    have:fr.roundOf.isNone=true:=hφ;simpa using this
   refine aQ ?_ hv';simp only[hro];cases ht:tryRecover fr callers with
   |none=>exact af7 ⟨fG hf _,hc⟩ ha' hw'
   |some x =>
    obtain⟨v,cs⟩:=x;exact af7 ⟨fG hf v,Bo callers fr v cs hc ht⟩ ha' hw'
  case comm c b sh=>exact aQ (.comm ⟨hf,hc⟩ rfl ha' hw' (mZ.refl _)) hv'
  case spawn d =>
   refine aQ ?_ hv';dsimp only;refine E8 (fun _=>aeM hf ha' hw') (fun _=>?_)
   ·refine .spawn ⟨fG hf _,hc⟩ rfl ⟨⟨fun x hx=>(nomatch hx),fun x hx=>?_⟩,fun _ h=>nomatch h⟩ rfl ha' hw' (mZ.refl _);rcases List.mem_singleton.1 hx with rfl;exact hφ
 ·rw [e1,e2];have hv':=jU hP.norace fr.fn (ev hv);have hv0:=jU hP.norace fr.fn (ev (mZ.refl #[]));cases h <;> first
   |exact aQ (bP ha') hv'
   |skip
  case panic v=>exact aQ (af7 ⟨oH hf _,hc⟩ ha' hw') hv'
  case goexit=>exact aQ (af7 ⟨oH hf _,hc⟩ ha' hw') hv'
  case blocked=>exact aQ (af7 ⟨hf,hc⟩ ha' hw') hv0
  case waiting=>exact aQ (af7 ⟨hf,hc⟩ ha' hw') hv0
  case fatal m=>exact aQ (xg hf ha' hw') hv'
  case throw m=>exact aQ (aeM hf ha' hw') hv'
  case unsupported u=>cases u<;>first|exact hn.elim|exact aQ (bP ha') hv'
theorem qM (hP:FP P) (hf:FrI fr) (hc:∀ c∈callers,FrI c) {v:Value} (ha:Alike w0 E w w1) (hw:ay OC w1) :
  fJ w0 E (doReturn P main fr callers dy v w) (doReturn P main fr callers dy v w1):=by
 unfold doReturn;cases callers with
 | cons c rest =>
  have h0:FrI c:=hc c (by simp);have hr:∀ x∈rest,FrI x:=fun x hx=>hc x (by simp[hx])
  dsimp only;split
  ·exact af7 ⟨fG h0 v,hr⟩ ha hw
  ·exact af7 ⟨fG h0 v,hr⟩ ha hw
  ·exact af7 ⟨h0,hr⟩ ha hw
  ·refine af7 ⟨?_,hr⟩ ha hw;split
   ·split
    ·exact zy h0 _
    ·exact zy h0 _
   ·exact h0
 | nil =>
  dsimp only;split
  ·exact af7 ⟨hf,fun _ h=>nomatch h⟩ ha hw
  ·exact bP ha
  ·split
   ·exact af7 ⟨hf,fun _ h=>nomatch h⟩ ha hw
   ·split
    ·exact af7 ⟨qZ hP _ _ _,fun _ h=>nomatch h⟩ ha hw
    ·exact bP ha
theorem xY (hP:FP P) (hf:FrI fr) (hc:∀ c∈callers,FrI c) {jump:Option Code} (hj:∀ c,jump=some c->OC c) {F:World->GStep} (ha:Alike w0 E w w1) (hw:ay OC w1)
  (hF:∀ w,F w=(match fr.roundOf with
   | none=>if Aw jump then .go { frame:={ fr with mode:=.returning },callers,status:=.running,dying:=dy } w else .ended (.stuck "exit, goto: no such block or label" (fr.pos P)) w
   |some l =>
    let(r,es):=(Instr.endRound l jump).runT P w #[]
    GStep.after (seen P fr.fn es) <| match r with
    |.ok v w=>doReturn P main fr callers dy v w
    | .halt _ w=>.ended (.stuck "range over a function: no such loop" (fr.pos P)) w)):fJ w0 E (F w) (F w1):=by
 rw[hF,hF];have h0:FrI {fr with mode:=.returning}:=zy hf _;revert h0;cases fr.roundOf with
 |none=>exact fun h0=>E8 (fun _=>af7 ⟨h0,hc⟩ ha hw) (fun _=>bP ha)
 |some l =>
  intro _;refine pz hP (JL hj) ha hw (fun r=>match r with
    |.ok v w=>doReturn P main fr callers dy v w
    | .halt _ w=>.ended (.stuck "range over a function: no such loop" (fr.pos P)) w) ?_ ?_ ?_
  ·exact fun h w _=>⟨_,_,_,rfl,dS⟩
  ·exact fun a w w1 _ ha hw=>qM hP hf hc ha hw
  ·exact fun h w w1 _ ha hw=>bP ha
theorem Rh (hP:FP P) (hf:FrI fr) (hc:∀ c∈callers,FrI c) (ha:Alike w0 E w w1) (hw:ay OC w1) :
  fJ w0 E (stepG.exec P main true fr callers dy w) (stepG.exec P main true fr callers dy w1):=by
 have to:∀ {todo:List Item} (_:∀ w,stepG.exec P main true fr callers dy w=.go {frame:={fr with todo},callers,status:=.running,dying:=dy} w) (_:∀ x∈todo,iC fr.roundOf.isNone x),
   fJ w0 E (stepG.exec P main true fr callers dy w) (stepG.exec P main true fr callers dy w1):=fun h ht=>by
  rw[h,h];exact af7 ⟨EH hf ht,hc⟩ ha hw
 have lost:∀ (o:Outcome),bad o->(∀ w,stepG.exec P main true fr callers dy w=.ended o w)->fJ w0 E (stepG.exec P main true fr callers dy w) (stepG.exec P main true fr callers dy w1):=fun o ho h=>by
  rw[h w1];exact .lost ho
 cases htd:fr.todo with
 |nil=>exact xY (main:=main) (jump:=none) hP hf hc (by simp) ha hw fun w=>by simp only[stepG.exec,htd];cases fr.roundOf<;>rfl
 | cons x k =>
  have hx:iC fr.roundOf.isNone x:=hf.todo x (by simp[htd]);have hkk:∀ y∈k,iC fr.roundOf.isNone y:=fun y hy=>hf.todo y (by simp[htd,hy])
  have two:∀ {a b:Item},iC fr.roundOf.isNone a->iC fr.roundOf.isNone b->∀ y∈a::b::k,iC fr.roundOf.isNone y:=fun h1 h2 y hy=>by
   rcases List.mem_cons.1 hy with rfl|hy
   ·exact h1
   ·rcases List.mem_cons.1 hy with rfl | hy
    ·exact h2
    ·exact hkk y hy
  have one:∀ {a:Item},iC fr.roundOf.isNone a->∀ y∈a::k,iC fr.roundOf.isNone y:=fun h1 y hy=>by
   rcases List.mem_cons.1 hy with rfl|hy
   ·exact h1
   ·exact hkk y hy
  cases x with
  |call d wr res sv=>exact hx.elim
  |extern row args=>exact hx.elim
  |inScope c=>exact to (todo:=k) (fun w=>by simp only[stepG.exec,htd]) hkk
  |inBlock id=>exact to (todo:=k) (fun w=>by simp only[stepG.exec,htd]) hkk
  |inLoop body=>exact to (todo:=.code body::.inLoop body::k) (fun w=>by simp only[stepG.exec,htd]) (two hx hx)
  |beginRound =>
   have e:∀ w,stepG.exec P main true fr callers dy w=stepG.apply P true fr callers dy (do fr.roundOf.elim (stuck "beginRound: no round") Instr.beginRound;pure .skip) w:=fun w=>by simp only [stepG.exec,htd]
   rw[e,e];refine tu hP hf hc ?_ ha hw;cases fr.roundOf with
   |none=>exact Shy.bind (φ:=fun _=>True) (fun _ _=>jL trivial) (by exact kK)
   |some l=>exact Shy.bind (fun _ _=>jL trivial) (Dq (l:=l))
  | inRangeFunc l=>exact lost (.unsupported (.noEntry "a range function without a Go body that blocks") (fr.pos P)) qC fun w=>by simp only [stepG.exec,htd]
  | endRangeFunc l =>
   have e:∀ w,stepG.exec P main true fr callers dy w=GStep.after (seen P fr.fn ((Instr.endLoop l).runT P w #[]).2) (match ((Instr.endLoop l).runT P w #[]).1 with
    |.ok jump w=>.go {frame:={fr with todo:=(jump.map Item.code).toList ++ k},callers,status:=.running,dying:=dy} w
    |.halt (.panic v) w=>.go {frame:=fr.raise [{v,recovered:=false}],callers,status:=.running,dying:=dy} w
    | .halt _ w=>.ended (.stuck "range over a function: no such loop" (fr.pos P)) w):=fun w=>by simp only [stepG.exec,htd];rfl
   rw[e,e];refine pz hP Nj ha hw (fun r=>match r with
    |.ok jump w=>.go {frame:={fr with todo:=(jump.map Item.code).toList ++ k},callers,status:=.running,dying:=dy} w
    |.halt (.panic v) w=>.go {frame:=fr.raise [{v,recovered:=false}],callers,status:=.running,dying:=dy} w
    | .halt _ w=>.ended (.stuck "range over a function: no such loop" (fr.pos P)) w) ?_ ?_ ?_
   ·intro h w hb;cases h<;>first|exact hb.elim|exact⟨_,_,_,rfl,dS⟩
   ·intro jump w w1 hr ha hw;refine af7 ⟨EH hf fun y hy=>?_,hc⟩ ha hw;rcases List.mem_append.1 hy with hy | hy
    ·cases jump with
     |none=>simp at hy
     |some c =>
      simp only[Option.map_some,Option.toList_some,List.mem_singleton]at hy;subst hy;exact gW (hr c rfl)
    ·exact hkk y hy
   ·intro h w w1 hn ha hw;cases h<;>first
     |exact bP ha
     |exact af7 ⟨oH hf _,hc⟩ ha hw
  | inRegion ops todo =>
   cases todo with
   |nil=>exact to (todo:=k) (fun w=>by simp only[stepG.exec,htd]) hkk
   | cons i rest =>
    by_cases hwt:(((ops[i]?).map (Region.wanted · (yielded ops fr.tmps))).getD false)=true
    ·cases hop:ops[i]? with
     |none=>rw[hop]at hwt;cases hwt
     | some o =>
      have hoo:qj fr.roundOf.isNone o.op=true:=by
       have hx':(ops.all fun o=>qj fr.roundOf.isNone o.op)=true:=hx;rw[Array.all_eq_true]at hx';obtain⟨hi,rfl⟩:=Array.getElem?_eq_some_iff.1 hop;exact hx' i hi
      have hfo:fr.oper? = some o:=by unfold Frame.oper?;rw[htd];exact hop
      by_cases hdf:∃ l c,fr.roundOf=some l/\o.op=.defer c
      ·obtain ⟨l,c,hro,hoc⟩:=hdf;have hoc':lH false c=true:=by rw [hoc] at hoo;exact hoo
       have e:∀ w,stepG.exec P main true fr callers dy w=stepG.apply P true fr callers dy (do Instr.deferInRound l (<- resolve fr.eval c o.type);pure .skip) w:=fun w=>by
        simp only[stepG.exec,htd,hwt,if_true,stepG.oper,hfo,hro,hoc]
       rw[e,e];refine tu hP hf hc ?_ ha hw;refine Shy.bind (fun d hd=>?_) (ny hoc');exact Shy.bind (fun _ _=>jL trivial) (AB (rU hd))
      ·have e:∀ w,stepG.exec P main true fr callers dy w=stepG.apply P true fr callers dy (execOp fr.eval o) w:=fun w=>by
        simp only[stepG.exec,htd,hwt,if_true,stepG.oper,hfo];split
        ·rename_i l c h1 h2;exact(hdf ⟨l,c,h1,h2⟩).elim
        ·rfl
       rw[e,e];exact tu hP hf hc (Ob hP (fun _=>rfl) hoo) ha hw
    ·have e:∀ w,stepG.exec P main true fr callers dy w=.go { frame:=fr.finish undef,callers,status:=.running,dying:=dy } w:=fun w=>by
      simp only[stepG.exec,htd,hwt];rfl
     rw[e,e];exact af7 ⟨fG hf _,hc⟩ ha hw
  | code c =>
   have hcd:bY fr.roundOf.isNone c=true:=hx;cases c with
   |ret=>exact xY (main:=main) (jump:=some .ret) hP hf hc (by rintro c h;cases h;rfl) ha hw fun w=>by simp only[stepG.exec,htd];cases fr.roundOf<;>rfl
   |skip=>exact to (todo:=k) (fun w=>by simp only[stepG.exec,htd]) hkk
   |label l=>exact to (todo:=k) (fun w=>by simp only[stepG.exec,htd]) hkk
   |seq a b =>
    simp only[bY,Bool.and_eq_true]at hcd;exact to (todo:=.code a::.code b::k) (fun w=>by simp only[stepG.exec,htd]) (two hcd.1 hcd.2)
   | cond e a b =>
    simp only[bY,Bool.and_eq_true]at hcd;by_cases hb:∃ b,fr.eval e=.bool b
    ·obtain ⟨t,ht⟩:=hb;refine to (todo:=.code (if t then a else b)::k) (fun w=>by simp only [stepG.exec,htd,ht]) (one ?_);show bY _ _=true;cases t
     ·exact hcd.2
     ·exact hcd.1
    ·refine lost (.stuck "cond: bool expected" (fr.pos P)) dS fun w=>?_
     simp only[stepG.exec,htd];split
     ·rename_i b' h';exact(hb ⟨b',h'⟩).elim
     ·rfl
   |block id body=>exact to (todo:=.code body::.inBlock id::k) (fun w=>by simp only[stepG.exec,htd]) (two hcd trivial)
   |loop body=>exact to (todo:=.code body::.inLoop body::k) (fun w=>by simp only[stepG.exec,htd]) (two hcd hcd)
   |scope body=>exact to (todo:=.code body::.inScope body::k) (fun w=>by simp only[stepG.exec,htd]) (two hcd trivial)
   |goto l=>cases hcd
   |exit id =>
    cases he:exitTo id k with
    |some k'=>exact to (todo:=k') (fun w=>by simp only[stepG.exec,htd,he,Option.elim_some]) (GX he hkk)
    |none=>exact xY (main:=main) (jump:=some (.exit id)) hP hf hc (by rintro c h;cases h;rfl) ha hw fun w=>by simp only[stepG.exec,htd,he,Option.elim_none];cases fr.roundOf<;>rfl
   |refuse why=>exact lost (.unsupported (Unsupported.elab why) (fr.pos P)) qC fun w=>by simp only[stepG.exec,htd]
   | region id ops draw =>
    have hops:(ops.all fun o=>qj fr.roundOf.isNone o.op)=true:=hcd;cases draw with
    |false=>exact to (todo:=.inRegion ops (List.range ops.size)::k) (fun w=>by simp only[stepG.exec,htd];rfl) (one hops)
    | true =>
     have e:∀ w,stepG.exec P main true fr callers dy w=(match (choose (.order fr.fn id)).run P w with
      |.ok t w=>.go {frame:={fr with todo:=.inRegion ops (Region.schedule (P.follows .mixedOrders) ops t)::k},callers,status:=.running,dying:=dy} w
      | .halt _ w=>.ended (.stuck "order" (fr.pos P)) w):=fun w=>by simp only [stepG.exec,htd];rfl
     rw[e,e];refine yI (P:=P) (φ:=fun _=>True) (ak.t (s:=choose (.order fr.fn id)) _ _) ha hw (fun r=>match r with
      |.ok t w=>.go {frame:={fr with todo:=.inRegion ops (Region.schedule (P.follows .mixedOrders) ops t)::k},callers,status:=.running,dying:=dy} w
      | .halt _ w=>.ended (.stuck "order" (fr.pos P)) w) ?_ ?_ ?_
     ·exact fun h w _=>⟨_,_,_,rfl,dS⟩
     ·exact fun t w w1 _ ha hw=>af7 ⟨EH hf (one hops),hc⟩ ha hw
     ·exact fun h w w1 _ ha hw=>bP ha
   | rangeFunc f params assign body =>
    simp only[bY,Bool.and_eq_true]at hcd;have e:∀ w,stepG.exec P main true fr callers dy w=GStep.after (seen P fr.fn ((Instr.enterLoop fr.fn fr.tmps params assign body fr.roundOf).runT P w #[]).2) (match ((Instr.enterLoop fr.fn fr.tmps params assign body fr.roundOf).runT P w #[]).1 with
     | .ok (l,mark) w=>stepG.apply P true { fr with todo:=.inRangeFunc l::k,defers:=mark ++ fr.defers } callers dy (do
       let d <- resolve ({fr with todo:=.inRangeFunc l::k,defers:=mark ++ fr.defers}:Frame).eval {callee:=.value f,args:=#[.const (.func (.yield l) #[] #[])],argTypes:=#[]} 0
       invoke d.target d.args) w
     | .halt _ w=>.ended (.stuck "range over a function: no such loop" (fr.pos P)) w):=fun w=>by simp only [stepG.exec,htd];rfl
    rw [e,e];refine pz hP (Gi hcd.1 hcd.2) ha hw (fun r=>match r with
     | .ok (l,mark) w=>stepG.apply P true { fr with todo:=.inRangeFunc l::k,defers:=mark ++ fr.defers } callers dy (do
       let d <- resolve ({fr with todo:=.inRangeFunc l::k,defers:=mark ++ fr.defers}:Frame).eval {callee:=.value f,args:=#[.const (.func (.yield l) #[] #[])],argTypes:=#[]} 0
       invoke d.target d.args) w
     | .halt _ w=>.ended (.stuck "range over a function: no such loop" (fr.pos P)) w) ?_ ?_ ?_
    ·exact fun h w _=>⟨_,_,_,rfl,dS⟩
    ·rintro ⟨l,mark⟩ w w1 hr ha hw;have hfr:FrI {fr with todo:=.inRangeFunc l::k,defers:=mark ++ fr.defers}:=⟨one trivial,fun d hd=>(List.mem_append.1 hd).elim (hr d) (hf.defers d)⟩;exact tu hP hfr hc (Shy.bind (fun d hd=>ug hP hd) (ny (r:=fr.roundOf.isNone) rfl)) ha hw
    ·exact fun h w w1 _ ha hw=>bP ha
theorem yM (hP:FP P) (hf:FrI fr) (hc:∀ c∈callers,FrI c) {d:Deferred} (hd:iZ d) (ha:Alike w0 E w w1) (hw:ay OC w1) :
  fJ w0 E (callDeferred P fr callers dy d w) (callDeferred P fr callers dy d w1):=by
 have hcs:=zJ hf hc;have hbl:FrI {fr with defers:=d::fr.defers}:=⟨hf.todo,fun x hx=>(List.mem_cons.1 hx).elim (fun e=>e ▸ hd) (hf.defers x)⟩;unfold callDeferred;dsimp only;refine E8 (fun _=>bP ha) (fun _=>?_);have hs:Shy true OC P (kF OC false) (invoke d.target d.args):=ug hP (G6 hd);rcases l7 _ hs w w1 #[] #[] ha hw (mZ.refl _)with⟨h,w',e,hb⟩|⟨a,w',w1',es,es1,e1,e2,hφ,ha',hw',hv⟩|⟨h,w',w1',es,es1,e1,e2,hn,ha',hw',hv⟩
 ·rw[e];cases h<;>first
   |exact hb.elim
   |exact .lost dS
   |exact .lost qC
 ·rw [e1,e2];have hv':=jU hP.norace fr.fn hv;cases a <;> first | (exact hφ.elim) | skip
  case recover=>cases (show false=true from hφ)
  case enter f args=>exact aQ (af7 ⟨qZ hP f args _,hcs⟩ ha' hw') hv'
  case round l f tmps assign body=>exact aQ (af7 ⟨Hq hφ.1 hφ.2 _,hcs⟩ ha' hw') hv'
  all_goals exact aQ (af7 ⟨hf,hc⟩ ha' hw') hv'
 ·rw [e1,e2];have hv':=jU hP.norace fr.fn hv;have hv0:=jU hP.norace fr.fn (mZ.refl #[]);cases h <;> first
   |exact aQ (bP ha') hv'
   |skip
  case panic v=>exact aQ (af7 ⟨oH hf _,hc⟩ ha' hw') hv'
  case goexit=>exact aQ (af7 ⟨oH hf _,hc⟩ ha' hw') hv'
  case blocked=>exact aQ (af7 ⟨hbl,hc⟩ ha' hw') hv0
  case waiting=>exact aQ (af7 ⟨hbl,hc⟩ ha' hw') hv0
  case fatal m=>exact aQ (xg hf ha' hw') hv'
  case throw m=>exact aQ (aeM hf ha' hw') hv'
instance Yq (fn:Func) (tmps:Array Value):ak (results fn tmps):=by
 unfold results;refine aW (Em _ (fun c=>?_) _) fun vs=>inferInstance
 split
 ·infer_instance
 ·infer_instance
theorem J4 (hP:FP P) (hf:FrI fr) (hc:∀ c∈callers,FrI c) (ha:Alike w0 E w w1) (hw:ay OC w1) :
  fJ w0 E (unwind P main fr callers dy w) (unwind P main fr callers dy w1):=by
 cases hds:fr.defers with
 | cons d ds =>
  have hdd:iZ d:=hf.defers d (by simp[hds]);have hds':FrI {fr with defers:=ds}:=⟨hf.todo,fun x hx=>hf.defers x (by simp[hds,hx])⟩;by_cases hcol:∃ b,d.target=.collected b
  ·obtain ⟨b,hb⟩:=hcol;obtain ⟨tg,args⟩:=d;dsimp only at hb;subst hb;have e:∀ w,unwind P main fr callers dy w=GStep.after (seen P fr.fn ((Instr.takeDeferred b).runT P w #[]).2) (match ((Instr.takeDeferred b).runT P w #[]).1 with
    |.ok calls w=>.go {frame:={fr with defers:=calls ++ ds},callers,status:=.running,dying:=dy} w
    | .halt _ w=>.ended (.stuck "the deferred calls of a range-over-func loop have been taken" (fr.pos P)) w):=fun w=>by simp only [unwind,hds];rfl
   rw[e,e];refine pz hP Ag ha hw (fun r=>match r with
    |.ok calls w=>.go {frame:={fr with defers:=calls ++ ds},callers,status:=.running,dying:=dy} w
    | .halt _ w=>.ended (.stuck "the deferred calls of a range-over-func loop have been taken" (fr.pos P)) w) ?_ ?_ ?_
   ·exact fun h w _=>⟨_,_,_,rfl,dS⟩
   ·exact fun calls w w1 hr ha hw=>af7 ⟨⟨hf.todo,fun x hx=>(List.mem_append.1 hx).elim (hr x) (hds'.defers x)⟩,hc⟩ ha hw
   ·exact fun h w w1 _ ha hw=>bP ha
  ·have e:∀ w,unwind P main fr callers dy w=callDeferred P { fr with defers:=ds } callers dy d w:=fun w=>by
    unfold unwind;obtain⟨tg,args⟩:=d;simp only[hds];cases tg<;>first|rfl|exact(hcol ⟨_,rfl⟩).elim
   rw[e,e];exact yM hP hds' hc hdd ha hw
 | nil =>
  unfold unwind;simp only[hds];cases hm:fr.mode with
  |run=>exact bP ha
  | panicking chain =>
   dsimp only;split
   ·exact bP ha
   ·cases callers with
    |cons c rest=>exact af7 ⟨oH (hc c (by simp)) chain,fun x hx=>hc x (by simp[hx])⟩ ha hw
    | nil =>
     cases dy with
     | none =>
      dsimp only;split
      ·exact af7 ⟨hf,fun _ h=>nomatch h⟩ ha hw
      ·refine yI (φ:=fun _=>True) (ak.t _ _) ha hw (fun r=>match r with
        | .ok todo w=>.go { frame:=fr,callers:=[],status:=.running,dying:=some { todo,texts:=[],calling:=false,pending := "", runtimeError:=isRuntimeError P (chain.head?.map (·.v)) } } w
        | .halt (.unsupported u) w=>.ended (.unsupported u "") w
        | .halt _ w=>.ended (.stuck "the report of a panic" "") w) ?_ ?_ ?_
       ·intro h w hb;cases h<;>first|exact hb.elim|exact⟨_,_,_,rfl,qC⟩|exact⟨_,_,_,rfl,dS⟩
       ·exact fun todo w w1 _ ha hw=>af7 ⟨hf,fun _ h=>nomatch h⟩ ha hw
       ·intro h w w1 hn ha hw;cases h<;>exact bP ha
     |some d =>
      dsimp only;split
      ·exact rP hf ha hw
      ·exact bP ha
  | returning =>
   cases hfn:P.funcs[fr.fn]? with
   |none=>exact qM hP hf hc ha hw
   | some fn =>
    refine pz hP (φ:=fun _=>True) (ak.t (s:=results fn fr.tmps) _ _) ha hw (fun r=>match r with
     |.ok v w=>doReturn P main fr callers dy v w
     |.halt (.stuck s) w=>.ended (.stuck s (fr.pos P)) w
     | .halt _ w=>.ended (.stuck "return: the result variables cannot be read" (fr.pos P)) w) ?_ ?_ ?_
    ·intro h w hb;cases h<;>first|exact hb.elim|exact⟨_,_,_,rfl,dS⟩
    ·exact fun v w w1 _ ha hw=>qM hP hf hc ha hw
    ·intro h w w1 hn ha hw;cases h<;>exact bP ha
class uJ {α:Type} (s:Sem α):Prop where
 t:∀ (C:Code->Prop) (P:Program),Shy false C P (fun _=>True) s
theorem H6 {α β:Type} {s:Sem α} {f:α->Sem β} (h:uJ s) (hf:∀ a,uJ (f a)):uJ (s >>= f):=⟨fun C P=>Shy.bind (fun a _=>(hf a).t C P) (h.t C P)⟩
theorem MW {α:Type} {c:Prop} [Decidable c] {a b:Sem α} (ha:uJ a) (hb:uJ b):uJ (if c then a else b):=by split<;>assumption
instance {α:Type} {a:α}:uJ (pure a:Sem α):=⟨fun _ _=>trivial⟩
instance {α:Type} {a:α}:uJ (Sem.pure a:Sem α):=⟨fun _ _=>trivial⟩
instance {m:Mark}:uJ (mark m):=⟨fun _ _=>⟨fun h=>(nomatch h),trivial⟩⟩
instance {c:Sys}:uJ (sys c):=⟨fun _ _=>⟨fun h=>(nomatch h),fun _=>trivial⟩⟩
instance:uJ program:=⟨fun _ _=>trivial⟩
instance {a:Addr} {m:Mode}:uJ (load a m):=⟨fun _ _ _=>trivial⟩
instance {a:Addr} {v:Value} {m:Mode}:uJ (store a v m):=⟨fun _ _=>trivial⟩
instance {α:Type} {s:String}:uJ (unsupported (.noEntry s):Sem α):=⟨fun _ _=>⟨fun h=>(nomatch h),trivial⟩⟩
instance {α:Type} {s:String}:uJ (stuck s:Sem α):=⟨fun _ _=>⟨fun h=>(nomatch h),trivial⟩⟩
instance {α:Type}:uJ (Sem.halt .blocked:Sem α):=⟨fun _ _=>⟨fun h=>(nomatch h),trivial⟩⟩
instance:uJ Extern.PrintPieces.held:=by
 unfold Extern.PrintPieces.held;repeat' (first|infer_instance|apply MW|apply H6|intro _|dsimp only|split)
theorem JO (hP:FP P) (hf:FrI fr) {d:Dying} {f:Fatal} (ha:Alike w0 E w w1) (hw:ay OC w1):fJ w0 E (writeOn P fr d f w) (writeOn P fr d f w1):=by
 unfold writeOn;dsimp only;split
 ·exact bP ha
 ·rename_i piece rest _;generalize hws:(if (!(f.whole && f.begun))=true then (_:Sem Unit) else _)=write;have hs:uJ write:=by
   rw[<- hws];repeat' (first|infer_instance|apply MW|apply H6|intro _|dsimp only|split)
  rcases l7 (C:=OC) (P:=P) (φ:=fun _=>True) write (hs.t _ _) w w1 #[] #[] ha hw (mZ.refl _)with⟨h,w',e,hb⟩|⟨a,w',w1',es,es1,e1,e2,hφ,ha',hw',hv⟩|⟨h,w',w1',es,es1,e1,e2,hn,ha',hw',hv⟩
  ·generalize write.runT P w1 #[]=x at e;obtain⟨r,es⟩:=x;dsimp only at e;subst e;cases h<;>first|exact hb.elim|exact .lost qC|exact .lost dS
  ·rw[e1,e2];exact .go ⟨hf,fun _ h=>nomatch h⟩ rfl ha' hw' hv
  ·rw[e1,e2];cases h<;>first|exact bP ha'|exact af7 ⟨hf,fun _ h=>nomatch h⟩ ha' hw'
theorem WQ (hP:FP P) (hf:FrI fr) {d:Dying} (ha:Alike w0 E w w1) (hw:ay OC w1):fJ w0 E (die P fr d w) (die P fr d w1):=by
 have hn0:∀ c∈([]:List Frame),FrI c:=fun _ h=>nomatch h
 unfold die;split
 ·exact JO hP hf ha hw
 split
 ·have:printLockHeld P w1=printLockHeld P w:=by unfold printLockHeld;rw [ha.cell]
  rw[this];split
  ·exact af7 ⟨hf,hn0⟩ ha hw
  ·exact yN ha
 ·dsimp only;split
  ·exact af7 ⟨hf,hn0⟩ ha hw
  ·rename_i v mark rest _ _ s _;refine yI (P:=P) (φ:=fun _=>True) (ak.t (s:=withAddress s) _ _) ha hw (fun r=>match r with
    |.ok s w=>.go {frame:=fr,callers:=[],status:=.running,dying:=some { {d with todo:=rest,pending:=mark}with texts:=(s,mark)::d.texts} } w
    | .halt _ w=>.ended (.stuck "report: an address" "") w) ?_ ?_ ?_
   ·exact fun h w _=>⟨_,_,_,rfl,dS⟩
   ·exact fun s w w1 _ ha hw=>af7 ⟨hf,hn0⟩ ha hw
   ·exact fun h w w1 _ ha hw=>bP ha
  ·rename_i v mark rest _ _ t recv name _;have hs:Shy true OC P (kF OC false) (invoke (.fn (.method name) #[]) #[.iface t recv]):=ug hP trivial;rcases l7 _ hs w w1 #[] #[] ha hw (mZ.refl _) with ⟨h,w',e,hb⟩ | ⟨a,w',w1',es,es1,e1,e2,hφ,ha',hw',hv⟩ | ⟨h,w',w1',es,es1,e1,e2,hn,ha',hw',hv⟩
   ·rw[e];cases h<;>first
     |exact hb.elim
     |exact .lost dS
     |exact .lost qC
   ·rw [e1,e2];have hv':=jU hP.norace fr.fn hv;cases a <;> first | (exact hφ.elim) | skip
    case enter f args=>exact aQ (af7 ⟨qZ hP f args _,hn0⟩ ha' hw') hv'
    case value v =>
     refine aQ ?_ hv';cases v<;>first|exact bP ha|exact af7 ⟨hf,hn0⟩ ha' hw'
    all_goals exact aQ (bP ha) hv'
   ·rw[e1,e2];have hv':=jU hP.norace fr.fn hv;cases h<;>first
     |exact aQ (bP ha') hv'
     |exact aQ (bP ha) hv'
     |exact aQ (rP hf ha' hw') hv'
  ·exact bP ha
theorem Ov (hP:FP P) {g:Goroutine} (hg:GI g) (ha:Alike w0 E w w1) (hw:ay OC w1):fJ w0 E (stepG P main g w) (stepG P main g w1):=by
 obtain⟨fr,callers,st,dy,off⟩:=g;obtain⟨hf,hc⟩:=hg;dsimp only at hf hc;unfold stepG;dsimp only;split
 ·exact WQ hP hf ha hw
 ·exact Rh hP hf hc ha hw
 ·exact J4 hP hf hc ha hw
end
open Go.Conc
def aaJ (a a1:MemAct):Prop:=a1=a\/∃ r s,a=.access ⟨.obj r,false,s⟩/\a1=.access ⟨.obj r,false,false⟩
def OpA (o o1:MemOp):Prop:=o1.g=o.g/\aaJ o.act o1.act
def nO (t t1:Trace):Prop:=t1.size=t.size/\∀ (i:Nat) (o o1:MemOp),t[i]? = some o->t1[i]? = some o1->OpA o o1
theorem OpA.refl (o:MemOp):OpA o o:=⟨rfl,.inl rfl⟩
theorem nO.refl (t:Trace):nO t t:=⟨rfl,fun i o o1 h h1=>by rw[h]at h1;cases h1;exact OpA.refl _⟩
theorem nO.append {t t1 u u1:Trace} (h:nO t t1) (k:nO u u1):nO (t ++ u) (t1 ++ u1):=by
 refine⟨by simp[h.1,k.1],fun i o o1 ho ho1=>?_⟩;simp only[Array.getElem?_append,h.1]at ho ho1;split at ho
 ·next c =>
  rw[if_pos c]at ho1;exact h.2 i o o1 ho ho1
 ·next c =>
  rw[if_neg c]at ho1;exact k.2 _ o o1 ho ho1
theorem ZN {e e1:Event} (h:EvA e e1):aaJ (.ofEvent e) (.ofEvent e1):=by
 rcases h with rfl|⟨r,h1,rfl,h2⟩
 ·exact .inl rfl
 ·obtain⟨l,wr,sy⟩:=e;dsimp only at h1 h2;subst h1;subst h2;exact .inr ⟨r,sy,rfl,rfl⟩
theorem EvL.at {l l1:List Event} (h:EvL l l1):l1.length=l.length/\∀ (i:Nat) (e e1:Event),l[i]? = some e->l1[i]? = some e1->EvA e e1:=by
 induction h with
 |nil=>exact⟨rfl,fun i e e1 h=>by simp at h⟩
 | cons a _ ih =>
  refine⟨by simp[ih.1],fun i e e1 h h1=>?_⟩;cases i with
  |zero =>
   simp only[List.getElem?_cons_zero,Option.some.injEq]at h h1;subst h;subst h1;exact a
  |succ i =>
   simp only[List.getElem?_cons_succ]at h h1;exact ih.2 i e e1 h h1
theorem nO.ofEvents {es es1:Array Event} (h:mZ es es1) (g:Nat) (fn:FuncId) (pos:String):nO (MemOp.ofEvents g fn pos es) (MemOp.ofEvents g fn pos es1):=by
 obtain⟨hl,ha⟩:=EvL.at h;have e:∀ es:Array Event,MemOp.ofEvents g fn pos es=es.map fun e=>{g,fn,pos,act:=.ofEvent e}:=by
  intro es;unfold MemOp.ofEvents;split
  ·next h=>rw[Array.isEmpty_iff.1 h];simp
  ·rfl
 rw[e,e];refine⟨by simpa using hl,fun i o o1 ho ho1=>?_⟩;simp only[Array.getElem?_map,Option.map_eq_some_iff]at ho ho1;obtain⟨x,hx,rfl⟩:=ho;obtain⟨x1,hx1,rfl⟩:=ho1;exact⟨rfl,ZN (ha i x x1 (by simpa using hx) (by simpa using hx1))⟩
def jc (w w1:World) (g:Goroutine):Prop:=∀ cs sh,g.offers=some (cs,sh)->∀ c∈cs,∀ r,c.chan=.chan (some r)->w1.heap[r]? = w.heap[r]?
structure GA (w0:World) (gs:Array Goroutine) (w w1:World):Prop where
 alike:Alike w0 (fun _=>False) w w1
 heap:ay OC w1
 gi:∀ g∈gs,GI g
 off:∀ g∈gs,jc w w1 g
inductive jX (w0:World):Stepped × Array MemOp->Stepped × Array MemOp->Prop
 |lost {s:Stepped × Array MemOp} {o:Outcome} {w:World} {ops:Array MemOp}:bad o->jX w0 s (.ended o w,ops)
 |next {gs:Array Goroutine} {sl:Option (Nat × Nat)} {w w1:World} {ops ops1:Array MemOp}:GA w0 gs w w1->nO ops ops1->jX w0 (.next (crowd gs w sl),ops) (.next (crowd gs w1 sl),ops1)
 |ended {o:Outcome} {w w1:World} {ops ops1:Array MemOp}:Alike w0 (fun _=>False) w w1->nO ops ops1->jX w0 (.ended o w,ops) (.ended o w1,ops1)
section
variable {E:Nat->Prop} {v w' w1':World} {g:Goroutine} {i:Nat}
variable {P:Program} {w0 w w1:World} {gs:Array Goroutine} {sl:Option (Nat × Nat)}
def Eq2 (w w1:World):Nat->Prop:=fun i=>w1.heap[i]? = w.heap[i]?
theorem Alike.now (h:Alike w0 E w w1):Alike w0 (Eq2 w w1) w w1:={h with same:=fun _ h=>h}
theorem Alike.any (h:Alike w0 E w w1):Alike w0 (fun _=>False) w w1:={h with same:=fun _ h=>h.elim}
theorem jc.step (h:jc w w1 g) (ha:Alike w0 (Eq2 w w1) w' w1'):jc w' w1' g:=fun cs sh he c hc r hr=>ha.same r (h cs sh he c hc r hr)
def xO (w:World) (c:CommCase):Bool:=match c.chan with
 |.chan (some r)=>(w.heap[r]? matches some (.chan _ _ true ..))
 |_=>false
theorem PV (h:jc w w1 g):g.again w1=g.again w:=by
 unfold Goroutine.again;split
 ·rename_i cs sh hs ho;have e:∀ c∈cs,xO w1 c=xO w c:=by
   intro c hc;unfold xO;split
   ·rename_i r hr;rw[h _ _ ho c hc r hr]
   ·rfl
  have:cs.any (xO w1)=cs.any (xO w):=by
   rw[Bool.eq_iff_iff,Array.any_eq_true',Array.any_eq_true'];constructor
   ·rintro ⟨c,hc,hx⟩;exact⟨c,hc,(e c hc) ▸ hx⟩
   ·rintro ⟨c,hc,hx⟩;exact⟨c,hc,(e c hc) ▸ hx⟩
  show(if cs.any (xO w1) then {g with status:=.running} else g)=if cs.any (xO w) then {g with status:=.running} else g
  rw[this]
 all_goals rfl
theorem A8 (g:Goroutine) (w:World):(g.again w).frame=g.frame/\(g.again w).callers=g.callers/\(g.again w).offers=g.offers:=by
 unfold Goroutine.again;split
 ·dsimp only;split<;>exact⟨rfl,rfl,rfl⟩
 all_goals exact⟨rfl,rfl,rfl⟩
theorem GI.again (h:GI g) (w:World):GI (g.again w):=by
 obtain⟨e1,e2,_⟩:=A8 g w;exact⟨by rw[e1];exact h.fr,by rw[e2];exact h.callers⟩
theorem jc.again (h:jc w w1 g):jc w w1 (g.again v):=by
 unfold jc;rw[(A8 g v).2.2];exact h
theorem jc.none (h:g.offers=none):jc w w1 g:=fun cs sh he=>by rw[h]at he;cases he
theorem Ij {α:Type} {a:Array α} {x y:α} (h:y∈a.setIfInBounds i x):y=x\/y∈a:=by
 obtain⟨j,hj⟩:=Array.mem_iff_getElem?.1 h;rw[Array.getElem?_setIfInBounds]at hj;split at hj
 ·split at hj
  ·exact .inl (Option.some.inj hj).symm
  ·cases hj
 ·exact .inr (Array.mem_of_getElem? hj)
theorem GA.set (h:GA w0 gs w w1) (hg:GI g) (ho:jc w w1 g):GA w0 (gs.setIfInBounds i g) w w1 :=
 ⟨h.alike,h.heap,fun x hx=>(Ij hx).elim (fun e=>e ▸ hg) (h.gi x),fun x hx=>(Ij hx).elim (fun e=>e ▸ ho) (h.off x)⟩
theorem GA.push (h:GA w0 gs w w1) (hg:GI g) (ho:jc w w1 g):GA w0 (gs.push g) w w1 :=
 ⟨h.alike,h.heap,fun x hx=>(Array.mem_push.1 hx).elim (h.gi x) (fun e=>e ▸ hg),fun x hx=>(Array.mem_push.1 hx).elim (h.off x) (fun e=>e ▸ ho)⟩
theorem GA.again (h:GA w0 gs w w1):GA w0 (gs.map (·.again v)) w w1:=by
 refine⟨h.alike,h.heap,fun x hx=>?_,fun x hx=>?_⟩
 ·obtain⟨y,hy,rfl⟩:=Array.mem_map.1 hx;exact(h.gi y hy).again v
 ·obtain⟨y,hy,rfl⟩:=Array.mem_map.1 hx;exact(h.off y hy).again
theorem GA.step (h:GA w0 gs w w1) (ha:Alike w0 (Eq2 w w1) w' w1') (hw:ay OC w1'):GA w0 gs w' w1' :=
 ⟨ha.any,hw,h.gi,fun x hx=>(h.off x hx).step ha⟩
theorem TS (h:GA w0 gs w w1):gs.map (·.again w1)=gs.map (·.again w):=by
 apply Array.map_congr_left;exact fun g hg=>PV (h.off g hg)
def Qw (w:World) (gs:Array Goroutine) (cases:Array CommCase) (x:Nat × CommCase × Way):Prop:=(x.2.1∈cases/\x.2.2∈ways w gs x.2.1)\/x.2.2=.closed
theorem J6 {C:Code->Prop} {cases:Array CommCase} {ready:List (Nat × CommCase × List Way)} (h:∀ x∈ready,x.2.1∈cases/\x.2.2=ways w gs x.2.1) :
  Shy true C P (Qw w gs cases) (do
   let a <- choose (.select ready.length);let(k,c,ws):=ready.getD a (0,default,[])
   let b <- choose (.extern "which waiting goroutine is the partner" ws.length)
   pure (k,c,ws.getD b .closed)):=by
 intro a
 show Shy true C P (Qw w gs cases) (match ready.getD a (0,default,[]) with | (k,c,ws)=>choose (.extern "which waiting goroutine is the partner" ws.length) >>= fun b=>pure (k,c,ws.getD b .closed))
 generalize hx:ready.getD a (0,default,[])=x;obtain⟨k,c,ws⟩:=x;intro b;show Qw w gs cases (k,c,ws.getD b .closed);by_cases hb:b<ws.length
 ·refine .inl ?_;by_cases ha:a < ready.length
  ·have:ready.getD a (0,default,[])=ready[a]:=by simp [List.getD,ha]
   rw[this]at hx;have hm:=h _ (List.getElem_mem ha);rw[hx]at hm;refine⟨hm.1,?_⟩;have e:ws.getD b .closed=ws[b]:=by simp[List.getD,hb]
   show ws.getD b .closed∈_;rw[e,<- hm.2];exact List.getElem_mem hb
  ·have:ready.getD a (0,default,[])=(0,default,[]):=by simp [List.getD,Nat.le_of_not_lt ha]
   rw[this]at hx;cases hx;simp at hb
 ·refine .inr ?_;show ws.getD b .closed=.closed;simp[List.getD,Nat.le_of_not_lt hb]
theorem rC (h:GA w0 gs w w1) (k j:Nat) (v:Value):GA w0 (finishPartner P gs k j v) w w1:=by
 unfold finishPartner;have key:∀ g∈gs.modify k (fun g=>match g.offers with|some (cs,shape)=>g.finishComm P cs shape j v (((cs[j]?).map (·.send.isNone)).getD false)|none=>g),GI g/\jc w w1 g:=by
  intro g hg;obtain⟨i,hi,rfl⟩:=Array.mem_iff_getElem.1 hg;simp only[Array.size_modify]at hi;rw[Array.getElem_modify];have h1:=h.gi _ (Array.getElem_mem hi);have h2:=h.off _ (Array.getElem_mem hi);split
  ·split
   ·exact⟨⟨fG h1.fr _,h1.callers⟩,jc.none rfl⟩
   ·exact⟨h1,h2⟩
  ·exact⟨h1,h2⟩
 exact⟨h.alike,h.heap,fun g hg=>(key g hg).1,fun g hg=>(key g hg).2⟩
theorem GA.chan (h:GA w0 gs w w1) {r cap:Nat} {buf:Array Value} {cl:Bool} {s t:Nat} {tm:Bool} (ho:lQ OC (.chan cap buf cl s t tm)):GA w0 gs {w with heap:=w.heap.setIfInBounds r (.chan cap buf cl s t tm)} {w1 with heap:=w1.heap.setIfInBounds r (.chan cap buf cl s t tm)} :=
 h.step (h.alike.now.set r _ (by simp)) (jF h.heap ho)
end
section
variable {P:Program} {w0 w w1:World} {gs:Array Goroutine} {sl:Option (Nat × Nat)} {g:Goroutine} {i:Nat}
theorem TW {c c1:Prop} [Decidable c] [Decidable c1] {a b a1 b1:Stepped × Array MemOp} (hc:¬c1->¬c) (h1:c1->∀ s,jX w0 s a1) (h2:¬c1->jX w0 b b1):jX w0 (if c then a else b) (if c1 then a1 else b1):=by
 by_cases x:c1
 ·rw[if_pos x];exact h1 x _
 ·rw[if_neg x,if_neg (hc x)];exact h2 x
theorem Dz {c:Prop} [Decidable c] {a b a1 b1:Stepped × Array MemOp} (h1:c->jX w0 a a1) (h2:¬c->jX w0 b b1):jX w0 (if c then a else b) (if c then a1 else b1):=by
 by_cases x:c
 ·rw[if_pos x,if_pos x];exact h1 x
 ·rw[if_neg x,if_neg x];exact h2 x
abbrev zW (sl:Option (Nat × Nat)):Rest:={timers:=#[],alone:=none,slice:=sl}
theorem qX {ops:Array MemOp} (h:GA w0 gs w w1) (hg:GI g) (ho:jc w w1 g):jX w0 (.next {world:=w,gs:=gs.setIfInBounds i g,rest:=zW sl},ops) (.next {world:=w1,gs:=gs.setIfInBounds i g,rest:=zW sl},ops) :=
 .next (h.set hg ho) (nO.refl _)
theorem zB (cases:Array CommCase) (w:World):waitingAt (zW sl) cases w=some w:=by
 have:timerAhead (zW sl) w.os.mono cases=false:=by
  unfold timerAhead;rw[Array.any_eq_false];intro k hk;split<;>simp
 unfold waitingAt;rw[this];rfl
theorem Rn {cases:Array CommCase} {b:Bool} {sh:CommShape} (h:GA w0 gs w w1) (hg:GI g) :
  jX w0 (communicate P (zW sl) gs i g cases b sh w) (communicate P (zW sl) gs i g cases b sh w1):=by
 have same:∀ (r cap:Nat) (buf:Array Value) (cl:Bool) (s t:Nat) (tm:Bool),w1.heap[r]? = some (.chan cap buf cl s t tm)->w.heap[r]? = w1.heap[r]?:=by
  intro r cap buf cl s t tm hr;rcases h.alike.at r with e|⟨o,_,_,e2⟩
  ·exact e.symm
  ·rw[hr]at e2;cases e2
 unfold communicate;dsimp only;refine TW (fun hn=>?_) (fun _ s=>.lost dS) (fun hn=>?_);all_goals
  have hch:∀ c∈cases,c.chan=.chan none\/∃ (r cap:Nat) (buf:Array Value) (cl:Bool) (s t:Nat) (tm:Bool),c.chan=.chan (some r)/\w1.heap[r]? = some (.chan cap buf cl s t tm):=by
   intro c hc;have hx:=fun y=>hn (Array.any_eq_true'.2 ⟨c,hc,y⟩)
   revert hx;cases hcc:c.chan<;>first|(intro hx;exact absurd rfl hx)|skip
   rename_i v;cases v with
   |none=>exact fun _=>.inl rfl
   | some r =>
    intro hx;refine .inr ⟨r,?_⟩;cases hr:w1.heap[r]? with
    |none=>exact absurd (by dsimp only;rw[hr];rfl) hx
    | some o =>
     cases o<;>first
      |exact absurd (by dsimp only;rw[hr];rfl) hx
      |exact⟨_,_,_,_,_,_,rfl,rfl⟩
 ·intro hy;obtain ⟨c,hc,hx⟩:=Array.any_eq_true'.1 hy;rcases hch c hc with e | ⟨r,cap,buf,cl,s,t,tm,e,hr⟩
  ·rw[e]at hx;cases hx
  ·rw[e]at hx;dsimp only at hx;rw[same r _ _ _ _ _ _ hr,hr]at hx;cases hx
 have hE:∀ c∈cases,∀ r,c.chan=.chan (some r)->w1.heap[r]? = w.heap[r]?:=by
  intro c hc r hr;rcases hch c hc with e|⟨r',cap,buf,cl,s,t,tm,e,hr'⟩
  ·rw[e]at hr;cases hr
  ·rw[e]at hr;cases hr;exact(same _ _ _ _ _ _ _ hr').symm
 have hw:∀ c∈cases,ways w1 gs c=ways w gs c:=by
  intro c hc;unfold ways;split
  ·rename_i r hr;rw[hE c hc r hr]
  ·rfl
 obtain⟨R,hR⟩:∃ R,R=cases.zipIdx.toList.map fun x=>(x.2,x.1,ways w gs x.1):=⟨_,rfl⟩
 have mem:∀ x∈cases.zipIdx.toList,x.1∈cases:=by
  intro x hx;rw[Array.toList_zipIdx]at hx;simpa using List.fst_mem_of_mem_zipIdx hx
 have key:∀ (f:CommCase × Nat->Nat × CommCase × List Way),(∀ x∈cases.zipIdx.toList,f x=(x.2,x.1,ways w gs x.1))->cases.zipIdx.toList.map f=R:=by
  intro f hf;rw[hR];exact List.map_congr_left hf
 rw[key _ (fun x hx=>?_),key _ (fun x hx=>?_)];rotate_left
 ·exact Prod.ext rfl (Prod.ext rfl (hw _ (mem x hx)))
 ·rfl
 have hready:∀ x∈R,x.2.1∈cases/\x.2.2=ways w gs x.2.1:=by
  intro x hx;rw[hR]at hx;obtain⟨y,hy,rfl⟩:=List.mem_map.1 hx;exact⟨mem y hy,rfl⟩
 refine Dz (fun _=>?_) (fun _=>?_)
 ·refine Dz (fun _=>?_) (fun _=>qX h ⟨fG hg.fr _,hg.callers⟩ (jc.none rfl));rw [zB,zB];refine qX h ⟨hg.fr,hg.callers⟩ fun cs sh e c hc r hr=>?_
  cases e;exact hE c hc r hr
 generalize hf:R.filter _=R';have hready':∀ x∈R',x.2.1∈cases/\x.2.2=ways w gs x.2.1:=by
  intro x hx;rw[<- hf]at hx;exact hready x (List.mem_filter.1 hx).1
 generalize hp:(bind (choose (.select R'.length)) _:Sem _)=pick;have hs:Shy true OC P (Qw w gs cases) pick:=by
  rw[<- hp];exact J6 hready'
 rcases l7 pick hs w w1 #[] #[] h.alike.now h.heap (mZ.refl _)with⟨h',w',e,hb⟩|⟨⟨k,c,way⟩,w',w1',es,es1,e1,e2,hφ,ha',hw',hv⟩|⟨h',w',w1',es,es1,e1,e2,hn',ha',hw',hv⟩
 ·have:pick.run P w1=.halt h' w':=by
   rw[<- e,Sem.runT_eq]
  rw[this];exact .lost dS
 ·rw [jC e1,jC e2];have h2:GA w0 gs w' w1':=h.step ha' hw';dsimp only;have fin:∀ v ok,GI (g.finishComm P cases sh k v ok):=fun v ok=>⟨fG hg.fr _,hg.callers⟩
  rcases hφ with⟨hc,hway⟩|hcl
  ·dsimp only at hc hway;rcases hch c hc with e | ⟨r,cap,buf,cl,s,t,tm,e,hr⟩
   ·unfold ways at hway;rw[e]at hway;cases hway
   ·have ho:=h.heap r _ hr;obtain ⟨hcap,hbuf,hclo⟩:=ho;subst hcap;subst hbuf;subst hclo;have hpt:∃ a b,way=.partner a b:=by
     unfold ways at hway;rw[e]at hway;dsimp only at hway;rw[same _ _ _ _ _ _ _ hr,hr]at hway;cases hsd:c.send with
     |some v =>
      rw[hsd]at hway;dsimp only at hway;rw[if_neg (by simp)]at hway;split at hway
      ·simp at hway
      ·obtain⟨x,_,hx⟩:=List.mem_map.1 hway;exact⟨_,_,hx.symm⟩
     |none =>
      rw[hsd]at hway;dsimp only at hway;rw[if_neg (by simp)]at hway;split at hway
      ·simp at hway
      ·obtain⟨x,_,hx⟩:=List.mem_map.1 hway;exact⟨_,_,hx.symm⟩
    obtain⟨pa,pb,rfl⟩:=hpt;have hsame:=ha'.same r (hE c hc r e);rw[e];dsimp only;rw[<- hsame];cases hr':w1'.heap[r]? with
    |none=>exact .ended h2.alike (nO.refl _)
    | some o =>
     cases o<;>first
      |exact .ended h2.alike (nO.refl _)
      |skip
     have ho':=h2.heap r _ hr';cases hsd:c.send with
     |some v=>exact qX (rC (P:=P) h2 pa pb v |>.chan ho') (fin _ _) (jc.none rfl)
     |none=>exact qX (rC (P:=P) h2 pa pb undef |>.chan ho') (fin _ _) (jc.none rfl)
  ·dsimp only at hcl;subst hcl;exact qX h2 (fin _ _) (jc.none rfl)
 ·rw[jC e1,jC e2];exact .ended ha'.any (nO.refl _)
end
section
variable {P:Program} {w0 w w1:World} {gs:Array Goroutine} {sl:Option (Nat × Nat)}
theorem jX.pre {s s1:Stepped} {more more1 ops ops1:Array MemOp} (h:jX w0 (s,more) (s1,more1)) (ho:nO ops ops1):jX w0 (s,ops ++ more) (s1,ops1 ++ more1):=by
 cases h with
 |lost h=>exact .lost h
 |next h k=>exact .next h (ho.append k)
 |ended h k=>exact .ended h (ho.append k)
theorem aa2:GI {(default:Goroutine)with status:=.finished} :=
 ⟨⟨fun x hx=>(nomatch (show x∈([]:List Item)from hx)),fun x hx=>(nomatch (show x∈([]:List Deferred)from hx))⟩,fun x hx=>(nomatch (show x∈([]:List Frame)from hx))⟩
theorem nO.push {t t1:Trace} (h:nO t t1) (o:MemOp):nO (t.push o) (t1.push o):=by
 rw[Array.push_eq_append,Array.push_eq_append];exact h.append (nO.refl _)
theorem GA.ph (h:GA w0 gs w w1) {i:Nat} (hi:i<gs.size):GA w0 (gs.set i {(default:Goroutine)with status:=.finished} hi) w w1:=by
 have key:∀ x∈gs.set i {(default:Goroutine)with status:=.finished} hi,x={(default:Goroutine)with status:=.finished}\/x∈gs:=by
  intro x hx;obtain⟨j,hj⟩:=Array.mem_iff_getElem?.1 hx;rw[Array.getElem?_set]at hj;split at hj
  ·exact .inl (Option.some.inj hj).symm
  ·exact .inr (Array.mem_of_getElem? hj)
 exact⟨h.alike,h.heap,fun x hx=>(key x hx).elim (fun e=>e ▸ aa2) (h.gi x),fun x hx=>(key x hx).elim (fun e=>by subst e;exact jc.none rfl) (h.off x)⟩
theorem H7 (hP:FP P) (h:GA w0 gs w w1) {i:Nat} (hi:i<gs.size):jX w0 (runT P (crowd gs w sl) i) (runT P (crowd gs w1 sl) i):=by
 have hg:=h.gi _ (Array.getElem_mem hi);have hs:=Ov (main:=i == 0) hP hg h.alike.now h.heap;unfold runT;dsimp only[crowd];rw[swapAt_of_lt hi];dsimp only;have hph:=h.ph hi;generalize gs.set i {(default:Goroutine)with status:=.finished} hi=gs2 at hph |-;generalize stepG P (i == 0) gs[i] w=s at hs |-;generalize stepG P (i == 0) gs[i] w1=s1 at hs |-;cases hs with
 |lost hb=>exact .lost hb
 |go hg ho ha hw hv =>
  have h2:=hph.step ha hw;dsimp only;have er:∀ (b:Bool) (X Y:Rest),(if (b && (none:Option Nat) == some i)=true then X else Y)=Y:=by intro b X Y;cases b<;>rfl
  rw[TS h2,er];refine .next (GA.set ?_ hg (jc.none ho)) (nO.ofEvents hv _ _ _);split
  ·exact h2.again
  ·exact h2
 |comm hg ho ha hw hv=>exact(Rn (hph.step ha hw) hg).pre (nO.ofEvents hv _ _ _)
 |spawn hg ho hc hco ha hw hv =>
  exact .next (((hph.step ha hw).set hg (jc.none ho)).push hc (jc.none hco)) (((nO.ofEvents hv _ _ _).push _).push _)
 |ended ha hv=>exact .ended ha.any (nO.ofEvents hv _ _ _)
end
section
variable {P:Program} {w0 w w1:World} {gs:Array Goroutine} {sl:Option (Nat × Nat)}
theorem GA.at {d:Nat} (h:GA w0 gs w w1):GA w0 gs (w.at d) (w1.at d) :=
 ⟨h.alike.other rfl rfl h.alike.tape rfl h.alike.os h.alike.output,h.heap,h.gi,fun g hg=>h.off g hg⟩
theorem lZ (q:Question) (h:Alike w0 (fun _=>False) w w1):∃ k d,(choose q).run P w=.ok k (w.at d)/\(choose q).run P w1=.ok k (w1.at d)/\(∀ n,(q=.sched n\/∃ s,q=.extern s n)->0<n->k<n):=by
 have run:∀ v:World,(choose q).run P v=if q.forced=true then .ok 0 v else .ok (q.cut (v.tape v.drawn q)) {v with drawn:=v.drawn+1}:=fun _=>rfl
 by_cases hq:q.forced=true
 ·refine ⟨0,w.drawn,?_,?_,fun n _ h=>h⟩
  ·rw[run,if_pos hq];rfl
  ·rw[run,if_pos hq,<- h.drawn];rfl
 ·refine ⟨q.cut (w.tape w.drawn q),w.drawn+1,?_,?_,?_⟩
  ·rw[run,if_neg hq];rfl
  ·have e:w1.tape w1.drawn q=w.tape w.drawn q:=by rw [h.tape,h.drawn]
   rw[run,if_neg hq,e,h.drawn];rfl
  ·rintro n (rfl | ⟨s,rfl⟩) hn
   ·exact Nat.mod_lt _ hn
   ·show(if n=0 then _ else _)<n;rw[if_neg (by omega)];exact Nat.mod_lt _ hn
theorem GA.os (h:GA w0 gs w w1) (os:Os):GA w0 gs {w with os:=os} {w1 with os:=os} :=
 ⟨h.alike.other rfl rfl h.alike.tape h.alike.drawn rfl h.alike.output,h.heap,h.gi,fun g hg=>h.off g hg⟩
theorem GA.adv (h:GA w0 gs w w1) (t:Nat):GA w0 gs {w with os:=w.os.advanceTo t} {w1 with os:=w1.os.advanceTo t}:=by
 rw[h.alike.os];exact h.os _
def FI (P:Program):Move->Stepped × Array MemOp
 |.goroutine m i=>runT P m i
 |.machine s ops=>(s,ops)
theorem RV (h:Alike w0 (fun _=>False) w w1) (t:ByteArray) (o:Outcome):jX w0 (FI P (match endWith w 2 t o with | .ended o w _=>.machine (.ended o w) | _=>.machine (.ended (.stuck "" "") default))) (FI P (match endWith w1 2 t o with | .ended o w _=>.machine (.ended o w) | _=>.machine (.ended (.stuck "" "") default))):=by
 have hew:=yN (n:=2) (t:=t) (o:=o) h;generalize endWith w 2 t o=s at hew |-;generalize endWith w1 2 t o=s1 at hew |-;cases hew with
 |lost hb=>exact .lost hb
 |ended ha hv=>exact .ended ha (nO.refl _)
 |_=>exact .lost dS
theorem yA (hP:FP P) (h:GA w0 gs w w1):jX w0 (FI P (askOn P (crowd gs w sl))) (FI P (askOn P (crowd gs w1 sl))):=by
 have hd:∀ mono,due #[] mono=[]:=fun _=>rfl
 have hah:∀ b,ahead (crowd gs w1 sl) b=ahead (crowd gs w sl) b:=fun b=>by
  unfold ahead;dsimp only[crowd];rw[h.alike.os];rfl
 have hin:∀ i∈runnable gs w.os.mono,i<gs.size:=by
  intro i hi;have:=mem_runnable.1 hi;cases hx:gs[i]? with
  |none=>rw[hx]at this;cases this
  |some g=>exact(Array.getElem?_eq_some_iff.1 hx).1
 have hx0:∀ (w:World),(pure 0:Sem Nat).run P w=.ok 0 w:=fun _=>rfl
 have adv:∀ t,jX w0 (.next ((crowd gs w sl).advanceTo t),#[]) (.next ((crowd gs w1 sl).advanceTo t),#[]):=fun t=>by
  unfold Machine.advanceTo;show jX w0 (.next (crowd gs {w with os:=w.os.advanceTo t} sl),#[]) (.next (crowd gs {w1 with os:=w1.os.advanceTo t} sl),#[]);rw[h.alike.os];exact .next (h.os _) (nO.refl _)
 unfold askOn;dsimp only;rw[show(crowd gs w1 sl).world.os=w.os from h.alike.os];have e1:(crowd gs w1 sl).world=w1:=rfl;have e2:(crowd gs w sl).world=w:=rfl;have e3:(crowd gs w1 sl).gs=gs:=rfl;have e4:(crowd gs w sl).gs=gs:=rfl;have e5:(crowd gs w1 sl).rest.timers=#[]:=rfl;have e6:(crowd gs w sl).rest.timers=#[]:=rfl;have e7:∀ w:World,({crowd gs w1 sl with world:=w}:Machine)=crowd gs w sl:=fun _=>rfl
 have e8:∀ v:World,({crowd gs w sl with world:=v}:Machine)=crowd gs v sl:=fun _=>rfl
 simp only[e1,e2,e3,e4,e5,e6,hd,List.isEmpty_nil,if_true,hx0,List.length_nil,Nat.not_lt_zero,if_false,e7,e8,hah];have hah2:∀ b,ahead {world:=w1,gs:=gs,rest:=(crowd gs w1 sl).rest} b=ahead {world:=w,gs:=gs,rest:=(crowd gs w sl).rest} b:=hah;simp only[hah2];generalize hrs:runnable gs w.os.mono=rs at hin |-;cases rs with
 | nil =>
  dsimp only;cases ahead {world:=w,gs:=gs,rest:=(crowd gs w sl).rest} false with
  |some t=>exact adv t
  |none =>
   dsimp only;split
   ·exact .next h (nO.refl _)
   ·exact RV h.alike _ _
 | cons r rs =>
  dsimp only;have pick:∀ {v v1:World},GA w0 gs v v1->∀ k,k<(r::rs).length->∀ sl,jX w0 (runT P (crowd gs v sl) ((r::rs).getD k 0)) (runT P (crowd gs v1 sl) ((r::rs).getD k 0)):=by
   intro v v1 hv k hk sl;refine H7 hP hv (hin _ ?_);rw[List.getD_eq_getElem?_getD,List.getElem?_eq_getElem hk];exact List.getElem_mem hk
  cases ahead {world:=w,gs:=gs,rest:=(crowd gs w sl).rest} true with
  | none =>
   dsimp only;obtain⟨k,d,c1,c2,hk⟩:=lZ (P:=P) (.sched (r::rs).length) h.alike;rw[c1,c2];dsimp only;split
   ·exact pick h.at k (hk _ (.inl rfl) (by simp)) _
   ·obtain ⟨k',d',c1',c2',hk'⟩:=lZ (P:=P) (.extern "sched.slice" 65536) (h.at (d:=d)).alike
    rw[c1',c2'];exact pick h.at.at k (hk _ (.inl rfl) (by simp)) _
  | some t =>
   dsimp only
   obtain ⟨k0,d0,c10,c20,hk0⟩:=lZ (P:=P) (.extern "clock.wait" (t - w.os.mono+1)) h.alike
   rw[c10,c20];have h0:=h.at (d:=d0)
   match k0,hk0 with
   | 0,_ =>
    dsimp only;obtain⟨k,d,c1,c2,hk⟩:=lZ (P:=P) (.sched (r::rs).length) h0.alike;rw[c1,c2];dsimp only;split
    ·exact pick h0.at k (hk _ (.inl rfl) (by simp)) _
    ·obtain ⟨k',d',c1',c2',hk'⟩:=lZ (P:=P) (.extern "sched.slice" 65536) (h0.at (d:=d)).alike
     rw[c1',c2'];exact pick h0.at.at k (hk _ (.inl rfl) (by simp)) _
   |1,_=>exact .next (h0.adv t) (nO.refl _)
   | k0+2,_ =>
    dsimp only;have h2:=h0.adv (t-(k0+1));obtain⟨k,d,c1,c2,hk⟩:=lZ (P:=P) (.sched (r::rs).length) h2.alike;unfold Machine.advanceTo;dsimp only;rw[c1,c2];dsimp only;split
    ·exact pick h2.at k (hk _ (.inl rfl) (by simp)) _
    ·obtain ⟨k',d',c1',c2',hk'⟩:=lZ (P:=P) (.extern "sched.slice" 65536) (h2.at (d:=d)).alike
     rw[c1',c2'];exact pick h2.at.at k (hk _ (.inl rfl) (by simp)) _
end
section
variable {i:Nat}
variable {P:Program} {w0 w w1:World} {gs:Array Goroutine} {sl:Option (Nat × Nat)}
theorem Kq (m:Machine):stepT P m=FI P (move P m):=rfl
theorem EX (hP:FP P) (h:GA w0 gs w w1):jX w0 (stepT P (crowd gs w sl)) (stepT P (crowd gs w1 sl)):=by
 rw[Kq,Kq];cases sl with
 |none=>exact yA hP h
 | some x =>
  obtain⟨i,n⟩:=x;cases n with
  |zero=>exact yA hP h
  | succ n =>
   have e:∀ w,move P (crowd gs w (some (i,n+1)))=if (gs[i]?).any (·.canRun w.os.mono) then .goroutine (crowd gs w (if n=0 then none else some (i,n))) i else askOn P (crowd gs w none):=fun _=>rfl
   rw[e,e,h.alike.os];by_cases hc:(gs[i]?).any (·.canRun w.os.mono)=true
   ·rw [if_pos hc,if_pos hc];refine H7 hP h ?_;cases hx:gs[i]? with
    |none=>rw[hx]at hc;cases hc
    |some g=>exact(Array.getElem?_eq_some_iff.1 hx).1
   ·rw[if_neg hc,if_neg hc];exact yA hP h
theorem Pg (hP:FP P):∀ (n:Nat) (gs:Array Goroutine) (sl:Option (Nat × Nat)) (w w1:World) (t t1:Trace) (v:Value) (v1:World) (t1':Trace),GA w0 gs w w1->nO t t1 ->
  runNT P n (crowd gs w1 sl) t1=(.ended (.done v) v1,t1')->∃ v' t',runNT P n (crowd gs w sl) t=(.ended (.done v) v',t')/\nO t' t1'/\Alike w0 (fun _=>False) v' v1:=by
 intro n
 induction n with
 |zero=>exact fun gs sl w w1 t t1 v v1 t1' _ _ h=>by cases h
 | succ n ih =>
  intro gs sl w w1 t t1 v v1 t1' h ht hr;have hs:=EX (sl:=sl) hP h;unfold runNT at hr |-;generalize stepT P (crowd gs w sl)=s at hs |-;generalize stepT P (crowd gs w1 sl)=s1 at hs hr;cases hs with
  |lost hb =>
   cases hr;exact(hb v rfl).elim
  |next h' ho=>exact ih _ _ _ _ _ _ v v1 t1' h' (ht.append ho) hr
  |ended ha ho =>
   cases hr;exact⟨_,_,rfl,ht.append ho,ha⟩
theorem TL (hP:FP P):∀ (n:Nat) (gs:Array Goroutine) (sl:Option (Nat × Nat)) (w w1:World) (last1:Machine),GA w0 gs w w1 ->
  runN P n (crowd gs w1 sl)=.next last1->∃ gs' sl' v v1,last1=crowd gs' v1 sl'/\runN P n (crowd gs w sl)=.next (crowd gs' v sl')/\GA w0 gs' v v1:=by
 intro n
 induction n with
 |zero =>
  intro gs sl w w1 last1 h hr;cases hr;exact⟨gs,sl,w,w1,rfl,rfl,h⟩
 |succ n ih =>
  intro gs sl w w1 last1 h hr;have hs:=EX (sl:=sl) hP h;unfold runN step at hr |-;generalize stepT P (crowd gs w sl)=s at hs |-;generalize stepT P (crowd gs w1 sl)=s1 at hs hr;cases hs with
  |lost hb=>cases hr
  |next h' ho=>exact ih _ _ _ _ last1 h' hr
  |ended ha ho=>cases hr
variable {t t1:Trace}
theorem nO.at (h:nO t t1) (i:Nat):(t[i]? = none/\t1[i]? = none)\/∃ o o1,t[i]? = some o/\t1[i]? = some o1/\OpA o o1:=by
 by_cases hi:i<t.size
 ·have e:t[i]? = some t[i]:=by simp [hi]
  have e1:t1[i]? = some (t1[i]'(by rw[h.1];exact hi)):=by simp[h.1,hi]
  exact .inr ⟨_,_,e,e1,h.2 i _ _ e e1⟩
 ·exact .inl ⟨Array.getElem?_eq_none (by omega),Array.getElem?_eq_none (by rw[h.1];omega)⟩
theorem nO.g (h:nO t t1) (i:Nat):t1.g? i=t.g? i:=by
 unfold Trace.g?;rcases h.at i with⟨e,e1⟩|⟨o,o1,e,e1,hg,_⟩
 ·rw[e,e1]
 ·rw[e,e1];simp[hg]
def Xl:MemAct->Bool
 |.access ⟨.obj _,false,_⟩=>true
 |_=>false
theorem nO.act (h:nO t t1) {a:MemAct} (ha:Xl a=false):t1.act? i=some a↔t.act? i=some a:=by
 unfold Trace.act?;rcases h.at i with⟨e,e1⟩|⟨o,o1,e,e1,_,hx⟩
 ·rw[e,e1]
 ·rw [e,e1];simp only [Option.map_some,Option.some.injEq];rcases hx with hx | ⟨r,s,h1,h2⟩
  ·rw[hx]
  ·rw [h1,h2];constructor
   ·rintro rfl;cases ha
   ·rintro rfl;cases ha
theorem nO.deaf (h:nO t t1) (g:Nat):∀ i,t1.deaf g i=t.deaf g i
 |0=>rfl
 | i+1=>by
  have ih:=nO.deaf h g i;unfold Trace.deaf;rcases h.at i with⟨e,e1⟩|⟨o,o1,e,e1,hg,hx⟩
  ·rw[e,e1];exact ih
  ·rw [e,e1,ih];obtain ⟨g0,f0,p0,a0⟩:=o;obtain ⟨g1,f1,p1,a1⟩:=o1;dsimp only at hg hx;subst hg;rcases hx with rfl | ⟨r,s,rfl,rfl⟩
   ·cases a1<;>first|rfl|(rename_i m;cases m<;>rfl)
   ·rfl
theorem nO.heard (h:nO t t1) (i:Nat):t1.heard i↔t.heard i:=by
 unfold Trace.heard;simp only[h.g,h.deaf]
theorem nO.notices (h:nO t t1) {j:Nat} (x:Notices t1 i j):Notices t i j:=by
 cases x with
 |atomic hij a b c=>exact .atomic hij ((h.act rfl).1 a) ((h.act rfl).1 b) fun k s h1 h2 h3=>c k s h1 h2 ((h.act rfl).2 h3)
 |spawn a b c=>exact .spawn ((h.act rfl).1 a) ((h.act rfl).1 b) (by rw[<- h.g];exact c)
 |handOver a b=>exact .handOver ((h.act rfl).1 a) ((h.act rfl).1 b)
 |room a b=>exact .room ((h.act rfl).1 a) ((h.act rfl).1 b)
 |closed a b=>exact .closed ((h.act rfl).1 a) ((h.act rfl).1 b)
 |marked hij a b c=>exact .marked hij (a.elim (fun a=>.inl ((h.act rfl).1 a)) fun a=>.inr ((h.act rfl).1 a)) ((h.act rfl).1 b) fun k h1 h2 h3=>c k h1 h2 ((h.act rfl).2 h3)
theorem nO.hb (h:nO t t1) {i j:Nat} (x:HappensBefore t1 i j):HappensBefore t i j:=by
 unfold HappensBefore at x |-;have one:∀ {i j},(ProgramOrder t1 i j\/(Notices t1 i j/\t1.heard i/\t1.heard j))->(ProgramOrder t i j\/(Notices t i j/\t.heard i/\t.heard j)):=by
  intro i j x;rcases x with⟨hij,g,a,b⟩|⟨a,b,c⟩
  ·exact .inl ⟨hij,g,by rw[<- h.g];exact a,by rw[<- h.g];exact b⟩
  ·exact .inr ⟨h.notices a,(h.heard i).1 b,(h.heard j).1 c⟩
 induction x with
 |single a=>exact .single (one a)
 |tail _ a ih=>exact .tail ih (one a)
theorem nO.touch (h:nO t t1) {x:Touch} (hx:(t.act? i).bind (·.touch?)=some x):∃ y,(t1.act? i).bind (·.touch?)=some y/\y.loc=x.loc/\y.write=x.write/\(x.kind=.plain->y.kind=.plain)/\(x.kind=.said->y.kind=.said):=by
 unfold Trace.act? at hx |-;rcases h.at i with⟨e,e1⟩|⟨o,o1,e,e1,_,ha⟩
 ·rw[e]at hx;cases hx
 ·rw [e] at hx;rw [e1];rcases ha with ha | ⟨r,s,h1,h2⟩
  ·simp only[Option.map_some,Option.bind_some]at hx |-;rw[ha,hx];exact⟨x,rfl,rfl,rfl,id,id⟩
  ·simp only[Option.map_some,Option.bind_some]at hx |-;rw[h1]at hx;rw[h2];cases hx;exact⟨_,rfl,rfl,rfl,fun _=>rfl,fun h=>by cases s<;>cases h⟩
theorem nO.race (h:nO t t1) {said:Bool} (x:Race said t):Race said t1:=by
 obtain⟨i,j,hij,⟨a,b,ha,hb,hc⟩,n1,n2⟩:=x;obtain⟨a',ha',l1,w1,p1,s1⟩:=h.touch ha;obtain⟨b',hb',l2,w2,p2,s2⟩:=h.touch hb;obtain⟨c1,c2,c3,c4⟩:=hc;refine⟨i,j,hij,⟨a',b',ha',hb',by rw[l1,l2];exact c1,by rw[l1];exact c2,by rw[w1,w2];exact c3,?_⟩,fun h'=>n1 (h.hb h'),fun h'=>n2 (h.hb h')⟩;rcases c4 with c|c|⟨c,d,e⟩
 ·exact .inl (p1 c)
 ·exact .inr (.inl (p2 c))
 ·exact .inr (.inr ⟨c,s1 d,s2 e⟩)
theorem nO.over (h:nO t t1) (x:t1.HandedOver):t.HandedOver:=by
 intro i g hg h0 ⟨a,ha,hm,hk⟩;obtain⟨b,hb,l,_,p,s⟩:=h.touch ha;obtain⟨j,hj,hh⟩:=x i g (by rw[h.g];exact hg) h0 ⟨b,hb,by rw[l];exact hm,by
  rcases hk with hk|hk
  ·refine .inl ?_;cases hka:a.kind with
   |plain=>rw[p hka];simp
   |said=>rw[s hka];simp
   |atomic=>exact(hk hka).elim
  ·exact .inr ((h.heard i).2 hk)⟩
 exact⟨j,by rw[<- h.g];exact hj,h.hb hh⟩
theorem vP:∀ (n:Nat) (g:Goroutine) (k d:Nat) (w w1:World),g.LeavesIn P k->g.endsWith P w n d=g.endsWith P w1 n d
 |0,g,k,d,w,w1,_=>rfl
 | n+1,g,k,d,w,w1,h=>by
  unfold Goroutine.endsWith;cases hs:g.status<;>first
   |rfl
   | (dsimp only
      cases k with
      |zero=>exact absurd ((h:g.status=.finished).symm.trans hs) (by simp)
      |succ k =>
       rcases h with h|⟨g',⟨h1,es,_,h2⟩,h3⟩
       ·rw[hs]at h;cases h
       ·rw[h2 w,h2 w1];exact vP n g' k _ w w1 h3)
theorem HY:∀ (N:Nat) (m last:Machine),runN P N m=.next last->runN P (N+1) m=step P last
 |0,m,last,h=>by
  cases h;show(match step P m with | .next m=>runN P 0 m|e=>e)=step P m;cases step P m<;>rfl
 | N+1,m,last,h=>by
  unfold runN at h |-;cases hs:step P m with
  |next m' =>
   rw[hs]at h;exact HY N m' last h
  |ended o w=>rw[hs]at h;cases h
theorem S9 {f:FuncId} {args:Array Value} {Post Post':Value->World->Prop} (hP:FP P) (ha:Alike w0 (fun _=>False) w w1) (hw:ay OC w1)
 (hpost:∀ v v' v1,Alike w0 (fun _=>False) v' v1->Post v v1->Post' v v')
  (h:∃ N last o w' t',runNT P (N+1) (solo (G (Frame.enter P f args .normal) []) w1) #[]=(.ended o w',t')/\runN P N (solo (G (Frame.enter P f args .normal) []) w1)=.next last/\step P last=.ended o w'/\Conc.Good P Post last o w' t') :
  ∃ N last o w' t',runNT P (N+1) (solo (G (Frame.enter P f args .normal) []) w) #[]=(.ended o w',t')/\runN P N (solo (G (Frame.enter P f args .normal) []) w)=.next last/\step P last=.ended o w'/\Conc.Good P Post' last o w' t':=by
 obtain⟨N,last1,o,v1,t1',h1,h2,h3,v,rfl,hp,hr,ho,hl,he⟩:=h;have hga:GA w0 #[G (Frame.enter P f args .normal) []] w w1:=by
  refine⟨ha,hw,fun g hg=>?_,fun g hg=>?_⟩
  ·have:g=G (Frame.enter P f args .normal) []:=by simpa using hg
   subst this;exact⟨qZ hP _ _ _,fun _ h=>nomatch h⟩
  ·have:g=G (Frame.enter P f args .normal) []:=by simpa using hg
   subst this;exact jc.none rfl
 obtain⟨v',t',k1,k2,k3⟩:=Pg hP (N+1) _ none w w1 #[] #[] v v1 t1' hga (nO.refl _) h1;obtain⟨gs',sl',u,u1,rfl,k4,k5⟩:=TL hP N _ none w w1 last1 hga h2;refine⟨N,crowd gs' u sl',.done v,v',t',k1,k4,?_,v,rfl,hpost _ _ _ k3 hp,fun said hx=>hr said (k2.race hx),k2.over ho,hl,?_⟩
 ·rw[<- HY N _ _ k4,<- runNT_fst P (N+1) _ #[],k1]
 ·intro i g hi h0;obtain ⟨n,hn⟩:=he i g hi h0;have hlv:g.Leaves P:=hl.1 g (by
   show g∈gs'.toList.drop 1;have:gs'.toList[i]? = some g:=by simpa[crowd]using hi
   rw[List.mem_iff_getElem?];exact⟨i-1,by rw[List.getElem?_drop,show 1+(i-1)=i from by omega];exact this⟩)
  obtain⟨k,hk⟩:=hlv;refine⟨n,?_⟩;rw[<- k2.deaf,<- k2.1];rw[<- hn];exact vP n g k _ _ _ hk
end
end Go.Tm
namespace Go.Proofs.YtjjmefieegcddaaDoor
open Go Go.Tm Go.Extern
theorem RH:(Tryd.prog.funcs.toList.all fun fn=>!fn.norace)=true:=by kernel_rfl
theorem Uh:((List.range 230).all fun t=>t == 173 || match Tryd.prog.underlying t with|some .unsafePointer=>false|_=>true)=true:=by kernel_rfl
theorem aaq:FP Tryd.prog where
 shy:=Ur
 code:=by
  intro f fn c hf hc;have hmem:fn∈Tryd.prog.funcs.toList:=by
   rw[Array.mem_toList_iff];exact Array.mem_of_getElem? hf
  have:=List.all_eq_true.1 Qj fn hmem;rw[hc]at this;exact this
 norace:=by
  intro f;cases hf:Tryd.prog.funcs[f]? with
  |none=>rfl
  | some fn =>
   have hmem:fn∈Tryd.prog.funcs.toList:=by
    rw[Array.mem_toList_iff];exact Array.mem_of_getElem? hf
   have:=List.all_eq_true.1 RH fn hmem;simpa using this
 safe:=by
  intro t ht hu;unfold okT at ht;simp only[Bool.and_eq_true,decide_eq_true_eq,bne_iff_ne]at ht;have:=List.all_eq_true.1 Uh t (List.mem_range.2 ht.1);rw[hu]at this;simp only[Bool.or_false,beq_iff_eq]at this;exact ht.2 this
end Go.Proofs.YtjjmefieegcddaaDoor
namespace Go.Wg
open Go
def ANY:Nat:=2199023255551
def qW (lo hi:Nat):Nat:=2 ^ (hi+1)-2 ^ lo
def dO (lo hi:Int):Nat :=
 if hi<0\/hi<lo then 0 else if 40<lo then 0 else qW lo.toNat (min hi 40).toNat
def rQ (m v:Nat) (out n:Nat):Nat:=if m.testBit n then out ||| (v * 2 ^ n) % 18446744073709551616 else out
def gZ (m v k:Nat):Nat:=(List.range k).foldl (rQ m v) 0
def nV (m v:Nat):Nat:=gZ m v 41 &&& ANY
theorem qA (m v k:Nat):gZ m v (k+1)=rQ m v (gZ m v k) k:=by
 unfold gZ;rw[List.range_succ,List.foldl_append];rfl
theorem wrap_u64 (n:Int) (h0:0<=n) (h1:n<18446744073709551616):IntKind.u64.wrap n=n:=by
 unfold IntKind.wrap IntKind.bits;simp[IntKind.signed];omega
theorem rJ (a b:Nat) (ha:a<18446744073709551616) (hb:b<18446744073709551616):bits .and .u64 (a:Int) (b:Int)=((a &&& b:Nat):Int):=by
 unfold bits;dsimp only;have h:(BitVec.ofInt IntKind.u64.bits (a:Int) &&& BitVec.ofInt IntKind.u64.bits (b:Int)).toNat=a &&& b:=by
  rw[BitVec.toNat_and,BitVec.ofInt_natCast,BitVec.ofInt_natCast,BitVec.toNat_ofNat,BitVec.toNat_ofNat];show a % 18446744073709551616 &&& b % 18446744073709551616=_;rw[Nat.mod_eq_of_lt ha,Nat.mod_eq_of_lt hb]
 rw[h];apply wrap_u64
 ·omega
 ·have:=Nat.and_le_left (n:=a) (m:=b);omega
theorem Jw (a b:Nat) (ha:a<18446744073709551616) (hb:b<18446744073709551616):bits .or .u64 (a:Int) (b:Int)=((a ||| b:Nat):Int):=by
 unfold bits;dsimp only;have h:(BitVec.ofInt IntKind.u64.bits (a:Int) ||| BitVec.ofInt IntKind.u64.bits (b:Int)).toNat=a ||| b:=by
  rw[BitVec.toNat_or,BitVec.ofInt_natCast,BitVec.ofInt_natCast,BitVec.toNat_ofNat,BitVec.toNat_ofNat];show a % 18446744073709551616 ||| b % 18446744073709551616=_;rw[Nat.mod_eq_of_lt ha,Nat.mod_eq_of_lt hb]
 rw[h];apply wrap_u64
 ·omega
 ·have:a ||| b<2 ^ 64:=Nat.or_lt_two_pow (by omega) (by omega);omega
theorem UU (m n:Nat) (hm:m<18446744073709551616):(bits .and .u64 ((m:Int) / 2 ^ n) 1 == 1)=m.testBit n:=by
 have e:((m:Int) / 2 ^ n)=((m / 2 ^ n:Nat):Int):=by
  rw[Int.natCast_ediv];simp
 have h1:m / 2 ^ n<18446744073709551616:=Nat.lt_of_le_of_lt (Nat.div_le_self _ _) hm;have h2:=rJ (m / 2 ^ n) 1 h1 (by omega);rw[e,show(1:Int)=((1:Nat):Int)from rfl,h2];rw[Nat.testBit,Nat.shiftRight_eq_div_pow,Nat.and_comm];rcases Nat.mod_two_eq_zero_or_one (m / 2 ^ n)with h|h<;>simp[Nat.and_one_is_mod,h]
theorem UK:((List.range 41).all fun lo=>(List.range 41).all fun hi=>decide (hi<lo) || (bits .and .u64 (IntKind.u64.wrap (2199023255551 / 2 ^ lo * 2 ^ lo)) (2199023255551 / 2 ^ (40-hi)) == ((qW lo hi:Nat):Int)))=true:=by kernel_rfl
theorem wK (lo hi:Nat) (h:lo<=hi) (h1:hi<=40):bits .and .u64 (IntKind.u64.wrap (2199023255551 / 2 ^ lo * 2 ^ lo)) (2199023255551 / 2 ^ (40-hi))=((qW lo hi:Nat):Int):=by
 have:=List.all_eq_true.1 (List.all_eq_true.1 UK lo (List.mem_range.2 (by omega))) hi (List.mem_range.2 (by omega));simp only[Bool.or_eq_true,decide_eq_true_eq,beq_iff_eq]at this;rcases this with h2|h2
 ·omega
 ·exact h2
theorem Ut (lo hi:Nat) (h1:hi<=40):qW lo hi<2199023255552:=by
 unfold qW;have h2:2 ^ (hi+1)<=2 ^ 41:=Nat.pow_le_pow_right (by omega) (by omega);have h3:0<2 ^ lo:=Nat.pow_pos (by omega);have h4:(2:Nat) ^ 41=2199023255552:=by decide
 omega
theorem rG (lo hi:Int):dO lo hi<2199023255552:=by
 unfold dO;split
 ·decide
 ·split
  ·decide
  ·exact Ut _ _ (by omega)
theorem Ii (m v k:Nat):gZ m v k<18446744073709551616:=by
 induction k with
 |zero=>exact(by decide:(0:Nat)<18446744073709551616)
 |succ k ih =>
  rw[qA];unfold rQ;split
  ·have:gZ m v k ||| v * 2 ^ k % 18446744073709551616<2 ^ 64:=Nat.or_lt_two_pow (by omega) (Nat.mod_lt _ (by decide));omega
  ·exact ih
theorem JX (m v:Nat):nV m v<2199023255552:=by
 unfold nV;have:=Nat.and_le_right (n:=gZ m v 41) (m:=ANY);have h:ANY=2199023255551:=rfl;omega
theorem Fh (v n:Nat):IntKind.u64.wrap ((v:Int) * 2 ^ n)=(((v * 2 ^ n) % 18446744073709551616:Nat):Int):=by
 unfold IntKind.wrap IntKind.bits;simp[IntKind.signed]
end Go.Wg
namespace Go
section
variable {P:Program} {ops:Array Oper} {md:Region.Mode} {C:World->Prop}
def yX (P:Program) (md:Region.Mode) (ops:Array Oper) (C:World->Prop) (n:Nat) (L:Array Bool->Act->Prop):Nat->Array Bool->Act->Prop
 |0,listed,a=>L listed a
 |f+1,listed,a =>
  Region.ready md ops listed≠[]/\∀ i∈Region.ready md ops listed,i<n/\qOp P ops C i (yX P md ops C n L f (listed.setIfInBounds i true)) a
theorem vF {n g:Nat} {L:Array Bool->Act->Prop} {Q':Exit->Act->World->Prop} (hL:∀ listed a w,C w->L listed a->wpAny P md ops Q' g listed a w) :
  ∀ (f:Nat) (listed:Array Bool) (a:Act) (w:World),C w->yX P md ops C n L f listed a->wpAny P md ops Q' (f+g) listed a w
 |0,listed,a,w,hw,h=>by rw[Nat.zero_add];exact hL _ _ _ hw h
 |f+1,listed,a,w,hw,h=>by
  rw[show f+1+g=(f+g)+1 by omega];exact⟨fun h0=>absurd h0 h.1,fun i hi=>wpOp_of_qOp hw (fun a' w' hw' h'=>vF hL f _ a' w' hw' h') (h.2 i hi).2⟩
theorem FW {n i:Nat} {oi:Oper} {v:Value} {L:Array Bool->Act->Prop} (hi:ops[i]? = some oi) (hsel:∀ (j:Nat) (o:Oper) cs b,ops[j]? = some o->o.op≠.select cs b)
  (hs:Region.sinkB md ops n=true) (hc:Region.chainB md ops n=true) (hn:n<ops.size) (hin:i<n)
  (hdone:∀ listed a,L listed a->∀ j∈Region.ready md ops listed,n<=j) :
  ∀ (f:Nat) (listed:Array Bool) (a:Act),HeadInv md ops n listed ->
   (∀ j oj,ops[j]? = some oj->j≠i->listed.getD j true=false->(∀ e∈oj.after,Region.binds md e=true->e.on≠i)->oi.apart ops oj=true) ->
   i∈Region.ready md ops listed->YieldsIn P ops C oi v a ->
   yX P md ops C n L f (listed.setIfInBounds i true) (a.put oi.dst v)->yX P md ops C n L (f+1) listed a:=by
 intro f
 induction f with
 | zero =>
  intro listed a inv _ hr hy H;have hun:=(mem_ready.1 hr).1;refine⟨fun h=>(by rw[h]at hr;cases hr),fun j hj=>?_⟩;have hjn:j<n:=by
   rcases Nat.lt_or_ge j n with h|h
   ·exact h
   ·exact absurd hj (tail_waits hs hc hn inv _ i rfl hin hun j h)
  refine⟨hjn,?_⟩;by_cases hji:j=i
  ·subst hji;exact hy.qOp hi H
  ·have:=hdone _ _ H j (ready_mono hj hji);omega
 | succ f ih =>
  intro listed a inv hfree hr hy H;have hun:=(mem_ready.1 hr).1;refine⟨fun h=>(by rw[h]at hr;cases hr),fun j hj=>?_⟩;have hjn:j<n:=by
   rcases Nat.lt_or_ge j n with h|h
   ·exact h
   ·exact absurd hj (tail_waits hs hc hn inv _ i rfl hin hun j h)
  refine⟨hjn,?_⟩;by_cases hji:j=i
  ·subst hji;exact hy.qOp hi H
  ·have h1:=(H.2 j (ready_mono hj hji)).2;obtain ⟨hjun,oj,hoj,hall⟩:=mem_ready.1 hj;have hnot:∀ e∈oj.after,Region.binds md e=true->e.on≠i:=fun e he hb heq=>by
    have h1:=hall e he hb;rw[heq,getD_both hun]at h1;cases h1
   have h2:=qOp_put hoj (hfree j oj hoj hji hjun hnot) (fun cs b=>hsel i oi cs b hi) (fun cs b=>hsel j oj cs b hoj) hy h1;have hfree':∀ k ok,ops[k]? = some ok->k≠i->(listed.setIfInBounds j true).getD k true=false ->
     (∀ e∈ok.after,Region.binds md e=true->e.on≠i)->oi.apart ops ok=true:=fun k ok hk hki hun hno=>by
    refine hfree k ok hk hki ?_ hno;by_cases hjk:j=k
    ·subst hjk;exact hjun
    ·rw[getD_set_ne true hjk]at hun;exact hun
   refine qOp_mono (fun a' h3=>ih (listed.setIfInBounds j true) a' (inv.set hj hjn) hfree' (ready_mono hr (Ne.symm hji)) h3.1 ?_) h2;rw[Array.setIfInBounds_comm _ _ hji];exact h3.2
theorem BJ {n g:Nat} {Lq:Act->Prop} (hsel:Region.noSelect ops=true) (hs:Region.sinkB md ops n=true) (hc:Region.chainB md ops n=true) (hn:n<ops.size) :
  ∀ (l:List Oper) (k:Nat) (listed:Array Bool) (a:Act),(∀ j,j<l.length->l[j]? = ops[k+j]?)->k+l.length=n->HeadInv md ops n listed ->
  Region.lexHead md ops g l.length k listed=true->wpQuiet P ops C Lq l a ->
  yX P md ops C n (fun listed' a'=>Region.seqB md ops g n listed'=true/\Lq a') l.length listed a
 | [],k,listed,a,_,hk,_,hB,h=>by
  have:k=n:=by simpa using hk
  subst this;exact⟨by simpa[Region.lexHead]using hB,h⟩
 | o::l,k,listed,a,hl,hk,inv,hB,h=>by
  have h0:ops[k]? = some o:=by simpa using(hl 0 (by simp)).symm
  simp only[List.length_cons,Region.lexHead,Bool.and_eq_true]at hB;obtain⟨⟨hr,hf⟩,hB'⟩:=hB;have hkn:k<n:=by simp only[List.length_cons]at hk;omega
  have hr':k∈Region.ready md ops listed:=by simpa using hr
  have hst:qOp P ops C k (wpQuiet P ops C Lq l) a:=by unfold qOp;simp only[h0];exact h
  obtain⟨v,hy,hK⟩:=yieldsIn_of_qOp h0 hst;exact FW h0 (Region.noSelect_spec hsel) hs hc hn hkn (fun listed' a' hL=>seqB_ready hL.1) l.length listed a inv (Region.free_spec h0 hf) hr' hy
   (BJ hsel hs hc hn l (k+1) _ _ (fun j hj=>by have:=hl (j+1) (by simp;omega);simpa[Nat.add_assoc,Nat.add_comm 1 j]using this) (by simp only[List.length_cons]at hk;omega) (inv.set hr' hkn) hB' hK)
theorem aY {id:Nat} {Q:Exit->Act->World->Prop} {a:Act} {w:World} {l:List Oper} (n:Nat) (hm:P.follows .mixedOrders=true) (hB:Region.lexTailB .any l.toArray n=true)
  (hC:C {w with drawn:=w.drawn+1})
  (h:wpQuiet P l.toArray C (fun a'=>∀ w',C w'->wpList P l.toArray Q (l.drop n) a' w') (l.take n) a):(Code.region id l.toArray true).wp P Q a w:=by
 simp only[Region.lexTailB,Bool.and_eq_true,decide_eq_true_eq]at hB;obtain⟨⟨⟨⟨hsel,hn⟩,hs⟩,hc⟩,hlex⟩:=hB;have hn':n<l.length:=by simpa using hn
 have htl:(l.take n).length=n:=by simp;omega
 have hdl:(l.drop n).length=l.toArray.size-n:=by simp
 have inv0:HeadInv .any l.toArray n (Array.replicate l.toArray.size false) :=
  ⟨by simp,fun j oj _ hl=>(by rw[getD_replicate_false]at hl;cases hl),fun t _ ht=>getD_in (by simpa using ht) (getD_replicate_false _ _)⟩
 have H:=BJ (md:=.any) (C:=C) (g:=l.toArray.size-n) hsel hs hc hn (l.take n) 0 _ a (fun j hj=>by
  have hj':j<n:=by rw[htl]at hj;exact hj
  simp[hj']) (by simpa using htl) inv0 (by rw[htl];exact hlex) h
 refine wp_region_any hm ?_;have:=vF (Q':=Q) (C:=C) (g:=l.toArray.size-n) (fun listed a' w' hw' hL=>by
  have:=wpAny_of_seq (md:=.any) (Q':=Q) (l.drop n) n listed a' w' (fun j=>by simp[List.getElem?_drop]) (by rw[hdl];exact hL.1) (hL.2 _ hw')
  rwa [hdl]at this) _ _ _ _ hC H
 rw[htl,show n+(l.toArray.size-n)=l.toArray.size by omega]at this;exact this
end
end Go
namespace Go.Mm
open Go
variable {b i j n s:Nat} {v:Value} {cs vs xs:List Value} {t:TypeId}
abbrev View:=Nat->Option Obj
def View.In (V:View) (w:World):Prop:=∀ k o,V k=some o->w.heap[k]? = some o
def View.Cell (V:View) (b i:Nat) (v:Value):Prop:=∃ cs t fr,V b=some (.cells cs t fr)/\cs[i]? = some v
def View.Range (V:View) (b i:Nat) (vs:List Value):Prop:=∀ j v,vs[j]? = some v->V.Cell b (i+j) v
theorem View.Cell.cell {V:View} {w:World} (h:V.Cell b i v) (hV:V.In w):w.cell? ⟨b,i,none⟩=some v:=by
 obtain⟨cs,t,fr,h1,h2⟩:=h;rw[cell_of_row w b i cs t fr (hV _ _ h1)];exact h2
theorem View.Range.range {V:View} {w:World} (h:V.Range b i vs) (hV:V.In w):w.rangeAt b i vs:=fun j v hj=>(h j v hj).cell hV
theorem View.Cell.mono {V V':View} (h:V.Cell b i v) (hV:∀ k o,V k=some o->V' k=some o):V'.Cell b i v:=by
 obtain⟨cs,t,fr,h1,h2⟩:=h;exact⟨cs,t,fr,hV _ _ h1,h2⟩
theorem View.Range.mono {V V':View} (h:V.Range b i vs) (hV:∀ k o,V k=some o->V' k=some o):V'.Range b i vs:=fun j v hj=>(h j v hj).mono hV
inductive dF where
 |blk (b:Nat) (t:TypeId) (cs:List Value)
 |row (v:Value) (t:TypeId) (size n:Nat) (xs:List Value)
def dF.foot:dF->Option Nat
 |.blk b _ _=>some b
 |.row v _ _ _ _=>v.ownBlock
def iL:Value->Bool
 |.int _ _ | .bool _ | .pointer none | .slice none _ _=>true
 |_=>false
def DR (w:World) (v:Value) (k:Nat):Prop:=∀ g,v.ownBlock=some g->∀ cur t fr,w.heap[g]? = some (.cells cur t fr)->∀ i c,k<=i->cur[i]? = some c->iL c=true
def dF.Holds (w:World):dF->Prop
 |.blk b t cs=>w.heap[b]? = some (.cells cs.toArray t (0,0))
 |.row v t s n xs=>w.ownsRow 0 t s v n xs/\DR w v (n * s)
structure St (w0:World) (X:List Nat) (V:View) (L:List dF) (w:World):Prop where
 os:w.os=w0.os
 output:w.output=w0.output
 size:w0.heap.size<=w.heap.size
 old:∀ k,k<w0.heap.size->k ∉ X->w.heap[k]? = w0.heap[k]?
 view:V.In w
 has:∀ e∈L,e.Holds w
 new:∀ e∈L,∀ b,e.foot=some b->w0.heap.size<=b\/b∈X
 off:∀ e∈L,∀ b,e.foot=some b->V b=none
 nd:(L.filterMap dF.foot).Nodup
structure Kp (w w':World):Prop where
 os:w'.os=w.os
 output:w'.output=w.output
 size:w.heap.size<=w'.heap.size
 old:∀ k,k<w.heap.size->w'.heap[k]? = w.heap[k]?
theorem Kp.refl (w:World):Kp w w:=⟨rfl,rfl,Nat.le_refl _,fun _ _=>rfl⟩
theorem Kp.drew (w:World) (n:Nat):Kp w (w.drewN n):=⟨rfl,rfl,Nat.le_refl _,fun _ _=>rfl⟩
theorem Kp.trans {a b c:World} (h:Kp a b) (k:Kp b c):Kp a c :=
 ⟨k.os.trans h.os,k.output.trans h.output,Nat.le_trans h.size k.size,fun i hi=>(k.old i (Nat.lt_of_lt_of_le hi h.size)).trans (h.old i hi)⟩
theorem lt_of_heap {w:World} {k:Nat} {o:Obj} (h:w.heap[k]? = some o):k<w.heap.size:=by
 rcases Nat.lt_or_ge k w.heap.size with h1|h1
 ·exact h1
 ·rw[Array.getElem?_eq_none h1]at h;cases h
theorem View.In.kp {V:View} {w w':World} (h:V.In w) (k:Kp w w'):V.In w':=fun i o hi=>by
 have:=h i o hi;rw[k.old i (lt_of_heap this)];exact this
theorem Ci {w w':World} {e:TypeId} (h:w.ownsRow 0 e s v n xs) (hb:∀ g,v.ownBlock=some g->w'.heap[g]? = w.heap[g]?):w'.ownsRow 0 e s v n xs:=by
 obtain⟨h1,h2⟩:=h;refine⟨h1,?_⟩;rcases h2 with h2|⟨g,cap,cur,rfl,h3,h4,h5⟩
 ·exact .inl h2
 ·exact .inr ⟨g,cap,cur,rfl,h3,by rw[hb g rfl];exact h4,h5⟩
theorem dF.Holds.of_heap {w w':World} {e:dF} (h:e.Holds w) (hb:∀ g,e.foot=some g->w'.heap[g]? = w.heap[g]?):e.Holds w':=by
 cases e with
 |blk b t cs=>exact(hb b rfl).trans h
 |row v t s n xs=>exact⟨Ci h.1 hb,fun g hg cur t fr hc=>h.2 g hg cur t fr (by rw[<- hb g hg];exact hc)⟩
theorem dF.Holds.lt {w:World} {e:dF} (h:e.Holds w) {g:Nat} (hg:e.foot=some g):g<w.heap.size:=by
 cases e with
 |blk b t cs=>cases hg;exact lt_of_heap h
 |row v t s n xs=>exact(World.ownsRow.lt h.1 g hg).2
variable {w0:World} {X:List Nat} {V:View} {L:List dF} {w w':World}
theorem St.start (w:World) (V:View) (hV:V.In w):St w [] V [] w :=
 ⟨rfl,rfl,Nat.le_refl _,fun _ _ _=>rfl,hV,by simp,by simp,by simp,by simp⟩
theorem St.kp (h:St w0 X V L w) (k:Kp w w'):St w0 X V L w' :=
 ⟨k.os.trans h.os,k.output.trans h.output,Nat.le_trans h.size k.size,fun i hi hx=>(k.old i (Nat.lt_of_lt_of_le hi h.size)).trans (h.old i hi hx),
  h.view.kp k,fun e he=>(h.has e he).of_heap (fun g hg=>k.old g ((h.has e he).lt hg)),h.new,h.off,h.nd⟩
theorem St.drew (h:St w0 X V L w) (n:Nat):St w0 X V L (w.drewN n):=h.kp (Kp.drew w n)
theorem St.bM (h:St w0 [] V L w):Kp w0 w:=⟨h.os,h.output,h.size,fun k hk=>h.old k hk (by simp)⟩
theorem vN {e:dF} (he:e∈L) (hf:e.foot=some b):b∈L.filterMap dF.foot:=List.mem_filterMap.2 ⟨e,he,hf⟩
theorem St.alloc (h:St w0 X V L w) (t:TypeId) (cs:List Value):St w0 X V (.blk w.heap.size t cs::L) (w.alloc (.cells cs.toArray t)):=by
 have hold:∀ k,k<w.heap.size->(w.alloc (.cells cs.toArray t)).heap[k]? = w.heap[k]?:=fun k hk=>heap_alloc_old w _ hk
 have hlt:∀ e∈L,∀ b,e.foot=some b->b<w.heap.size:=fun e he b hb=>(h.has e he).lt hb
 refine⟨h.os,h.output,?_,fun k hk hx=>(hold k (Nat.lt_of_lt_of_le hk h.size)).trans (h.old k hk hx),fun k o hk=>?_,?_,?_,?_,?_⟩
 ·have:=h.size;show _<=(w.heap.push _).size;simp;omega
 ·have:=h.view k o hk;rw[hold k (lt_of_heap this)];exact this
 ·intro e he;rcases List.mem_cons.1 he with rfl | he
  ·exact heap_alloc_new w _
  ·exact(h.has e he).of_heap (fun g hg=>hold g (hlt e he g hg))
 ·intro e he b hb;rcases List.mem_cons.1 he with rfl | he
  ·cases hb;exact .inl h.size
  ·exact h.new e he b hb
 ·intro e he b hb;rcases List.mem_cons.1 he with rfl | he
  ·cases hb;cases hv:V w.heap.size with
   |none=>rfl
   |some o=>exact absurd (lt_of_heap (h.view _ _ hv)) (Nat.lt_irrefl _)
  ·exact h.off e he b hb
 ·show(List.filterMap dF.foot (dF.blk w.heap.size t cs::L)).Nodup;rw[List.filterMap_cons_some (f:=dF.foot) (b:=w.heap.size) rfl,List.nodup_cons];refine⟨fun hm=>?_,h.nd⟩;obtain⟨e,he,hf⟩:=List.mem_filterMap.1 hm;exact absurd (hlt e he _ hf) (Nat.lt_irrefl _)
theorem CZ (hnd:(L.filterMap dF.foot).Nodup) {j i:Nat} {e f:dF} (hj:L[j]? = some e) (hi:L[i]? = some f) (hji:j≠i) {b:Nat} (he:e.foot=some b):f.foot≠some b:=by
 induction L generalizing j i with
 |nil=>simp at hj
 | cons a L ih =>
  intro hf;cases ha:a.foot with
  | none =>
   rw[List.filterMap_cons_none ha]at hnd;cases j with
   |zero=>simp at hj;subst hj;rw[he]at ha;cases ha
   |succ j =>
    cases i with
    |zero=>simp at hi;subst hi;rw[hf]at ha;cases ha
    |succ i=>exact ih hnd (by simpa using hj) (by simpa using hi) (by omega) hf
  | some c =>
   rw[List.filterMap_cons_some ha,List.nodup_cons]at hnd;cases j with
   |zero =>
    simp at hj;subst hj;rw[he]at ha;cases ha;cases i with
    |zero=>exact hji rfl
    |succ i=>exact hnd.1 (vN (List.mem_of_getElem? (by simpa using hi)) hf)
   | succ j =>
    cases i with
    |zero =>
     simp at hi;subst hi;rw[hf]at ha;cases ha;exact hnd.1 (vN (List.mem_of_getElem? (by simpa using hj)) he)
    |succ i=>exact ih hnd.2 (by simpa using hj) (by simpa using hi) (by omega) hf
theorem mX {j:Nat} {e f:dF} (hj:L[j]? = some e) (hf:f.foot=e.foot):(L.set j f).filterMap dF.foot=L.filterMap dF.foot:=by
 induction L generalizing j with
 |nil=>simp at hj
 | cons a L ih =>
  cases j with
  |zero=>simp at hj;subst hj;simp[List.filterMap_cons,hf]
  |succ j =>
   simp only[List.set_cons_succ,List.filterMap_cons];rw[ih (by simpa using hj)]
theorem St.set (h:St w0 X V L w) {e f:dF} (hj:L[j]? = some e) (he:e.foot=some b) (hf:f.foot=some b)
 (hos:w'.os=w.os) (hout:w'.output=w.output) (hsz:w'.heap.size=w.heap.size) (hoth:∀ k,k≠b->w'.heap[k]? = w.heap[k]?) (hh:f.Holds w') {L':List dF} (hL:L.set j f=L'):St w0 X V L' w':=by
 subst hL;have hem:e∈L:=List.mem_of_getElem? hj;have hb:=h.new e hem b he;have hbV:=h.off e hem b he;refine⟨hos.trans h.os,hout.trans h.output,by rw[hsz];exact h.size,fun k hk hx=>?_,fun k o hk=>?_,?_,?_,?_,?_⟩
 ·have hkb:k≠b:=by
   rintro rfl;rcases hb with hb|hb
   ·omega
   ·exact hx hb
  exact(hoth k hkb).trans (h.old k hk hx)
 ·have hkb:k≠b:=by rintro rfl;rw [hbV] at hk;cases hk
  rw[hoth k hkb];exact h.view k o hk
 ·intro g hg;rcases List.getElem?_of_mem hg with ⟨i,hi⟩;rw [List.getElem?_set] at hi;by_cases hji:j=i
  ·subst hji;have hl:j < L.length:=by
    rcases List.getElem?_eq_some_iff.1 hj with⟨hl,_⟩;exact hl
   simp[hl]at hi;subst hi;exact hh
  ·simp[hji]at hi;have hgL:g∈L:=List.mem_of_getElem? hi;exact(h.has g hgL).of_heap (fun k hk=>hoth k (by rintro rfl;exact CZ h.nd hj hi hji he hk))
 ·intro g hg c hc;rcases List.mem_or_eq_of_mem_set hg with hg | rfl
  ·exact h.new g hg c hc
  ·rw[hf]at hc;cases hc;exact hb
 ·intro g hg c hc;rcases List.mem_or_eq_of_mem_set hg with hg | rfl
  ·exact h.off g hg c hc
  ·rw[hf]at hc;cases hc;exact hbV
 ·rw[mX hj (by rw[hf,he])];exact h.nd
theorem St.at (h:St w0 X V L w) (hj:L[j]? = some (.blk b t cs)):w.heap[b]? = some (.cells cs.toArray t (0,0)) :=
 h.has _ (List.mem_of_getElem? hj)
theorem St.wu (h:St w0 X V L w) (hj:L[j]? = some (.row v t s n xs)):w.ownsRow 0 t s v n xs :=
 (h.has _ (List.mem_of_getElem? hj)).1
theorem St.Wj (h:St w0 X V L w) (hj:L[j]? = some (.row v t s n xs)):DR w v (n * s) :=
 (h.has _ (List.mem_of_getElem? hj)).2
theorem St.freeze (h:St w0 X V (.blk b t cs::L) w):St w0 X (fun k=>if k=b then some (.cells cs.toArray t (0,0)) else V k) L w:=by
 refine⟨h.os,h.output,h.size,h.old,fun k o hk=>?_,fun e he=>h.has e (List.mem_cons_of_mem _ he),fun e he=>h.new e (List.mem_cons_of_mem _ he),fun e he c hc=>?_,?_⟩
 ·by_cases hkb:k=b
  ·subst hkb;simp at hk;subst hk;exact h.has _ (List.mem_cons_self ..)
  ·simp[hkb]at hk;exact h.view k o hk
 ·have hcb:c≠b:=by
   rintro rfl;have:=h.nd;rw[List.filterMap_cons_some (f:=dF.foot) (b:=c) rfl,List.nodup_cons]at this;exact this.1 (vN he hc)
  simp[hcb];exact h.off e (List.mem_cons_of_mem _ he) c hc
 ·have:=h.nd;rw[List.filterMap_cons_some (f:=dF.foot) (b:=b) rfl,List.nodup_cons]at this;exact this.2
theorem St.drop {e:dF} (h:St w0 X V (e::L) w):St w0 X V L w :=
 ⟨h.os,h.output,h.size,h.old,h.view,fun g hg=>h.has g (List.mem_cons_of_mem _ hg),fun g hg=>h.new g (List.mem_cons_of_mem _ hg),fun g hg=>h.off g (List.mem_cons_of_mem _ hg),by
  have:=h.nd;cases he:e.foot with
  |none=>rwa [List.filterMap_cons_none he]at this
  |some b=>rw[List.filterMap_cons_some he,List.nodup_cons]at this;exact this.2⟩
theorem St.perm (h:St w0 X V L w) {L':List dF} (hp:L.Perm L'):St w0 X V L' w :=
 ⟨h.os,h.output,h.size,h.old,h.view,fun g hg=>h.has g (hp.mem_iff.2 hg),fun g hg=>h.new g (hp.mem_iff.2 hg),fun g hg=>h.off g (hp.mem_iff.2 hg),(hp.filterMap dF.foot).nodup_iff.1 h.nd⟩
theorem St.weaken (h:St w0 X V L w) {V':View} (hV:∀ k o,V' k=some o->V k=some o):St w0 X V' L w :=
 ⟨h.os,h.output,h.size,h.old,fun k o hk=>h.view k o (hV k o hk),h.has,h.new,(fun e he b hb=>by
  cases hv:V' b with
  |none=>rfl
  |some o=>have:=h.off e he b hb;rw[hV b o hv]at this;cases this),h.nd⟩
theorem St.call (h:St w0 X V L w) (k:Kp w w') {V':View} (hV:V'.In w') (hnew:∀ i,i<w.heap.size->V' i=V i):St w0 X V' L w':=by
 have h':=h.kp k;exact⟨h'.os,h'.output,h'.size,h'.old,hV,h'.has,h'.new,fun e he b hb=>by rw[hnew b ((h.has e he).lt hb)];exact h.off e he b hb,h'.nd⟩
structure ni (b:Nat) (w w':World):Prop where
 os:w'.os=w.os
 output:w'.output=w.output
 size:w.heap.size<=w'.heap.size
 old:∀ k,k<w.heap.size->k≠b->w'.heap[k]? = w.heap[k]?
theorem St.but {e:dF} (h:St w0 X V (e::L) w) (he:e.foot=some b) (k:ni b w w'):St w0 X V L w':=by
 have hd:=h.drop;have hb:=h.new e (List.mem_cons_self ..) b he;have hbV:=h.off e (List.mem_cons_self ..) b he;have hbL:∀ f∈L,∀ g,f.foot=some g->g≠b:=fun f hf g hg hgb=>by
  subst hgb;have:=h.nd;rw[List.filterMap_cons_some (f:=dF.foot) he,List.nodup_cons]at this;exact this.1 (vN hf hg)
 refine⟨k.os.trans h.os,k.output.trans h.output,Nat.le_trans h.size k.size,fun j hj hx=>?_,fun j o hj=>?_,fun f hf=>?_,hd.new,hd.off,hd.nd⟩
 ·have hjb:j≠b:=by
   rintro rfl;rcases hb with hb|hb
   ·omega
   ·exact hx hb
  exact(k.old j (Nat.lt_of_lt_of_le hj h.size) hjb).trans (h.old j hj hx)
 ·have hjb:j≠b:=by rintro rfl;rw [hbV] at hj;cases hj
  have:=h.view j o hj;rw[k.old j (lt_of_heap this) hjb];exact this
 ·exact(hd.has f hf).of_heap fun g hg=>k.old g ((hd.has f hf).lt hg) (hbL f hf g hg)
theorem St.sub {L':List dF} (h:St w0 X V L w) (hs:L'.Sublist L):St w0 X V L' w :=
 ⟨h.os,h.output,h.size,h.old,h.view,fun g hg=>h.has g (hs.subset hg),fun g hg=>h.new g (hs.subset hg),fun g hg=>h.off g (hs.subset hg),(hs.filterMap dF.foot).nodup h.nd⟩
end Go.Mm
namespace Go.Mm
open Go
variable {t ty:TypeId} {b i j n:Nat} {o:Oper} {cs vs:List Value} {fr:Nat × Nat} {v:Value} {ρ:Operand->Value} {x y:Operand} {L':List dF}
variable {P:Program}
def uK (P:Program) (ty:TypeId):Bool:=match P.underlying ty with|some (.struct _)|some (.array _ _)=>false|some _=>(P.info? ty).any (·.size == 1)|none=>false
def rowB (P:Program) (ty:TypeId) (n:Nat):Bool:=(match P.underlying ty with|some (.struct _)|some (.array _ _)=>true|_=>false) && (P.info? ty).any (·.size == n)
def QD (P:Program) (ty:TypeId):List Value:=match (P.info? ty).bind (·.zero)with|some v=>v.cells.toList|none=>[]
def QK (P:Program) (ty:TypeId):Bool:=((P.info? ty).bind (·.zero)).isSome
theorem qR (h:uK P ty=true) (w:World):(isAgg ty).run P w=.ok false w:=by
 unfold uK at h;cases hu:P.underlying ty with
 |none=>rw[hu]at h;cases h
 |some d =>
  unfold isAgg;rw[Sem.run_bind,run_underlying hu w];rw[hu]at h;cases d<;>simp_all
theorem sW (h:rowB P ty n=true):∃ d,P.underlying ty=some d/\d.isRow=true/\(P.info? ty).map (·.size)=some n:=by
 unfold rowB at h;simp only[Bool.and_eq_true]at h;obtain⟨h1,h2⟩:=h;cases hu:P.underlying ty with
 |none=>rw[hu]at h1;cases h1
 | some d =>
  rw[hu]at h1;refine⟨d,rfl,?_,?_⟩
  ·cases d<;>simp_all
  ·cases hq:P.info? ty with
   |none=>rw[hq]at h2;cases h2
   |some i=>rw[hq]at h2;simpa using h2
theorem aX {w:World} {o:Nat} (hb:w.heap[b]? = some (.cells cs.toArray t fr)) (hv:cs[o]? = some v):w.cell? ⟨b,o,none⟩=some v:=by
 rw[cell_of_row w b o _ t fr hb];simpa using hv
theorem lK {w:World} {o:Nat} (hb:w.heap[b]? = some (.cells cs.toArray t fr)) (hv:(cs.drop o).take n=vs):w.rangeAt b o vs:=fun j v hj=>by
 refine aX hb ?_;subst hv;rw[List.getElem?_take]at hj;split at hj
 ·rwa [List.getElem?_drop]at hj
 ·cases hj
theorem Wh (h:cs.length=n):(cs.drop 0).take n=cs:=by subst h;simp
theorem fP {w:World} (ho:o.op=.load ty x) (hx:ρ x=.pointer (some ⟨b,i,none⟩)) (hty:uK P ty=true)
 (hc:w.cell? ⟨b,i,none⟩=some v):(execOp ρ o).run P w=.ok (.value v) w:=by
 unfold execOp;simp only[ho,hx,Instr.loadAt,Instr.sureAddr,Sem.run_bind,Sem.run_pure,Result.andThen_ok,loadVar,qR hty];simp[hc]
theorem iy {w:World} (ho:o.op=.load ty x) (hx:ρ x=.pointer (some ⟨b,i,none⟩)) (hty:rowB P ty n=true)
 (hn:vs.length=n) (hc:w.rangeAt b i vs):(execOp ρ o).run P w=.ok (.value (.agg vs.toArray)) w:=by
 obtain⟨d,hu,hd,hi⟩:=sW hty;unfold execOp;simp only[ho,hx,Instr.loadAt,Instr.sureAddr,Sem.run_bind,Sem.run_pure,Result.andThen_ok,run_loadVar_mid w b i ty vs d hc hu hd (by rw[hi,hn])]
theorem qL (w:World) (a:Addr) (v:Value) (k:Nat) (hk:k≠a.block):(w.setCell a v).heap[k]? = w.heap[k]?:=heap_setCell_other w a k v hk
theorem xw (b:Nat) (t:TypeId):∀ (vs:List Value) (o:Nat) (w:World) (cs:List Value),w.heap[b]? = some (.cells cs.toArray t (0,0))->o+vs.length<=cs.length ->
  (w.setCells b o vs).heap[b]? = some (.cells (cs.take o ++ vs ++ cs.drop (o+vs.length)).toArray t (0,0))
 | [],o,w,cs,hb,_=>by simpa[World.setCells]using hb
 | v::r,o,w,cs,hb,hl=>by
  have h1:(w.setCell ⟨b,o,none⟩ v).heap[b]? = some (.cells (cs.set o v).toArray t (0,0)):=by
   rw[heap_setCell_same w b o _ t v hb];simp
  have:=xw b t r (o+1) _ _ h1 (by simp at hl |-;omega);show((w.setCell ⟨b,o,none⟩ v).setCells b (o+1) r).heap[b]? = _;rw[this];congr 3;simp only[List.length_cons]at hl |-;rw[List.take_set,List.drop_set_of_lt (by omega)];apply List.ext_getElem?;intro i;simp only[List.append_assoc,List.cons_append,List.getElem?_append,List.length_set,List.length_take,List.getElem?_set,List.getElem?_take,List.getElem?_cons,List.getElem?_drop];have e1:min (o+1) cs.length=o+1:=by omega
  have e2:min o cs.length=o:=by omega
  rw[e1,e2];by_cases h1:i<o
  ·simp[h1,show i<o+1 by omega,show ¬ o=i by omega]
  ·by_cases h2:i=o
   ·subst h2;simp
   ·have h3:¬ i < o+1:=by omega
    simp only[h1,h3,if_false];have h4:i-o≠0:=by omega
    simp only[h4,if_false];rw[show i-o-1=i-(o+1) by omega];simp only[show o+(r.length+1)=o+1+r.length by omega]
theorem qP:∀ (vs:List Value) (b o:Nat) (w:World),(w.setCells b o vs).os=w.os/\(w.setCells b o vs).output=w.output/\(w.setCells b o vs).heap.size=w.heap.size/\∀ k,k≠b->(w.setCells b o vs).heap[k]? = w.heap[k]?
 | [],_,_,_=>⟨rfl,rfl,rfl,fun _ _=>rfl⟩
 |v::r,b,o,w=>by
  have h:=qP r b (o+1) (w.setCell ⟨b,o,none⟩ v);refine⟨h.1,h.2.1,h.2.2.1.trans (by simp[World.setCell]),fun k hk=>(h.2.2.2 k hk).trans (qL w _ v k hk)⟩
def splice (cs:List Value) (o:Nat) (vs:List Value):List Value:=cs.take o ++ vs ++ cs.drop (o+vs.length)
variable {w0:World} {X:List Nat} {V:View} {L:List dF} {w:World}
theorem LV {o:Nat} (hb:w.heap[b]? = some (.cells cs.toArray t (0,0))) (hl:o+n<=cs.length):w.there b o n:=fun j hj=>by
 constructor
 ·rw[cell_of_row w b (o+j) _ t (0,0) hb];simp only[List.getElem?_toArray];rw[List.getElem?_eq_getElem (by omega)];rfl
 ·exact frozen_of_row w b (o+j) _ t hb
theorem ak0 (hS:St w0 X V L w) (ho:o.op=.store ty x y) (hj:L[j]? = some (.blk b t cs))
 (hx:ρ x=.pointer (some ⟨b,i,none⟩)) (hy:ρ y=v) (hv:v.oneCell'=true) (hty:uK P ty=true) (hl:i < cs.length) (hL:L.set j (.blk b t (cs.set i v))=L') :
  ∃ w',(execOp ρ o).run P w=.ok .skip w'/\St w0 X V L' w':=by
 have hb:=hS.at hj;refine⟨w.setCell ⟨b,i,none⟩ v,?_,?_⟩
 ·have hc:w.cell? ⟨b,i,none⟩=some (cs[i]'hl):=aX hb (List.getElem?_eq_getElem hl);have hf:=frozen_of_row w b i _ t hb;have hsz:v.cells=#[v]:=by cases v <;> first | rfl | (cases hv)
  have hi:(sizeOf ty).run P w=.ok 1 w:=by
   unfold uK at hty;cases hq:P.info? ty with
   |none=>rw[hq]at hty;split at hty<;>simp_all
   |some q =>
    rw[hq]at hty;have:q.size=1:=by split at hty<;>simp_all
    simp[sizeOf,typeInfo,hq,this]
  unfold execOp;have hadd:(⟨b,i,none⟩:Addr).add 0=⟨b,i,none⟩:=by rw[Addr.add_mid];rfl
  simp only[ho,hx,hy,Instr.storeAt,Instr.sureAddr,Sem.run_bind,Sem.run_pure,Result.andThen_ok,storeVar,hi,hsz];simp[storeCells,hadd,run_store P w _ v _ hv,hc,hf]
 ·refine hS.set (w':=w.setCell ⟨b,i,none⟩ v) hj rfl (f:=.blk b t (cs.set i v)) rfl rfl rfl (by simp[World.setCell]) (fun k hk=>qL w _ v k hk) ?_ hL;show(w.setCell ⟨b,i,none⟩ v).heap[b]? = _;rw[heap_setCell_same w b i _ t v hb];simp
theorem xJ (hS:St w0 X V L w) (ho:o.op=.store ty x y) (hj:L[j]? = some (.blk b t cs))
 (hx:ρ x=.pointer (some ⟨b,i,none⟩)) (hy:ρ y=.agg vs.toArray) (hv:∀ v∈vs,v.oneCell'=true) (hty:rowB P ty n=true) (hn:vs.length=n) (hl:i+n<=cs.length)
 (hL:L.set j (.blk b t (splice cs i vs))=L') :
  ∃ w',(execOp ρ o).run P w=.ok .skip w'/\St w0 X V L' w':=by
 have hb:=hS.at hj;obtain⟨d,hu,hd,hi⟩:=sW hty;subst hn;obtain⟨h1,h2,h3,h4⟩:=qP vs b i w;refine⟨w.setCells b i vs,?_,?_⟩
 ·unfold execOp;simp only[ho,hx,hy,Instr.storeAt,Instr.sureAddr,Sem.run_bind,Sem.run_pure,Result.andThen_ok,run_storeVar_mid w b i ty vs.toArray (LV hb hl) (by simpa using hi) (all_oneCell_toArray hv)]
 ·exact hS.set hj rfl (f:=.blk b t (splice cs i vs)) rfl h1 h2 h3 h4 (xw b t vs i w cs hb hl) hL
theorem Ye (hS:St w0 X V L w) (ho:o.op=.box ty x) (hx:ρ x=v) (hc:v.cells=cs.toArray) :
  (execOp ρ o).run P w=.ok (.value (.pointer (some ⟨w.heap.size,0,none⟩))) (w.alloc (.cells cs.toArray ty))/\St w0 X V (.blk w.heap.size ty cs::L) (w.alloc (.cells cs.toArray ty)):=by
 refine⟨?_,hS.alloc ty cs⟩;unfold execOp;simp only[ho,hx,Instr.box,newVar,newRow,hc];rfl
theorem Aq (hS:St w0 X V L w) (ho:o.op=.alloc ty) (hz:QK P ty=true) (hc:QD P ty=cs) :
  (execOp ρ o).run P w=.ok (.value (.pointer (some ⟨w.heap.size,0,none⟩))) (w.alloc (.cells cs.toArray ty))/\St w0 X V (.blk w.heap.size ty cs::L) (w.alloc (.cells cs.toArray ty)):=by
 refine⟨?_,hS.alloc ty cs⟩;unfold execOp;unfold QK at hz;unfold QD at hc;cases hq:P.info? ty with
 |none=>rw[hq]at hz;cases hz
 | some q =>
  rw[hq]at hz hc;cases hzz:q.zero with
  |none=>simp[hzz]at hz
  |some z =>
   simp[hzz]at hc;subst hc;simp[ho,Instr.alloc,zeroValue,typeInfo,hq,hzz,newVar,newRow]
section
variable {v:Value} {w':World} {t ty:TypeId} {x y:Operand} {b i n:Nat} {cs vs:List Value} {L':List dF}
variable {ops:Array Oper} {rest:List Oper} {o:Oper} {a:Act} {Q:Exit->Act->World->Prop}
theorem xE (hw:Region.wanted o (yielded ops a.tmps)=true) (h:∀ K:Act->World->Prop,(∀ a w,wpList P ops Q rest a w->K a w)->o.wp P a w K Q):wpList P ops Q (o::rest) a w:=by
 unfold wpList;rw[hw];exact .inl (h _ fun _ _ h=>h)
theorem dU (hgd:Region.wanted o (yielded ops a.tmps)=true) (hr:(execOp a.eval o).run P w=.ok (.value v) w') (h:wpList P ops Q rest (a.put o.dst v) w'):wpList P ops Q (o::rest) a w :=
 xE hgd fun _ hK=>by unfold Oper.wp;rw[hr];exact hK _ _ h
theorem ES (hgd:Region.wanted o (yielded ops a.tmps)=true) (hr:(execOp a.eval o).run P w=.ok .skip w') (h:wpList P ops Q rest (a.put o.dst undef) w'):wpList P ops Q (o::rest) a w :=
 xE hgd fun _ hK=>by unfold Oper.wp;rw[hr];exact hK _ _ h
theorem OA (hS:St w0 X V L w) (hgd:Region.wanted o (yielded ops a.tmps)=true) (ho:o.op=.store ty x y) (j:Nat)   
 (hx:a.eval x=.pointer (some ⟨b,i,none⟩)) (hj:L[j]? = some (.blk b t cs)) (hy:a.eval y=v) (hv:v.oneCell'=true) (hty:uK P ty=true) (hl:i<cs.length) (hL:L.set j (.blk b t (cs.set i v))=L')
 (h:∀ w',St w0 X V L' w'->wpList P ops Q rest (a.put o.dst undef) w'):wpList P ops Q (o::rest) a w:=by
 obtain⟨w',hr,hS'⟩:=ak0 hS ho hj hx hy hv hty hl hL;exact ES hgd hr (h w' hS')
theorem FN (hS:St w0 X V L w) (hgd:Region.wanted o (yielded ops a.tmps)=true) (ho:o.op=.store ty x y) (j:Nat)   
 (hx:a.eval x=.pointer (some ⟨b,i,none⟩)) (hj:L[j]? = some (.blk b t cs)) (hy:a.eval y=.agg vs.toArray) (hv:∀ v∈vs,v.oneCell'=true) (hty:rowB P ty n=true) (hn:vs.length=n) (hl:i+n<=cs.length)
 (hL:L.set j (.blk b t (splice cs i vs))=L') (h:∀ w',St w0 X V L' w'->wpList P ops Q rest (a.put o.dst undef) w'):wpList P ops Q (o::rest) a w:=by
 obtain⟨w',hr,hS'⟩:=xJ hS ho hj hx hy hv hty hn hl hL;exact ES hgd hr (h w' hS')
theorem BA (h:cs.length=vs.length):splice cs 0 vs=vs:=by
 unfold splice;simp[<- h]
theorem OU (h:i+vs.length<=cs.length):(splice cs i vs).length=cs.length:=by
 unfold splice;simp;omega
theorem Jd (hS:St w0 X V L w) (hgd:Region.wanted o (yielded ops a.tmps)=true) (ho:o.op=.store ty x y) (j:Nat)   
 (hx:a.eval x=.pointer (some ⟨b,0,none⟩)) (hj:L[j]? = some (.blk b t cs)) (hy:a.eval y=.agg vs.toArray) (hv:∀ v∈vs,v.oneCell'=true) (hty:rowB P ty n=true) (hn:vs.length=n) (hl:cs.length=n)
 (hL:L.set j (.blk b t vs)=L') (h:∀ w',St w0 X V L' w'->wpList P ops Q rest (a.put o.dst undef) w'):wpList P ops Q (o::rest) a w :=
 FN hS hgd ho j hx hj hy hv hty hn (by omega) (by rw[BA (by omega)];exact hL) h
theorem Yd (hS:St w0 X V L w) (hgd:Region.wanted o (yielded ops a.tmps)=true) (ho:o.op=.box ty x) (hx:a.eval x=v) (hc:v.cells=cs.toArray)
  (h:∀ b w',St w0 X V (.blk b ty cs::L) w'->wpList P ops Q rest (a.put o.dst (.pointer (some ⟨b,0,none⟩))) w'):wpList P ops Q (o::rest) a w:=by
 obtain⟨hr,hS'⟩:=Ye (P:=P) hS ho hx hc;exact dU hgd hr (h _ _ hS')
theorem SL (hS:St w0 X V L w) (hgd:Region.wanted o (yielded ops a.tmps)=true) (ho:o.op=.alloc ty) (hz:QK P ty=true) (hc:QD P ty=cs)
  (h:∀ b w',St w0 X V (.blk b ty cs::L) w'->wpList P ops Q rest (a.put o.dst (.pointer (some ⟨b,0,none⟩))) w'):wpList P ops Q (o::rest) a w:=by
 obtain⟨hr,hS'⟩:=Aq (P:=P) (ρ:=a.eval) hS ho hz hc;exact dU hgd hr (h _ _ hS')
theorem Td (hS:St w0 X V L w) (hgd:Region.wanted o (yielded ops a.tmps)=true) (ho:o.op=.load ty x) (j:Nat)   
 (hx:a.eval x=.pointer (some ⟨b,i,none⟩)) (hj:L[j]? = some (.blk b t cs)) (hty:uK P ty=true) (hv:cs[i]? = some v)
 (h:wpList P ops Q rest (a.put o.dst v) w):wpList P ops Q (o::rest) a w :=
 dU hgd (fP ho hx hty (aX (hS.at hj) hv)) h
theorem Ud (hS:St w0 X V L w) (hgd:Region.wanted o (yielded ops a.tmps)=true) (ho:o.op=.load ty x) (j:Nat)   
 (hx:a.eval x=.pointer (some ⟨b,i,none⟩)) (hj:L[j]? = some (.blk b t cs)) (hty:rowB P ty n=true) (hv:(cs.drop i).take n=vs) (hn:vs.length=n)
 (h:wpList P ops Q rest (a.put o.dst (.agg vs.toArray)) w):wpList P ops Q (o::rest) a w :=
 dU hgd (iy ho hx hty hn (lK (hS.at hj) hv)) h
theorem PU (hS:St w0 X V L w) (hgd:Region.wanted o (yielded ops a.tmps)=true) (ho:o.op=.load ty x) 
 (hx:a.eval x=.pointer (some ⟨b,i,none⟩)) (hty:uK P ty=true) (hv:V.Cell b i v)
 (h:wpList P ops Q rest (a.put o.dst v) w):wpList P ops Q (o::rest) a w :=
 dU hgd (fP ho hx hty (hv.cell hS.view)) h
theorem Om (hS:St w0 X V L w) (hgd:Region.wanted o (yielded ops a.tmps)=true) (ho:o.op=.load ty x)  
 (hx:a.eval x=.pointer (some ⟨b,i,none⟩)) (hty:rowB P ty n=true) (hv:V.Range b i vs) (hn:vs.length=n)
 (h:wpList P ops Q rest (a.put o.dst (.agg vs.toArray)) w):wpList P ops Q (o::rest) a w :=
 dU hgd (iy ho hx hty hn (hv.range hS.view)) h
end
section
variable {v:Value} {w':World} {t ty:TypeId} {x y:Operand} {b i n:Nat} {cs vs:List Value} {L':List dF}
variable {ops:Array Oper} {o:Oper} {a:Act} {K:Act->World->Prop} {Q:Exit->Act->World->Prop} {i₀:Nat}
theorem oO (hi:ops[i₀]? = some o) (hgd:Region.wanted o (yielded ops a.tmps)=true) (hr:(execOp a.eval o).run P w=.ok (.value v) w') (h:K (a.put o.dst v) w'):wpOp P ops Q i₀ K a w:=by
 unfold wpOp;simp only[hi];rw[hgd];exact .inl (by unfold Oper.wp;rw[hr];exact h)
theorem Nh (hi:ops[i₀]? = some o) (hgd:Region.wanted o (yielded ops a.tmps)=true) (hr:(execOp a.eval o).run P w=.ok .skip w') (h:K (a.put o.dst undef) w'):wpOp P ops Q i₀ K a w:=by
 unfold wpOp;simp only[hi];rw[hgd];exact .inl (by unfold Oper.wp;rw[hr];exact h)
theorem Rx {f:FuncId} {args:Array Value} {R:World->Prop} (hi:ops[i₀]? = some o) (hgd:Region.wanted o (yielded ops a.tmps)=true) (hr:(execOp a.eval o).run P w=.ok (.enter f args) w)
 (hc:Calls P f args w fun e w'=>e=.returned v/\R w') (h:∀ w',R w'->K (a.put o.dst v) w'):wpOp P ops Q i₀ K a w:=by
 unfold wpOp;simp only[hi];rw[hgd];refine .inl ?_;unfold Oper.wp;rw[hr];exact hc.mono fun e w' ⟨he,hR⟩=>by subst he;exact h w' hR
theorem PS (hS:St w0 X V L w) (hi:ops[i₀]? = some o) (hgd:Region.wanted o (yielded ops a.tmps)=true) (ho:o.op=.store ty x y) (j:Nat)   
 (hx:a.eval x=.pointer (some ⟨b,i,none⟩)) (hj:L[j]? = some (.blk b t cs)) (hy:a.eval y=v) (hv:v.oneCell'=true) (hty:uK P ty=true) (hl:i<cs.length) (hL:L.set j (.blk b t (cs.set i v))=L')
 (h:∀ w',St w0 X V L' w'->K (a.put o.dst undef) w'):wpOp P ops Q i₀ K a w:=by
 obtain⟨w',hr,hS'⟩:=ak0 hS ho hj hx hy hv hty hl hL;exact Nh hi hgd hr (h w' hS')
theorem Di (hS:St w0 X V L w) (hi:ops[i₀]? = some o) (hgd:Region.wanted o (yielded ops a.tmps)=true) (ho:o.op=.store ty x y) (j:Nat)   
 (hx:a.eval x=.pointer (some ⟨b,i,none⟩)) (hj:L[j]? = some (.blk b t cs)) (hy:a.eval y=.agg vs.toArray) (hv:∀ v∈vs,v.oneCell'=true) (hty:rowB P ty n=true) (hn:vs.length=n) (hl:i+n<=cs.length)
 (hL:L.set j (.blk b t (splice cs i vs))=L') (h:∀ w',St w0 X V L' w'->K (a.put o.dst undef) w'):wpOp P ops Q i₀ K a w:=by
 obtain⟨w',hr,hS'⟩:=xJ hS ho hj hx hy hv hty hn hl hL;exact Nh hi hgd hr (h w' hS')
theorem Il (hS:St w0 X V L w) (hi:ops[i₀]? = some o) (hgd:Region.wanted o (yielded ops a.tmps)=true) (ho:o.op=.store ty x y) (j:Nat)   
 (hx:a.eval x=.pointer (some ⟨b,0,none⟩)) (hj:L[j]? = some (.blk b t cs)) (hy:a.eval y=.agg vs.toArray) (hv:∀ v∈vs,v.oneCell'=true) (hty:rowB P ty n=true) (hn:vs.length=n) (hl:cs.length=n)
 (hL:L.set j (.blk b t vs)=L') (h:∀ w',St w0 X V L' w'->K (a.put o.dst undef) w'):wpOp P ops Q i₀ K a w :=
 Di hS hi hgd ho j hx hj hy hv hty hn (by omega) (by rw[BA (by omega)];exact hL) h
theorem TU (ho:o.op=.load ty x) (j:Nat) (hgd:Region.wanted o (yielded ops a.tmps)=true) (hx:a.eval x=.pointer (some ⟨b,i,none⟩)) (hj:L[j]? = some (.blk b t cs))
 (hty:uK P ty=true) (hv:cs[i]? = some v):YieldsIf P ops (St w0 X V L) o v a :=
 .inl ⟨hgd,fun _ hS=>fP ho hx hty (aX (hS.at hj) hv)⟩
theorem RN (ho:o.op=.load ty x) (j:Nat) (hgd:Region.wanted o (yielded ops a.tmps)=true) (hx:a.eval x=.pointer (some ⟨b,i,none⟩)) (hj:L[j]? = some (.blk b t cs))
 (hty:rowB P ty n=true) (hv:(cs.drop i).take n=vs) (hn:vs.length=n):YieldsIf P ops (St w0 X V L) o (.agg vs.toArray) a :=
 .inl ⟨hgd,fun _ hS=>iy ho hx hty hn (lK (hS.at hj) hv)⟩
theorem PE (ho:o.op=.load ty x) (hgd:Region.wanted o (yielded ops a.tmps)=true) (hx:a.eval x=.pointer (some ⟨b,i,none⟩))
 (hty:uK P ty=true) (hv:V.Cell b i v):YieldsIf P ops (St w0 X V L) o v a :=
 .inl ⟨hgd,fun _ hS=>fP ho hx hty (hv.cell hS.view)⟩
theorem acg (ho:o.op=.load ty x) (hgd:Region.wanted o (yielded ops a.tmps)=true) (hx:a.eval x=.pointer (some ⟨b,i,none⟩))
 (hty:rowB P ty n=true) (hv:V.Range b i vs) (hn:vs.length=n):YieldsIf P ops (St w0 X V L) o (.agg vs.toArray) a :=
 .inl ⟨hgd,fun _ hS=>iy ho hx hty hn (hv.range hS.view)⟩
end
section
variable {C:World->Prop} {v:Value} {t ty:TypeId} {x:Operand} {b i:Nat} {cs:List Value}
variable {o:Oper} {a:Act} {K:Act->Prop}
theorem qp (hr:∀ w,C w->(execOp a.eval o).run P w=.ok (.value v) w) (h:K (a.put o.dst v)):o.quiet P a C K :=
 ⟨v,fun w hw=>by unfold Oper.quietAt;rw[hr w hw];exact⟨rfl,rfl⟩,h⟩
theorem Nb {f:FuncId} {args:Array Value} (hr:∀ w,C w->(execOp a.eval o).run P w=.ok (.enter f args) w)
 (hc:∀ w,C w->Calls P f args w fun e w'=>e=.returned v/\C w') (h:K (a.put o.dst v)):o.quiet P a C K :=
 ⟨v,fun w hw=>by unfold Oper.quietAt;rw[hr w hw];exact⟨rfl,hc w hw⟩,h⟩
theorem Nc (ho:o.op=.load ty x) (j:Nat) (hx:a.eval x=.pointer (some ⟨b,i,none⟩)) (hj:L[j]? = some (.blk b t cs))
 (hty:uK P ty=true) (hv:cs[i]? = some v) (h:K (a.put o.dst v)):o.quiet P a (St w0 X V L) K :=
 qp (fun _ hS=>fP ho hx hty (aX (hS.at hj) hv)) h
theorem LY (ho:o.op=.load ty x) (j:Nat) {n:Nat} {vs:List Value} (hx:a.eval x=.pointer (some ⟨b,i,none⟩)) (hj:L[j]? = some (.blk b t cs))
 (hty:rowB P ty n=true) (hv:(cs.drop i).take n=vs) (hn:vs.length=n) (h:K (a.put o.dst (.agg vs.toArray))):o.quiet P a (St w0 X V L) K :=
 qp (fun _ hS=>iy ho hx hty hn (lK (hS.at hj) hv)) h
theorem St.eY (h:St w0 X V L w):St w0 X V L {w with drawn:=w.drawn+1}:=h.drew 1
end
theorem aj {p:Prop} (h:p):Go.RowKit.Hid p:=h
theorem L9 {P:Program} {w0:World} {X:List Nat} {V:View} {L:List dF} {f:FuncId} {args:Array Value} {w:World} {v:Value} (hS:St w0 X V L w)
  (h:Calls P f args w fun e w'=>e=.returned v/\Kp w w'):Calls P f args w fun e w'=>e=.returned v/\St w0 X V L w' :=
 h.mono fun _ _ ⟨he,hk⟩=>⟨he,hS.kp hk⟩
theorem rH {P:Program} {w0:World} {X:List Nat} {V:View} {L:List dF} {f:FuncId} {args:Array Value} {w:World} {v:Value} {R:Ending->World->Prop} (hS:St w0 X V L w)
  (hc:Calls P f args w fun e w'=>e=.returned v/\Kp w w') (h:∀ w',St w0 X V L w'->R (.returned v) w'):Calls P f args w R :=
 hc.mono fun _ _ ⟨he,hk⟩=>by subst he;exact h _ (hS.kp hk)
def iI (tmps:Array Value):ResultVar->Sem Value
 |.tmp t=>pure (tmps.getD t undef)
 |.cell a t=>do loadVar t (<- asAddr (tmps.getD a undef))
theorem mO (fn:Func) (tmps:Array Value):results fn tmps=(do
  let vs <- fn.results.mapM (iI tmps)
  pure (if h:vs.size=1 then vs[0] else .tuple vs)):=by
 unfold results;have:(fun x:ResultVar=>(match x with | .tmp t=>pure (tmps.getD t undef) | .cell a t=>do loadVar t (<- asAddr (tmps.getD a undef)):Sem Value))=iI tmps:=by
  funext x;cases x<;>rfl
 rw[<- this];rfl
theorem bH {fn:Func} {tmps:Array Value} {r1:ResultVar} (h:fn.results=#[r1]) {v1:Value} (h1:(iI tmps r1).run P w=.ok v1 w):(results fn tmps).run P w=.ok v1 w:=by
 rw[mO,h];simp[h1]
theorem dA {fn:Func} {tmps:Array Value} {r1 r2:ResultVar} (h:fn.results=#[r1,r2]) {v1 v2:Value} (h1:(iI tmps r1).run P w=.ok v1 w) (h2:(iI tmps r2).run P w=.ok v2 w) :
  (results fn tmps).run P w=.ok (.tuple #[v1,v2]) w:=by
 rw[mO,h];simp[h1,h2]
theorem results3 {fn:Func} {tmps:Array Value} {r1 r2 r3:ResultVar} (h:fn.results=#[r1,r2,r3]) {v1 v2 v3:Value} (h1:(iI tmps r1).run P w=.ok v1 w) (h2:(iI tmps r2).run P w=.ok v2 w) (h3:(iI tmps r3).run P w=.ok v3 w) :
  (results fn tmps).run P w=.ok (.tuple #[v1,v2,v3]) w:=by
 rw[mO,h];simp[h1,h2,h3]
theorem FB {fn:Func} {tmps:Array Value} (h:fn.results=#[]):(results fn tmps).run P w=.ok (.tuple #[]) w:=by
 rw[mO,h];simp
theorem yS {tmps:Array Value} {t:Tmp} {v:Value} (h:tmps.getD t undef=v):(iI tmps (.tmp t)).run P w=.ok v w:=by subst h;rfl
theorem AO (hS:St w0 X V L w) {tmps:Array Value} {t:Tmp} {ty:TypeId} (j:Nat) {b i:Nat} {t':TypeId} {cs:List Value} {v:Value} (hx:tmps.getD t undef=.pointer (some ⟨b,i,none⟩)) (hj:L[j]? = some (.blk b t' cs))
  (hty:uK P ty=true) (hv:cs[i]? = some v):(iI tmps (.cell t ty)).run P w=.ok v w:=by
 have hc:=aX (hS.at hj) hv;have hx':tmps[t]?.getD undef=.pointer (some ⟨b,i,none⟩):=by simpa using hx
 simp[iI,hx',asAddr,loadVar,Sem.run_bind,qR hty,hc]
theorem Aa (hS:St w0 X V L w) {tmps:Array Value} {t:Tmp} {ty:TypeId} (j:Nat) {b i n:Nat} {t':TypeId} {cs vs:List Value} (hx:tmps.getD t undef=.pointer (some ⟨b,i,none⟩)) (hj:L[j]? = some (.blk b t' cs))
  (hty:rowB P ty n=true) (hv:(cs.drop i).take n=vs) (hn:vs.length=n):(iI tmps (.cell t ty)).run P w=.ok (.agg vs.toArray) w:=by
 obtain⟨d,hu,hd,hi⟩:=sW hty;have hx':tmps[t]?.getD undef=.pointer (some ⟨b,i,none⟩):=by simpa using hx
 simp[iI,hx',asAddr,Sem.run_bind,run_loadVar_mid w b i ty vs d (lK (hS.at hj) hv) hu hd (by rw[hi,hn])]
theorem aB {fn:Func} {R:Ending->World->Prop} {a:Act} (h:bodyPost P fn R .ret a w):bodyPost P fn R .normal a w:=h
def VP (P:Program) (t e:TypeId):Bool:=(match P.underlying t with|some (.slice e')=>e' == e|_=>false) && uK P e && ((P.info? e).bind (·.zero)).isSome
def tagged (n:Nat):List Value->List (Nat × Value)
 | []=>[]
 |v::vs=>(n,v)::tagged (n+1) vs
theorem AQ:∀ (vs pre:List Value) (cells:List Value),cells.length=pre.length+vs.length->cells.take pre.length=pre->(∀ v∈vs,v.oneCell'=true) ->
  Instr.fill (fun i=>some (i * 1,1)) cells.toArray (tagged pre.length vs)=some (pre ++ vs).toArray
 | [],pre,cells,h1,h2,_=>by
  simp only[tagged,Instr.fill,List.append_nil];rw[<- h2,List.take_of_length_le (by simp at h1;omega)]
 | v::vs,pre,cells,h1,h2,h3=>by
  have hv:v.cells=#[v]:=by
   have:=h3 v (by simp);cases v<;>first|rfl|(cases this)
  simp only[List.length_cons]at h1;simp only[tagged,Instr.fill,hv];have hc:(pre.length * 1 + #[v].size > cells.toArray.size)=False:=by simp;omega
  simp only[List.size_toArray,List.length_cons,List.length_nil,Nat.zero_add,ne_eq,not_true_eq_false,decide_false,Bool.false_or,decide_eq_true_eq,Nat.mul_one];rw[if_neg (by simp;omega)];have:=AQ vs (pre ++ [v]) (cells.set pre.length v) (by simp;omega) (by
   rw[List.length_append,List.length_cons,List.length_nil,List.take_set,List.take_succ_eq_append_getElem (by omega),h2];simp) (fun x hx=>h3 x (by simp[hx]))
  simp only[List.length_append,List.length_cons,List.length_nil,Nat.zero_add,List.append_assoc,List.cons_append,List.nil_append,Nat.mul_one]at this;rw[<- this];congr 1;simp
theorem DV {o:Oper} {ρ:Operand->Value} {t e:TypeId} {len:Nat} {parts:Array (Nat × Operand)} (ho:o.op=.buildSlice t len parts) {vs:List Value}
  (hp:(parts.toList.map fun p=>(p.1,ρ p.2))=tagged 0 vs) (hn:vs.length=len) (hl:len<=100) (h1:∀ v∈vs,v.oneCell'=true) (ht:VP P t e=true) (w:World) :
  (execOp ρ o).run P w=.ok (.value (.slice (some ⟨w.heap.size,0,none⟩) len len)) (w.alloc (.cells vs.toArray e)):=by
 unfold VP at ht;simp only[Bool.and_eq_true]at ht;obtain⟨⟨ht1,ht2⟩,ht3⟩:=ht;have hu:P.underlying t=some (.slice e):=by
  cases hd:P.underlying t with
  |none=>rw[hd]at ht1;cases ht1
  |some d=>rw[hd]at ht1;cases d<;>simp_all
 unfold uK at ht2;cases hq:P.info? e with
 |none=>rw[hq]at ht3;cases ht3
 | some q =>
  rw[hq]at ht3 ht2;have hs:q.size=1:=by
   cases hu2:P.underlying e with
   |none=>rw[hu2]at ht2;cases ht2
   |some d=>rw[hu2]at ht2;cases d<;>simp_all
  cases hz:q.zero with
  |none=>simp[hz]at ht3
  | some z =>
   have hf:Instr.fill (fun i=>some (i * 1,1)) (((List.range len).map fun j=>(z.cells[j % z.cells.size]!)).toArray) (tagged 0 vs)=some vs.toArray:=by
    have:=AQ vs [] ((List.range len).map fun j=>(z.cells[j % z.cells.size]!)) (by simp[hn]) (by simp) h1;simpa using this
   have hf':Instr.fill (fun i=>some (i,1)) (Array.map (fun x=>z.cells[x % z.cells.size]!) (Array.range len)) (tagged 0 vs)=some vs.toArray:=by
    have e1:(Array.map (fun x=>z.cells[x % z.cells.size]!) (Array.range len))=((List.range len).map fun j=>(z.cells[j % z.cells.size]!)).toArray:=by
     apply Array.ext';simp[Array.toList_range]
    rw[e1,<- hf];simp
   have hp':List.map (fun x=>(x.fst,ρ x.snd)) parts.toList=tagged 0 vs:=hp;unfold execOp;have hlim:¬ (16777216:Nat)<len:=by omega
   by_cases hl0:len=0
   ·subst hl0;have:vs=[]:=List.length_eq_zero_iff.1 hn;subst this;simp [ho,Instr.buildSlice,underlying,hu,sizeOf,typeInfo,hq,hs,hp',tagged,Instr.fill,newRow];have e0:(Array.map (fun _:Nat=>(default:Value)) (Array.range 0))=#[]:=by apply Array.ext';simp
    rw[e0]
   ·simp[ho,Instr.buildSlice,underlying,hu,sizeOf,typeInfo,hq,hs,zeroValue,hz,hlim,hl0,hp',hf',newRow]
section
variable {e t:TypeId} {len:Nat} {parts:Array (Nat × Operand)} {vs:List Value}
variable {ops:Array Oper} {rest:List Oper} {o:Oper} {a:Act} {Q:Exit->Act->World->Prop}
theorem O7 (hS:St w0 X V L w) (hgd:Region.wanted o (yielded ops a.tmps)=true) (ho:o.op=.buildSlice t len parts) 
 (hp:(parts.toList.map fun p=>(p.1,a.eval p.2))=tagged 0 vs) (hn:vs.length=len) (hl:len<=100) (h1:∀ v∈vs,v.oneCell'=true) (ht:VP P t e=true)
  (h:∀ b w',St w0 X V (.blk b e vs::L) w'->wpList P ops Q rest (a.put o.dst (.slice (some ⟨b,0,none⟩) len len)) w'):wpList P ops Q (o::rest) a w :=
 dU hgd (DV ho hp hn hl h1 ht w) (h _ _ (hS.alloc e vs))
theorem DU {K:Act->World->Prop} {i₀:Nat} (hS:St w0 X V L w) (hi:ops[i₀]? = some o) (hgd:Region.wanted o (yielded ops a.tmps)=true) (ho:o.op=.buildSlice t len parts) 
 (hp:(parts.toList.map fun p=>(p.1,a.eval p.2))=tagged 0 vs) (hn:vs.length=len) (hl:len<=100) (h1:∀ v∈vs,v.oneCell'=true) (ht:VP P t e=true)
  (h:∀ b w',St w0 X V (.blk b e vs::L) w'->K (a.put o.dst (.slice (some ⟨b,0,none⟩) len len)) w'):wpOp P ops Q i₀ K a w :=
 oO hi hgd (DV ho hp hn hl h1 ht w) (h _ _ (hS.alloc e vs))
end
end Go.Mm
