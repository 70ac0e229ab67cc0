/- A part of the proof: T8, T9, T10, T11, T12. -/
import Derived.Test.YtjjmefieegcddaaDoorM01
set_option linter.unusedVariables false
set_option linter.unusedSimpArgs false
set_option maxHeartbeats 8000000
namespace Go.Sr
open Go
open Go.Tm
class bT where
 ok:FuncId->Bool
abbrev BR:=Nat->Nat->Prop
def flat:Value->Bool
 |.bool _ | .int .. | .float .. | .complex .. | .string _ | .pointer none | .slice none .. | .map none | .chan none | .nilFunc | .nilIface=>true
 |.tuple vs=>vs.isEmpty
 |_=>false
def AR (R:BR) (a a':Addr):Prop:=R a.block a'.block/\a'.off=a.off/\a'.spot=a.spot
inductive Xe (R:BR):Value->Value->Prop
 |flat {v:Value}:Sr.flat v=true->Xe R v v
 |ptr {a a':Addr}:AR R a a'->Xe R (.pointer (some a)) (.pointer (some a'))
 |slice {a a':Addr} {l c:Nat}:AR R a a'->Xe R (.slice (some a) l c) (.slice (some a') l c)
 |chan {r r':Nat}:R r r'->Xe R (.chan (some r)) (.chan (some r'))
def AF (r:Value->Value->Prop) (c c':Array Value):Prop:=c'.size=c.size/\∀ (i:Nat) (v:Value),c[i]? = some v->∃ v':Value,c'[i]? = some v'/\r v v'
mutual
inductive qV [bT] (R:BR):Value->Value->Prop
 |base {v v':Value}:Xe R v v'->qV R v v'
 | func {f:FuncId} {a a' c c':Array Value}:bT.ok f=true->a'.size=a.size->(∀ (i:Nat) (v v':Value),a[i]? = some v->a'[i]? = some v'->VR R v v') ->
   c'.size=c.size->(∀ (i:Nat) (v v':Value),c[i]? = some v->c'[i]? = some v'->VR R v v')->qV R (.func (.func f) a c) (.func (.func f) a' c')
inductive VR [bT] (R:BR):Value->Value->Prop
 |base {v v':Value}:qV R v v'->VR R v v'
 |agg {c c':Array Value}:c'.size=c.size->(∀ (i:Nat) (v v':Value),c[i]? = some v->c'[i]? = some v'->qV R v v')->VR R (.agg c) (.agg c')
end
theorem AF.Pz {r:Value->Value->Prop} {c c':Array Value} (h:c'.size=c.size) (h':∀ (i:Nat) (v v':Value),c[i]? = some v->c'[i]? = some v'->r v v'):AF r c c' :=
 ⟨h,fun i v hv=>by
  have hi:=(Array.getElem?_eq_some_iff.1 hv).1;have hi':i<c'.size:=by rw[h];exact hi
  exact⟨c'[i],Array.getElem?_eq_getElem hi',h' i v _ hv (Array.getElem?_eq_getElem hi')⟩⟩
theorem AF.raw {r:Value->Value->Prop} {c c':Array Value} (h:AF r c c') (i:Nat) (v v':Value) (h1:c[i]? = some v) (h2:c'[i]? = some v'):r v v':=by
 obtain⟨x,h3,h4⟩:=h.2 i v h1;rw[h2]at h3;cases h3;exact h4
theorem qV.Ol [bT] {R:BR} {f:FuncId} (hf:bT.ok f=true) {a a' c c':Array Value} (h:AF (VR R) a a') (h':AF (VR R) c c'):qV R (.func (.func f) a c) (.func (.func f) a' c'):=.func hf h.1 h.raw h'.1 h'.raw
theorem VR.Kr [bT] {R:BR} {c c':Array Value} (h:AF (qV R) c c'):VR R (.agg c) (.agg c'):=.agg h.1 h.raw
def le (R R':BR):Prop:=∀ b b',R b b'->R' b b'
theorem le_refl (R:BR):le R R:=fun _ _ h=>h
theorem le_trans {R R' R'':BR} (h:le R R') (h':le R' R''):le R R'':=fun _ _ x=>h' _ _ (h _ _ x)
section mono
variable {R R':BR}
theorem AR.mono (h:le R R') {a a':Addr} (x:AR R a a'):AR R' a a':=⟨h _ _ x.1,x.2⟩
theorem Xe.mono [bT] (h:le R R') {v v':Value} (x:Xe R v v'):Xe R' v v':=by
 cases x with
 |flat h'=>exact .flat h'
 |ptr h'=>exact .ptr (h'.mono h)
 |slice h'=>exact .slice (h'.mono h)
 |chan h'=>exact .chan (h _ _ h')
theorem AF.mono {r r':Value->Value->Prop} (h:∀ v v',r v v'->r' v v') {c c':Array Value} (x:AF r c c'):AF r' c c':=⟨x.1,fun i v hv=>let⟨v',h1,h2⟩:=x.2 i v hv;⟨v',h1,h _ _ h2⟩⟩
mutual
theorem qV.mono [bT] (h:le R R') {v v':Value}:qV R v v'->qV R' v v'
 |.base x=>.base (x.mono h)
 |.func h0 h1 h2 h3 h4=>.func h0 h1 (fun i v v' a b=>VR.mono h (h2 i v v' a b)) h3 (fun i v v' a b=>VR.mono h (h4 i v v' a b))
theorem VR.mono [bT] (h:le R R') {v v':Value}:VR R v v'->VR R' v v'
 |.base x=>.base (qV.mono h x)
 |.agg h1 h2=>.agg h1 (fun i v v' a b=>qV.mono h (h2 i v v' a b))
end
end mono
theorem VR.of_flat [bT] {R:BR} {v:Value} (h:flat v=true):VR R v v:=.base (.base (.flat h))
theorem VR.int [bT] {R:BR} {k:IntKind} {n:Int}:VR R (.int k n) (.int k n):=.of_flat rfl
theorem VR.bool [bT] {R:BR} {b:Bool}:VR R (.bool b) (.bool b):=.of_flat rfl
section arrays
variable {c c':Array Value} {v v':Value}
variable {r:Value->Value->Prop}
theorem AF.empty:AF r #[] #[]:=⟨rfl,fun i v h=>by simp at h⟩
theorem AF.push (h:AF r c c') (hv:r v v'):AF r (c.push v) (c'.push v'):=by
 refine⟨by simp[h.1],fun i x hx=>?_⟩;rw[Array.getElem?_push]at hx |-;split at hx
 ·cases hx;rename_i hi;exact⟨v',by simp[h.1,hi],hv⟩
 ·obtain⟨x',h1,h2⟩:=h.2 i x hx;rename_i hi;refine⟨x',?_,h2⟩;rw[if_neg (by rw[h.1];exact hi)];exact h1
theorem AF.set (h:AF r c c') {i:Nat} (hv:r v v'):AF r (c.setIfInBounds i v) (c'.setIfInBounds i v'):=by
 refine⟨by simp[h.1],fun j x hx=>?_⟩;rw[Array.getElem?_setIfInBounds]at hx |-;split at hx
 ·split at hx
  ·cases hx;rename_i h1 h2;exact⟨v',by rw[if_pos h1,if_pos (by rw[h.1];exact h2)],hv⟩
  ·cases hx
 ·rename_i hne;obtain⟨x',h1,h2⟩:=h.2 j x hx;exact⟨x',by simp[hne,h1],h2⟩
theorem AF.append {a a':Array Value} (h:AF r a a') (h':AF r c c'):AF r (a ++ c) (a' ++ c'):=by
 refine⟨by simp[h.1,h'.1],fun i x hx=>?_⟩;rw[Array.getElem?_append]at hx |-;rw[h.1];split at hx
 ·rename_i hi;simp only[hi,if_true];exact h.2 i x hx
 ·rename_i hi;simp only[hi,if_false];exact h'.2 _ x hx
theorem AF.get (h:AF r c c') {d:Value} (hd:r d d) (i:Nat):r (c.getD i d) (c'.getD i d):=by
 rw[Array.getD_eq_getD_getElem?,Array.getD_eq_getD_getElem?];cases hc:c[i]? with
 | none =>
  have:c'[i]? = none:=by
   rw[Array.getElem?_eq_none_iff]at hc |-;rw[h.1];exact hc
  rw[this];exact hd
 |some v =>
  obtain⟨v',h1,h2⟩:=h.2 i v hc;rw[h1];exact h2
theorem AF.get? {c c':Array Value} (h:AF r c c') (i:Nat):(c[i]? = none/\c'[i]? = none)\/∃ v v',c[i]? = some v/\c'[i]? = some v'/\r v v':=by
 cases hc:c[i]? with
 |none =>
  left;refine⟨rfl,?_⟩;rw[Array.getElem?_eq_none_iff]at hc |-;rw[h.1];exact hc
 |some v =>
  obtain⟨v',h1,h2⟩:=h.2 i v hc;exact .inr ⟨v,v',rfl,h1,h2⟩
theorem AF.replicate {n:Nat} (hv:r v v):AF r (Array.replicate n v) (Array.replicate n v):=⟨rfl,fun i x hx=>⟨x,hx,by
 rw[Array.getElem?_replicate]at hx;split at hx
 ·cases hx;exact hv
 ·cases hx⟩⟩
theorem AF.map {α:Type} {f f':α->Value} (l:Array α) (h:∀ x∈l,r (f x) (f' x)):AF r (l.map f) (l.map f'):=by
 refine⟨by simp,fun i x hx=>?_⟩;rw[Array.getElem?_map]at hx |-;obtain⟨y,hy,rfl⟩:=Option.map_eq_some_iff.1 hx;refine⟨f' y,by rw[hy];rfl,h y ?_⟩;obtain⟨hi,rfl⟩:=Array.getElem?_eq_some_iff.1 hy;exact Array.getElem_mem hi
theorem AF.self (h:∀ v∈c,r v v):AF r c c:=⟨rfl,fun i v hv=>⟨v,hv,h v (by
 obtain⟨hi,rfl⟩:=Array.getElem?_eq_some_iff.1 hv;exact Array.getElem_mem hi)⟩⟩
theorem AF.extract (h:AF r c c') (i j:Nat):AF r (c.extract i j) (c'.extract i j):=by
 refine⟨by simp[h.1],fun k x hx=>?_⟩;rw[Array.getElem?_extract]at hx |-;rw[h.1];split at hx
 ·rename_i hk;simp only[hk,if_true];exact h.2 _ x hx
 ·cases hx
end arrays
theorem VR.cells [bT] {R:BR} {v v':Value} (h:VR R v v'):AF (qV R) v.cells v'.cells:=by
 cases h with
 |agg h h'=>exact AF.Pz h h'
 | base h =>
  have hv:∀ {v v':Value},qV R v v'->v.cells=#[v]/\v'.cells=#[v']:=by
   intro v v' h;cases h with
   |func _ _=>exact⟨rfl,rfl⟩
   |base h =>
    cases h with
    |flat hf=>cases v<;>first|exact⟨rfl,rfl⟩|cases hf
    |_=>exact⟨rfl,rfl⟩
  rw[(hv h).1,(hv h).2];refine⟨rfl,fun i x hx=>?_⟩;rcases i with _|i
  ·cases hx;exact⟨_,rfl,h⟩
  ·simp at hx
def DY:Obj->Bool
 |.chan .. => true
 |_=>false
def OR [bT] (R:BR) (D:Prop) (o o':Obj):Prop :=
 (∃ c c' e f f',o=.cells c e f/\o'=.cells c' e f'/\AF (qV R) c c'/\(D->f=(0,c.size))/\(¬ D->f=(0,0)/\f'=(0,0))) \/
 (∃ a a' l,o=.number a l/\o'=.number a' l/\AR R a a'/\¬ D)\/(D/\DY o=true/\DY o'=true)
structure WR [bT] (G:Nat) (R:BR) (D:Nat->Prop) (wl wa:World):Prop where
 obj:∀ b b',R b b'->∃ o o',wl.heap[b]? = some o/\wa.heap[b']? = some o'/\OR R (D b) o o'
 fn:∀ b b1 b2,R b b1->R b b2->b1=b2
 inj:∀ b1 b2 b,R b1 b->R b2 b->b1=b2
 old:∀ b b',R b b'->D b->b'=b
 new:∀ b b',R b b'->G<=b/\G<=b'
 tape:wa.tape=wl.tape
 drawn:wa.drawn=wl.drawn
 dom:∀ b,D b->b<wl.heap.size
 gl:G<=wl.heap.size
 ga:G<=wa.heap.size
def mZ (R:BR) (D:Nat->Prop) (e:Event):Prop :=
 match e.loc with
 |.cell a=>e.sync=false/\∃ b,R b a.block/\(e.write=true->¬ D b)
 |.obj r=>e.write=false/\∃ b,R b r
 |.mark m=>m=.noRoom
 |_=>False
theorem mZ.mono {R R':BR} {D:Nat->Prop} (h:le R R') {e:Event} (x:mZ R D e):mZ R' D e:=by
 unfold mZ at x |-;split at x
 ·exact⟨x.1,let⟨b,h1,h2⟩:=x.2;⟨b,h _ _ h1,h2⟩⟩
 ·exact⟨x.1,let⟨b,h1⟩:=x.2;⟨b,h _ _ h1⟩⟩
 ·exact x
 ·exact x
structure FX (R:BR) (D:Nat->Prop) (w w':World):Prop where
 size:w.heap.size<=w'.heap.size
 keep:∀ b',b'<w.heap.size->(∀ b,R b b'->D b)->w'.heap[b']? = w.heap[b']?
 os:w'.os=w.os
 output:w'.output=w.output
 tape:w'.tape=w.tape
 okh:∀ C:Code->Prop,ay C w->ay C w'
theorem FX.refl (R:BR) (D:Nat->Prop) (w:World):FX R D w w:=⟨Nat.le_refl _,fun _ _ _=>rfl,rfl,rfl,rfl,fun _ h=>h⟩
structure Grow (R R':BR) (D:Nat->Prop) (wl wa:World):Prop where
 le:le R R'
 fresh:∀ b b',R' b b'->R b b'\/(wl.heap.size<=b/\wa.heap.size<=b'/\¬ D b)
theorem FX.trans {R R':BR} {D:Nat->Prop} {w w' w'' wl:World} (h:FX R D w w') (hg:Grow R R' D wl w) (h':FX R' D w' w''):FX R D w w'':=by
 refine⟨Nat.le_trans h.size h'.size,fun b' hb hD=>?_,h'.os.trans h.os,h'.output.trans h.output,h'.tape.trans h.tape,fun C x=>h'.okh C (h.okh C x)⟩;rw[h'.keep b' (by have:=h.size;omega) (fun b hR=>?_),h.keep b' hb hD];rcases hg.fresh b b' hR with h1|⟨_,h2,_⟩
 ·exact hD b h1
 ·omega
def ah [bT] (P:Program) (D:Nat->Prop) {α β:Type} (Φ:BR->α->β->Prop) (R:BR) (s:Sem α) (s':Sem β):Prop :=
 ∀ wl wa es,WR P.globals.size R D wl wa->∀ a wl',s.run P wl=.ok a wl'->∃ a' wa' es' R',s'.runT P wa es=(.ok a' wa',es')/\(∀ e∈es',e∈es\/mZ R' D e)/\WR P.globals.size R' D wl' wa' /\
  Grow R R' D wl wa/\FX R D wa wa'/\wl.heap.size<=wl'.heap.size/\Φ R' a a'
section
variable {a a':Addr} {v v':Value}
variable {P:Program} {D:Nat->Prop} {α β γ δ:Type} {Φ:BR->α->β->Prop} {Ψ:BR->γ->δ->Prop} {R:BR}
theorem ah.pure [bT] {a:α} {b:β} (h:Φ R a b):ah P D Φ R (Pure.pure a:Sem α) (Pure.pure b:Sem β):=by
 intro wl wa es hw x wl' hr;cases hr;exact⟨b,wa,es,R,rfl,fun e he=>.inl he,hw,⟨le_refl R,fun _ _ h=>.inl h⟩,.refl R D wa,Nat.le_refl _,h⟩
theorem ah.halt [bT] {h:Halt} {s':Sem β}:ah P D Φ R (.halt h:Sem α) s':=fun wl wa es _ a wl' hr=>by cases hr
theorem ah.bind [bT] {s:Sem α} {s':Sem β} {f:α->Sem γ} {f':β->Sem δ} (h:ah P D Φ R s s') (hf:∀ R',le R R'->∀ a b,Φ R' a b->ah P D Ψ R' (f a) (f' b)):ah P D Ψ R (s >>= f) (s' >>= f'):=by
 intro wl wa es hw x wl' hr;rw[Sem.run_bind]at hr;cases hs:s.run P wl with
 |halt hh w1=>rw[hs]at hr;cases hr
 | ok a w1 =>
  rw[hs]at hr;obtain⟨a',wa1,es1,R1,h1,h2,h3,h4,h5,h6,h7⟩:=h wl wa es hw a w1 hs;obtain⟨b',wa2,es2,R2,k1,k2,k3,k4,k5,k6,k7⟩:=hf R1 h4.le a a' h7 w1 wa1 es1 h3 x wl' hr;refine⟨b',wa2,es2,R2,?_,fun e he=>?_,k3,⟨le_trans h4.le k4.le,fun b b' hb=>?_⟩,h5.trans h4 k5,Nat.le_trans h6 k6,k7⟩
  ·show Sem.runT P (Sem.bind s' f') wa es=_;rw[Sem.runT_bind',h1];exact k1
  ·rcases k2 e he with h | h
   ·rcases h2 e h with h | h
    ·exact .inl h
    ·exact .inr (h.mono k4.le)
   ·exact .inr h
  ·rcases k4.fresh b b' hb with h | ⟨h8,h9,h10⟩
   ·exact h4.fresh b b' h
   ·exact .inr ⟨Nat.le_trans h6 h8,Nat.le_trans h5.size h9,h10⟩
theorem ah.mono [bT] {Φ':BR->α->β->Prop} {s:Sem α} {s':Sem β} (h:ah P D Φ R s s') (hq:∀ R' a b,Φ R' a b->Φ' R' a b):ah P D Φ' R s s':=by
 intro wl wa es hw x wl' hr;obtain⟨a',wa1,es1,R1,h1,h2,h3,h4,h5,h6,h7⟩:=h wl wa es hw x wl' hr;exact⟨a',wa1,es1,R1,h1,h2,h3,h4,h5,h6,hq _ _ _ h7⟩
theorem ah.program [bT]:ah P D (fun _ p q=>p=P/\q=P) R Go.program Go.program:=by
 intro wl wa es hw x wl' hr;cases hr;exact⟨P,wa,es,R,rfl,fun e he=>.inl he,hw,⟨le_refl R,fun _ _ h=>.inl h⟩,.refl R D wa,Nat.le_refl _,rfl,rfl⟩
theorem ah.choose [bT] {q:Question}:ah P D (fun _ a b=>a=b) R (Go.choose q) (Go.choose q):=by
 intro wl wa es hw x wl' hr;unfold Go.choose at hr |-;simp only[Sem.run,Sem.runT]at hr |-;split at hr
 ·rename_i hf;cases hr;exact⟨0,wa,es,R,by rw[if_pos hf],fun e he=>.inl he,hw,⟨le_refl R,fun _ _ h=>.inl h⟩,.refl R D wa,Nat.le_refl _,rfl⟩
 ·rename_i hf;cases hr;refine⟨q.cut (wa.tape wa.drawn q),{wa with drawn:=wa.drawn+1},es,R,by rw[if_neg hf],fun e he=>.inl he,⟨hw.obj,hw.fn,hw.inj,hw.old,hw.new,hw.tape,by show wa.drawn+1=wl.drawn+1;rw[hw.drawn],hw.dom,hw.gl,hw.ga⟩,⟨le_refl R,fun _ _ h=>.inl h⟩,⟨Nat.le_refl _,fun _ _ _=>rfl,rfl,rfl,rfl,fun _ h=>h⟩,Nat.le_refl _,?_⟩;rw[hw.tape,hw.drawn]
theorem ah.noRoom [bT]:ah P D (fun _ _ _=>True) R (mark .noRoom) (mark .noRoom):=by
 intro wl wa es hw x wl' hr;cases hr;refine⟨(),wa,_,R,rfl,fun e he=>?_,hw,⟨le_refl R,fun _ _ h=>.inl h⟩,.refl R D wa,Nat.le_refl _,trivial⟩;rcases Array.mem_push.1 he with h|rfl
 ·exact .inl h
 ·exact .inr rfl
theorem ah.shape [bT] {r r':Nat} (h:R r r'):ah P D (fun _ a b=>a=b) R (Go.shape r) (Go.shape r'):=by
 intro wl wa es hw x wl' hr;cases hr;refine⟨_,wa,es,R,rfl,fun e he=>.inl he,hw,⟨le_refl R,fun _ _ h=>.inl h⟩,.refl R D wa,Nat.le_refl _,?_⟩;obtain⟨o,o',h1,h2,h3⟩:=hw.obj _ _ h;unfold World.shape?;rw[h1,h2];rcases h3 with⟨c,c',e,f,f',rfl,rfl,h4,_⟩|⟨a,a',l,rfl,rfl,_⟩|⟨_,hc,hc'⟩
 ·show some (e,c.size)=some (e,c'.size);rw[h4.1]
 ·rfl
 ·cases o<;>cases o'<;>first|rfl|(cases hc;done)|(cases hc';done)
theorem ah.load [bT] (h:AR R a a'):ah P D (fun R'=>qV R') R (Go.load a) (Go.load a'):=by
 intro wl wa es hw x wl' hr;obtain⟨o,o',h1,h2,h3⟩:=hw.obj _ _ h.1;unfold Go.load at hr |-;simp only[Sem.run]at hr;rcases h3 with⟨c,c',e,f,f',rfl,rfl,h4,_⟩|⟨_,_,l,rfl,rfl,_⟩|⟨_,hch,_⟩
 ·have hc:wl.cell? a=if a.spot.isSome then none else c[a.off]?:=by simp [World.cell?,h1]
  have hc':wa.cell? a'=if a.spot.isSome then none else c'[a.off]?:=by simp[World.cell?,h2,h.2.1,h.2.2]
  cases hs:a.spot.isSome with
  |true =>
   rw[hs]at hc;simp only[if_true]at hc;rw[hc]at hr;simp[World.farLoad,h1]at hr
  | false =>
   rw[hs]at hc hc';simp only[Bool.false_eq_true,if_false]at hc hc';rcases h4.get? a.off with⟨h5,h6⟩|⟨v,v',h5,h6,h7⟩
   ·rw[hc,h5]at hr;simp[World.farLoad,h1]at hr
   ·rw [hc,h5] at hr;cases hr;refine ⟨v',wa,es.push ⟨.cell a',false,false⟩,R,by simp only [Sem.runT,hc',h6];rfl,fun e he=>?_,hw,⟨le_refl R,fun _ _ h=>.inl h⟩,.refl R D wa,Nat.le_refl _,h7⟩;rcases Array.mem_push.1 he with h' | rfl
    ·exact .inl h'
    ·exact .inr ⟨rfl,a.block,h.1,fun h=>by cases h⟩
 ·have hc:wl.cell? a=none:=by simp [World.cell?,h1]
  rw[hc]at hr;simp[World.farLoad,h1]at hr
 ·have hc:wl.cell? a=none:=by cases o <;> first | (cases hch;done) | simp [World.cell?,h1]
  rw[hc]at hr;cases o<;>first|(cases hch;done)|simp[World.farLoad,h1]at hr
theorem TR [bT] {R:BR} (h:qV R v v'):(∀ c,v'≠.agg c)/\((∃ t,v'=.tuple t)->∃ t,v=.tuple t):=by
 cases h with
 |func _ _=>exact⟨by simp,by simp⟩
 |base h =>
  cases h with
  |flat hf=>exact⟨fun c hc=>by subst hc;simp[flat]at hf,fun h=>h⟩
  |_=>exact⟨by simp,by simp⟩
theorem ah.store [bT] (h:AR R a a') (hv:qV R v v'):ah P D (fun _ _ _=>True) R (Go.store a v) (Go.store a' v'):=by
 intro wl wa es hw x wl' hr;obtain⟨o,o',h1,h2,h3⟩:=hw.obj _ _ h.1;obtain⟨hna,hnt⟩:=TR hv;have hrun:∀ (v:Value) (a:Addr) (w:World),(∀ c,v≠.agg c)->(∀ t,v≠.tuple t)->(Go.store a v).runT P w es=(match w.cell? a with
   | some _=>if w.frozen? a then (.halt (.unsupported (.unsafePointer "a write to bytes that a string shares")) w,es) else (.ok () (w.setCell a v),es.push ⟨.cell a,true,false⟩)
   |none=>match w.farStore P a v false with
    |.ok (w',touched)=>(.ok () w',es ++ touched.toArray.map (⟨.cell ·,true,false⟩))
    |.error h=>(.halt h w,es)):=by
  intro v a w h1 h2;cases v<;>first|rfl|exact absurd rfl (h1 _)|exact absurd rfl (h2 _)
 by_cases ht:∃ t,v=.tuple t
 ·obtain⟨t,rfl⟩:=ht;cases hr
 have hvt:∀ t,v≠.tuple t:=fun t h=>ht ⟨t,h⟩
 have hvt':∀ t,v'≠.tuple t:=fun t h=>ht (hnt ⟨t,h⟩)
 have hva:∀ c,v≠.agg c:=fun c h=>by
  subst h;cases hv with
  |base h=>cases h with|flat hf=>cases hf
 have hr':((Go.store a v).runT P wl es).1=.ok x wl':=by rw[Sem.runT_eq];exact hr
 rw[hrun v a wl hva hvt]at hr';rcases h3 with⟨c,c',e,f,f',rfl,rfl,h4,h5,h6⟩|⟨_,_,l,rfl,rfl,_⟩|⟨_,hch,_⟩
 ·have hc:wl.cell? a=if a.spot.isSome then none else c[a.off]?:=by simp [World.cell?,h1]
  have hc':wa.cell? a'=if a.spot.isSome then none else c'[a.off]?:=by simp[World.cell?,h2,h.2.1,h.2.2]
  cases hs:a.spot.isSome with
  |true =>
   rw[hs]at hc;simp only[if_true]at hc;rw[hc]at hr';simp[World.farStore,h1]at hr'
  | false =>
   rw[hs]at hc hc';simp only[Bool.false_eq_true,if_false]at hc hc';rcases h4.get? a.off with⟨h7,h8⟩|⟨y,y',h7,h8,h9⟩
   ·rw[hc,h7]at hr';simp[World.farStore,h1]at hr'
   ·rw [hc,h7] at hr';have hlt:a.off < c.size:=(Array.getElem?_eq_some_iff.1 h7).1;by_cases hD:D a.block
    · -- a frozen block
     have:wl.frozen? a=true:=by
      unfold World.frozen?;rw[h1];dsimp only;rw[h5 hD];simp[hlt]
     simp only[this,if_true]at hr';cases hr'
    ·obtain ⟨hf,hf'⟩:=h6 hD;have hfr:wl.frozen? a=false:=by simp [World.frozen?,h1,hf]
     have hfr':wa.frozen? a'=false:=by simp[World.frozen?,h2,hf']
     simp only[hfr,Bool.false_eq_true,if_false]at hr';cases hr';have hlt':a.block<wl.heap.size:=(Array.getElem?_eq_some_iff.1 h1).1;have hlt2:a'.block<wa.heap.size:=(Array.getElem?_eq_some_iff.1 h2).1;have hset:(wl.setCell a v).heap[a.block]? = some (.cells (c.setIfInBounds a.off v) e f):=by
      simp[World.setCell,Array.getElem?_modify,h1,hs]
     have hset':(wa.setCell a' v').heap[a'.block]? = some (.cells (c'.setIfInBounds a.off v') e f'):=by
      simp[World.setCell,Array.getElem?_modify,h2,h.2.1,h.2.2,hs]
     have hoth:∀ b,b≠a.block->(wl.setCell a v).heap[b]? = wl.heap[b]?:=by
      intro b hb;simp only[World.setCell,Array.getElem?_modify];rw[if_neg (fun h=>hb h.symm)]
     have hoth':∀ b,b≠a'.block->(wa.setCell a' v').heap[b]? = wa.heap[b]?:=by
      intro b hb;simp only[World.setCell,Array.getElem?_modify];rw[if_neg (fun h=>hb h.symm)]
     refine⟨(),wa.setCell a' v',es.push ⟨.cell a',true,false⟩,R,?_,fun ev he=>?_,⟨fun b b' hb=>?_,hw.fn,hw.inj,hw.old,hw.new,hw.tape,hw.drawn,fun b hb=>by simpa[World.setCell]using hw.dom b hb,by simpa[World.setCell]using hw.gl,by simpa[World.setCell]using hw.ga⟩,⟨le_refl R,fun _ _ h=>.inl h⟩,⟨by simp[World.setCell],fun b' _ hD'=>?_,rfl,rfl,rfl,fun C h=>lC h _ _⟩,by simp[World.setCell],trivial⟩
     ·rw[hrun v' a' wa hna hvt',hc',h8];simp only[hfr',Bool.false_eq_true,if_false]
     ·rcases Array.mem_push.1 he with h' | rfl
      ·exact .inl h'
      ·exact .inr ⟨rfl,a.block,h.1,fun _=>hD⟩
     ·by_cases hb1:b=a.block
      ·subst hb1;have:b'=a'.block:=hw.fn _ _ _ hb h.1;subst this;exact⟨_,_,hset,hset',.inl ⟨_,_,_,_,_,rfl,rfl,h4.set hv,fun h=>(hD h).elim,fun _=>⟨hf,hf'⟩⟩⟩
      ·have hb2:b'≠a'.block:=fun h'=>hb1 (hw.inj _ _ _ (h' ▸ hb) h.1)
       rw[hoth b hb1,hoth' b' hb2];exact hw.obj b b' hb
     ·exact hoth' b' fun h'=>hD (hD' a.block (h' ▸ h.1))
 ·have hc:wl.cell? a=none:=by simp [World.cell?,h1]
  rw[hc]at hr';simp[World.farStore,h1]at hr'
 ·have hc:wl.cell? a=none:=by cases o <;> first | (cases hch;done) | simp [World.cell?,h1]
  rw[hc]at hr';cases o<;>first|(cases hch;done)|simp[World.farStore,h1]at hr'
theorem ah.newObj [bT] {o o':Obj} (h:∀ R',le R R'->OR R' False o o'):ah P D (fun R' n n'=>R' n n') R (Go.newObj o) (Go.newObj o'):=by
 intro wl wa es hw x wl' hr;have hD1:¬ D wl.heap.size:=fun h=>Nat.lt_irrefl _ (hw.dom _ h)
 have hG1:=hw.gl;have hG2:=hw.ga;cases hr;let R':BR:=fun b b'=>R b b'\/(b=wl.heap.size/\b'=wa.heap.size)
 have hle:le R R':=fun b b' h=>.inl h
 have hlt:∀ {b b'},R b b'->b<wl.heap.size/\b'<wa.heap.size:=fun hb=>let⟨o,o',h1,h2,_⟩:=hw.obj _ _ hb;⟨(Array.getElem?_eq_some_iff.1 h1).1,(Array.getElem?_eq_some_iff.1 h2).1⟩
 refine⟨wa.heap.size,{wa with heap:=wa.heap.push o'},es,R',rfl,fun e he=>.inl he,⟨?_,?_,?_,?_,?_,hw.tape,hw.drawn,fun b hb=>by have:=hw.dom b hb;simp;omega,by simp;omega,by simp;omega⟩,⟨hle,?_⟩,⟨by simp,?_,rfl,rfl,rfl,fun C hC=>air hC ?_⟩,by simp,.inr ⟨rfl,rfl⟩⟩
 ·rintro b b' (hb | ⟨rfl,rfl⟩)
  ·obtain ⟨x,x',h1,h2,h3⟩:=hw.obj _ _ hb;refine ⟨x,x',?_,?_,?_⟩
   ·rw[Array.getElem?_push,if_neg (by have:=(hlt hb).1;omega)];exact h1
   ·rw[Array.getElem?_push,if_neg (by have:=(hlt hb).2;omega)];exact h2
   ·rcases h3 with ⟨c,c',e,f,f',h4,h5,h6,h7,h8⟩ | ⟨a,a',l,h4,h5,h6,h7⟩ | h7
    ·exact .inl ⟨c,c',e,f,f',h4,h5,h6.mono fun _ _=>qV.mono hle,h7,h8⟩
    ·exact .inr (.inl ⟨a,a',l,h4,h5,h6.mono hle,h7⟩)
    ·exact .inr (.inr h7)
  ·refine ⟨o,o',by simp,by simp,?_⟩;rcases h R' hle with ⟨c,c',e,f,f',h4,h5,h6,h7,h8⟩ | ⟨a,a',l,h4,h5,h6,h7⟩ | h7
   ·exact .inl ⟨c,c',e,f,f',h4,h5,h6,fun h=>(hD1 h).elim,fun _=>h8 id⟩
   ·exact .inr (.inl ⟨a,a',l,h4,h5,h6,hD1⟩)
   ·exact h7.1.elim
 ·rintro b b1 b2 (h1 | ⟨rfl,rfl⟩) (h2 | ⟨h3,rfl⟩)
  ·exact hw.fn _ _ _ h1 h2
  ·have:=(hlt h1).1;omega
  ·have:=(hlt h2).1;omega
  ·rfl
 ·rintro b1 b2 b (h1 | ⟨rfl,rfl⟩) (h2 | ⟨rfl,h3⟩)
  ·exact hw.inj _ _ _ h1 h2
  ·have:=(hlt h1).2;omega
  ·have:=(hlt h2).2;omega
  ·rfl
 ·rintro b b' (h1 | ⟨rfl,rfl⟩) hd
  ·exact hw.old _ _ h1 hd
  ·exact(hD1 hd).elim
 ·rintro b b' (h1 | ⟨rfl,rfl⟩)
  ·exact hw.new _ _ h1
  ·exact⟨hG1,hG2⟩
 ·rintro b b' (h1 | ⟨rfl,rfl⟩)
  ·exact .inl h1
  ·exact .inr ⟨Nat.le_refl _,Nat.le_refl _,hD1⟩
 ·intro b' hb _;rw[Array.getElem?_push,if_neg (by omega)]
 ·rcases h R' hle with ⟨c,c',e,f,f',_,rfl,_⟩ | ⟨a,a',l,_,rfl,_⟩ | h7
  ·trivial
  ·trivial
  ·exact h7.1.elim
end
def uH (P:Program) {α:Type} (Q:α->Prop):Sem α->Prop
 |.pure a=>Q a
 |.halt _=>True
 |.choose _ k=>∀ n,uH P Q (k n)
 |.program k=>uH P Q (k P)
 |.mark m k=>m=.noRoom/\uH P Q k
 |_=>False
section
variable {P:Program} {D:Nat->Prop} {α β:Type} {R:BR}
theorem uH.bind {Q:α->Prop} {Q':β->Prop} {f:α->Sem β} (hf:∀ a,Q a->uH P Q' (f a)) {s:Sem α} (h:uH P Q s):uH P Q' (s >>= f):=by
 show uH P Q' (s.bind f)
 induction s with
 |pure a=>exact hf a h
 |halt _=>trivial
 |choose q k ih=>exact fun n=>ih n (h n)
 |program k ih=>exact ih P h
 |mark m k ih=>exact⟨h.1,ih h.2⟩
 |load _ _ _ _=>exact h.elim
 |store _ _ _ _ _=>exact h.elim
 |new _ _ _=>exact h.elim
 |shape _ _ _=>exact h.elim
 |freeze _ _ _ _=>exact h.elim
 |frozen _ _ _=>exact h.elim
 |getObj _ _ _=>exact h.elim
 |setObj _ _ _ _=>exact h.elim
 |sys _ _ _=>exact h.elim
theorem ah.dry [bT] {Q:α->Prop} {s:Sem α} (h:uH P Q s):ah P D (fun _ a b=>a=b/\Q a) R s s:=by
 induction s generalizing R with
 |pure a=>exact ah.pure ⟨rfl,h⟩
 |halt _=>exact ah.halt
 |choose q k ih =>
  show ah P D _ R (Go.choose q >>= k) (Go.choose q >>= k);exact ah.bind ah.choose fun R' _ a b hab=>by subst hab;exact ih a (h a)
 |program k ih =>
  show ah P D _ R (Go.program >>= k) (Go.program >>= k);exact ah.bind ah.program fun R' _ a b hab=>by obtain⟨rfl,rfl⟩:=hab;exact ih _ h
 |mark m k ih =>
  obtain⟨rfl,h⟩:=h;show ah P D _ R (Go.mark .noRoom >>= fun _=>k) (Go.mark .noRoom >>= fun _=>k);exact ah.bind ah.noRoom fun R' _ a b _=>ih h
 |load _ _ _ _=>exact h.elim
 |store _ _ _ _ _=>exact h.elim
 |new _ _ _=>exact h.elim
 |shape _ _ _=>exact h.elim
 |freeze _ _ _ _=>exact h.elim
 |frozen _ _ _=>exact h.elim
 |getObj _ _ _=>exact h.elim
 |setObj _ _ _ _=>exact h.elim
 |sys _ _ _=>exact h.elim
class iE {α:Type} (s:Sem α):Prop where
 t:∀ P,uH P (fun _=>True) s
class nM (s:Sem Value):Prop where
 t:∀ P,uH P (fun v=>flat v=true) s
theorem dB {s:Sem α} {f:α->Sem β} (h:iE s) (hf:∀ a,iE (f a)):iE (s >>= f):=⟨fun P=>uH.bind (fun a _=>(hf a).t P) (h.t P)⟩
instance {s:Sem α} {f:α->Sem β} [h:iE s] [hf:∀ a,iE (f a)]:iE (s >>= f):=dB h hf
theorem dD {s:Sem α} {f:α->Sem Value} (h:iE s) (hf:∀ a,nM (f a)):nM (s >>= f):=⟨fun P=>uH.bind (fun a _=>(hf a).t P) (h.t P)⟩
instance {s:Sem α} {f:α->Sem Value} [h:iE s] [hf:∀ a,nM (f a)]:nM (s >>= f):=dD h hf
instance {s:Sem α} {f:α->β} [h:iE s]:iE (f <$> s):=(dB h (fun a=>(⟨fun _=>trivial⟩:iE (pure (f a):Sem β))):iE (s >>= fun a=>pure (f a)))
instance {a:α}:iE (pure a:Sem α):=⟨fun _=>trivial⟩
instance {b:Bool}:nM (pure (.bool b):Sem Value):=⟨fun _=>rfl⟩
instance {k:IntKind} {n:Int}:nM (pure (.int k n):Sem Value):=⟨fun _=>rfl⟩
instance {k:FloatKind} {n:Nat}:nM (pure (.float k n):Sem Value):=⟨fun _=>rfl⟩
instance {k:FloatKind} {n m:Nat}:nM (pure (.complex k n m):Sem Value):=⟨fun _=>rfl⟩
instance {s:ByteArray}:nM (pure (.string s):Sem Value):=⟨fun _=>rfl⟩
instance {s:String}:iE (stuck s:Sem α):=⟨fun _=>trivial⟩
instance {s:Unsupported}:iE (unsupported s:Sem α):=⟨fun _=>trivial⟩
instance {v:Value}:iE (goPanic v:Sem α):=⟨fun _=>trivial⟩
instance {s:String}:nM (stuck s:Sem Value):=⟨fun _=>trivial⟩
instance {s:Unsupported}:nM (unsupported s:Sem Value):=⟨fun _=>trivial⟩
instance {v:Value}:nM (goPanic v:Sem Value):=⟨fun _=>trivial⟩
instance:iE program:=⟨fun _=>trivial⟩
instance {q:Question}:iE (choose q):=⟨fun _ _=>trivial⟩
instance:iE (mark .noRoom):=⟨fun _=>⟨rfl,trivial⟩⟩
instance aaW {c:Prop} [Decidable c] {a b:Sem α} [iE a] [iE b]:iE (if c then a else b):=by split<;>infer_instance
theorem eX {c:Prop} [Decidable c] {a b:Sem α} (ha:iE a) (hb:iE b):iE (if c then a else b):=by split<;>assumption
theorem dV {c:Prop} [Decidable c] {a b:Sem Value} (ha:nM a) (hb:nM b):nM (if c then a else b):=by split<;>assumption
end
section
instance {t:TypeId}:iE (typeInfo t):=by unfold typeInfo;repeat' (first|infer_instance|apply eX|apply dV|apply dB|apply dD|intro _|dsimp only|split)
instance {t:TypeId}:iE (underlying t):=by unfold underlying;repeat' (first|infer_instance|apply eX|apply dV|apply dB|apply dD|intro _|dsimp only|split)
instance {t:TypeId}:iE (zeroValue t):=by unfold zeroValue;repeat' (first|infer_instance|apply eX|apply dV|apply dB|apply dD|intro _|dsimp only|split)
instance {t:TypeId}:iE (sizeOf t):=by unfold sizeOf;repeat' (first|infer_instance|apply eX|apply dV|apply dB|apply dD|intro _|dsimp only|split)
instance {t:TypeId}:iE (isAgg t):=by unfold isAgg;repeat' (first|infer_instance|apply eX|apply dV|apply dB|apply dD|intro _|dsimp only|split)
instance {n:Nat}:iE (askRoom n):=by unfold askRoom;repeat' (first|infer_instance|apply eX|apply dV|apply dB|apply dD|intro _|dsimp only|split)
instance {o:BinOp} {k:IntKind} {x y:Int}:nM (Op.intArith o k x y):=by unfold Op.intArith;repeat' (first|infer_instance|apply eX|apply dV|apply dB|apply dD|intro _|dsimp only|split)
instance {o:BinOp} {k:IntKind} {x y:Int}:nM (Op.intBits o k x y):=by unfold Op.intBits;repeat' (first|infer_instance|apply eX|apply dV|apply dB|apply dD|intro _|dsimp only|split)
instance {o:BinOp} {x y:Int}:nM (Op.intCmp o x y):=by unfold Op.intCmp;repeat' (first|infer_instance|apply eX|apply dV|apply dB|apply dD|intro _|dsimp only|split)
instance {o:BinOp} {x y:ByteArray}:nM (Op.stringOp o x y):=by unfold Op.stringOp;repeat' (first|infer_instance|apply eX|apply dV|apply dB|apply dD|intro _|dsimp only|split)
instance {o:BinOp} {k:FloatKind} {x y:Nat}:nM (Op.floatArith o k x y):=by unfold Op.floatArith;repeat' (first|infer_instance|apply eX|apply dV|apply dB|apply dD|intro _|dsimp only|split)
instance {o:BinOp} {k:FloatKind} {x y:Nat}:nM (Op.floatCmp o k x y):=by unfold Op.floatCmp;repeat' (first|infer_instance|apply eX|apply dV|apply dB|apply dD|intro _|dsimp only|split)
instance {v:Value}:iE (asBool v):=by unfold asBool;repeat' (first|infer_instance|apply eX|apply dV|apply dB|apply dD|intro _|dsimp only|split)
instance {v:Value}:iE (asIntOf v):=by unfold asIntOf;repeat' (first|infer_instance|apply eX|apply dV|apply dB|apply dD|intro _|dsimp only|split)
instance {v:Value}:iE (asInt v):=by unfold asInt;repeat' (first|infer_instance|apply eX|apply dV|apply dB|apply dD|intro _|dsimp only|split)
end
section
variable {t:TypeId} {a a':Addr} {v v' x x' y y':Value} {r r':Nat}
variable {P:Program} {D:Nat->Prop} {α β:Type} {R:BR}
theorem ah.Wi [bT] {s:Sem α} [h:iE s]:ah P D (fun _ a b=>a=b) R s s:=(ah.dry (h.t P)).mono fun _ _ _ h=>h.1
theorem ah.Oe [bT] {s:Sem Value} [h:nM s]:ah P D VR R s s:=(ah.dry (h.t P)).mono fun _ a b h=>by obtain⟨rfl,h⟩:=h;exact .of_flat h
theorem ah.then [bT] {γ δ:Type} {Ψ:BR->γ->δ->Prop} {s:Sem α} [iE s] {f:α->Sem γ} {f':α->Sem δ} (hf:∀ R',le R R'->∀ a,ah P D Ψ R' (f a) (f' a)):ah P D Ψ R (s >>= f) (s >>= f') :=
 ah.bind ah.Wi fun R' hR a b hab=>by subst hab;exact hf R' hR a
theorem ah.underlying [bT] :ah P D (fun _ a b=>a=b/\P.underlying t=some a) R (Go.underlying t) (Go.underlying t):=by
 unfold Go.underlying;refine ah.bind ah.program fun R' _ a b hab=>?_
 obtain⟨rfl,rfl⟩:=hab;cases h:b.underlying t with
 |none=>exact ah.halt
 |some d=>exact ah.pure ⟨rfl,rfl⟩
theorem ah.Nw [bT] {γ δ:Type} {Ψ:BR->γ->δ->Prop} {f:TypeDesc->Sem γ} {f':TypeDesc->Sem δ} (hf:∀ R',le R R'->∀ a,P.underlying t=some a->ah P D Ψ R' (f a) (f' a)):ah P D Ψ R (Go.underlying t >>= f) (Go.underlying t >>= f') :=
 ah.bind ah.underlying fun R' hR a b hab=>by obtain⟨rfl,h⟩:=hab;exact hf R' hR a h
theorem AR.add (h:AR R a a') (n:Nat):AR R (a.add n) (a'.add n):=by
 unfold Addr.add;split
 ·exact h
 ·exact⟨h.1,by show a'.off+n=a.off+n;rw[h.2.1],rfl⟩
theorem ah.loadCellsFrom [bT] :∀ (n i:Nat) {R:BR} (acc acc':Array Value),AR R a a'->AF (qV R) acc acc'->ah P D (fun R'=>AF (qV R')) R (Go.loadCellsFrom a i n acc) (Go.loadCellsFrom a' i n acc')
 |0,i,R,acc,acc',_,h=>by unfold Go.loadCellsFrom;exact ah.pure h
 |n+1,i,R,acc,acc',ha,h=>by
  unfold Go.loadCellsFrom;refine ah.bind (ah.load (ha.add i)) fun R' hR v v' hv=>?_
  exact ah.loadCellsFrom n _ _ _ (ha.mono hR) ((h.mono fun _ _=>qV.mono hR).push hv)
theorem ah.storeCells [bT] :∀ (vs vs':List Value) (i:Nat) {R:BR},AR R a a'->vs'.length=vs.length->(∀ (j:Nat) (v:Value),vs[j]? = some v->∃ v':Value,vs'[j]? = some v'/\qV R v v')->ah P D (fun _ _ _=>True) R (Go.storeCells a vs i) (Go.storeCells a' vs' i)
 | [],vs',i,R,_,hl,h=>by
  cases vs' with
  |nil=>unfold Go.storeCells;exact ah.pure trivial
  |cons v l=>simp at hl
 | v::vs,vs',i,R,ha,hl,h=>by
  cases vs' with
  |nil=>simp at hl
  |cons v' vs' =>
   unfold Go.storeCells;obtain⟨x,hx,hv⟩:=h 0 v rfl;cases hx;refine ah.bind (ah.store (ha.add i) hv) fun R' hR _ _ _=>?_
   refine ah.storeCells vs vs' _ (ha.mono hR) (by simpa using hl) fun j y hy=>?_
   obtain⟨y',h1,h2⟩:=h (j+1) y (by simpa using hy);exact⟨y',by simpa using h1,h2.mono hR⟩
theorem ah.loadVar [bT] (h:AR R a a'):ah P D VR R (Go.loadVar t a) (Go.loadVar t a'):=by
 unfold Go.loadVar;refine ah.then fun R1 h1 b=>?_
 cases b with
 |true =>
  refine ah.then fun R2 h2 n=>?_
  refine ah.bind (ah.loadCellsFrom n 0 #[] #[] (h.mono (le_trans h1 h2)) AF.empty) fun R3 _ c c' hc=>?_
  exact ah.pure (.Kr hc)
 |false=>exact(ah.load (h.mono h1)).mono fun _ _ _ h=>.base h
theorem ah.storeVar [bT] (h:AR R a a') (hv:VR R v v'):ah P D (fun _ _ _=>True) R (Go.storeVar t a v) (Go.storeVar t a' v'):=by
 unfold Go.storeVar;refine ah.then fun R1 h1 n=>?_
 have hc:=(hv.mono h1).cells;rw[hc.1];have hst:ah P D (fun _ _ _=>True) R1 (Go.storeCells a v.cells.toList) (Go.storeCells a' v'.cells.toList):=by
  refine ah.storeCells _ _ _ (h.mono h1) (by simpa using hc.1) fun j x hx=>?_
  obtain⟨x',h2,h3⟩:=hc.2 j x (by simpa using hx);exact⟨x',by simpa using h2,h3⟩
 dsimp only;split
 ·exact ah.halt
 ·exact hst
theorem ah.newRow [bT] {c c':Array Value} (h:AF (qV R) c c'):ah P D (fun R'=>AR R') R (Go.newRow t c) (Go.newRow t c'):=by
 unfold Go.newRow;refine ah.bind (ah.newObj (D:=D) (o:=.cells c t) (o':=.cells c' t) fun R' hR=>.inl ⟨c,c',t,(0,0),(0,0),rfl,rfl,h.mono fun _ _=>qV.mono hR,fun h=>h.elim,fun _=>⟨rfl,rfl⟩⟩) fun R' _ n n' hn=>?_
 exact ah.pure ⟨hn,rfl,rfl⟩
theorem ah.newVar [bT] (h:VR R v v'):ah P D (fun R'=>AR R') R (Go.newVar t v) (Go.newVar t v'):=ah.newRow h.cells
def IY:Value->Bool
 |.agg c=>c.all flat
 |v=>flat v
theorem P8 [bT] (h:IY v=true):VR R v v:=by
 unfold IY at h;split at h
 ·rw[Array.all_eq_true]at h;exact .Kr (AF.self fun v hv=>by
   obtain⟨i,hi,rfl⟩:=Array.mem_iff_getElem.1 hv;exact .base (.flat (h i hi)))
 ·exact .of_flat h
def Hl (P:Program) (t:TypeId):Bool:=((P.info? t).bind (·.zero)).all IY
theorem ah.zeroValue [bT] (hz:Hl P t=true):ah P D VR R (Go.zeroValue t) (Go.zeroValue t):=by
 unfold Go.zeroValue;unfold Go.typeInfo;refine ah.bind (Φ:=fun _ a b=>a=b/\P.info? t=some a) ?_ fun R1 _ a b hab=>?_
 ·refine ah.bind ah.program fun R1 _ a b hab=>?_
  obtain⟨rfl,rfl⟩:=hab;cases h:b.info? t with
  |none=>exact ah.halt
  |some i=>exact ah.pure ⟨rfl,rfl⟩
 ·obtain ⟨rfl,h⟩:=hab;cases hv:a.zero with
  |none=>exact ah.halt
  |some v=>exact ah.pure (P8 (by unfold Hl at hz;rw[h]at hz;simpa[hv]using hz))
theorem ah.alloc [bT] (hz:Hl P t=true):ah P D VR R (Instr.alloc t true (.tuple #[])) (Instr.alloc t true (.tuple #[])):=by
 unfold Instr.alloc;refine ah.bind (ah.zeroValue hz) fun R1 _ v v' hv=>?_
 exact ah.bind (ah.newVar hv) fun R2 _ a a' ha=>ah.pure (.base (.base (.ptr ha)))
theorem ah.box [bT] (h:VR R v v'):ah P D VR R (Instr.box t v) (Instr.box t v'):=by
 unfold Instr.box;exact ah.bind (ah.newVar h) fun R2 _ a a' ha=>ah.pure (.base (.base (.ptr ha)))
theorem ah.sureAddr [bT] (h:VR R v v'):ah P D (fun R'=>AR R') R (Instr.sureAddr v) (Instr.sureAddr v'):=by
 unfold Instr.sureAddr;cases h with
 |agg _=>exact ah.halt
 | base h =>
  cases h with
  |func _ _=>exact ah.halt
  |base h =>
   cases h with
   |ptr h=>exact ah.pure h
   |slice _=>exact ah.halt
   |chan _=>exact ah.halt
   |flat hf=>cases v<;>first|exact ah.halt|(rename_i a;cases a<;>first|exact ah.halt|cases hf)
theorem ah.loadAt [bT] (h:VR R v v'):ah P D VR R (Instr.loadAt t v) (Instr.loadAt t v'):=by
 unfold Instr.loadAt;exact ah.bind (ah.sureAddr h) fun R1 _ a a' ha=>ah.loadVar ha
theorem ah.storeAt [bT] (h:VR R v v') (hx:VR R x x'):ah P D (fun _ _ _=>True) R (Instr.storeAt t v x) (Instr.storeAt t v' x'):=by
 unfold Instr.storeAt;exact ah.bind (ah.sureAddr h) fun R1 h1 a a' ha=>ah.storeVar ha (hx.mono h1)
theorem ah.viewAt [bT] (h:R r r'):ah P D (fun _ a b=>a=none/\b=none) R (Go.viewAt r) (Go.viewAt r'):=by
 intro wl wa es hw x wl' hr;obtain⟨o,o',h1,h2,h3⟩:=hw.obj _ _ h;rcases h3 with⟨c,c',e,f,f',rfl,rfl,h4,_⟩|⟨a,a',l,rfl,rfl,h4,h5⟩|⟨_,hch,hch'⟩
 ·have hl:(Go.viewAt r).run P wl=.ok none wl:=by simp [Go.viewAt,Go.shape,Sem.run,World.shape?,h1]
  have ha:(Go.viewAt r').runT P wa es=(.ok none wa,es):=by
   unfold Go.viewAt;show Sem.runT P (Sem.bind (Go.shape r') _) wa es=_;simp only[Go.shape,Sem.bind,Sem.runT,World.shape?,h2];rfl
  rw[hl]at hr;cases hr;exact⟨none,wa,es,R,ha,fun e he=>.inl he,hw,⟨le_refl R,fun _ _ h=>.inl h⟩,.refl R D wa,Nat.le_refl _,rfl,rfl⟩
 ·have hl:(Go.viewAt r).run P wl=.ok none wl:=by simp [Go.viewAt,Go.shape,Go.getObj,Sem.run,World.shape?,h1]
  have ha:(Go.viewAt r').runT P wa es=(.ok none wa,es.push ⟨.obj r',false,false⟩):=by
   unfold Go.viewAt;show Sem.runT P (Sem.bind (Go.shape r') _) wa es=_;simp only[Go.shape,Sem.bind,Sem.runT,World.shape?,h2];show Sem.runT P (Sem.bind (Go.getObj r') _) wa es=_;simp only[Go.getObj,Sem.bind,Sem.runT,h2];rfl
  rw[hl]at hr;cases hr;refine⟨none,wa,_,R,ha,fun e he=>?_,hw,⟨le_refl R,fun _ _ h=>.inl h⟩,.refl R D wa,Nat.le_refl _,rfl,rfl⟩;rcases Array.mem_push.1 he with h'|rfl
  ·exact .inl h'
  ·exact .inr ⟨rfl,r,h⟩
 ·cases o <;> first | (cases hch;done) | skip
  cases o'<;>first|(cases hch';done)|skip
  have hl:(Go.viewAt r).run P wl=.ok none wl:=by simp[Go.viewAt,Go.shape,Go.getObj,Sem.run,World.shape?,h1]
  have ha:(Go.viewAt r').runT P wa es=(.ok none wa,es.push ⟨.obj r',false,true⟩):=by
   unfold Go.viewAt;show Sem.runT P (Sem.bind (Go.shape r') _) wa es=_;simp only[Go.shape,Sem.bind,Sem.runT,World.shape?,h2];show Sem.runT P (Sem.bind (Go.getObj r') _) wa es=_;simp only[Go.getObj,Sem.bind,Sem.runT,h2];rfl
  rw[hl]at hr;cases hr;refine⟨none,wa,_,R,ha,fun e he=>?_,hw,⟨le_refl R,fun _ _ h=>.inl h⟩,.refl R D wa,Nat.le_refl _,rfl,rfl⟩;rcases Array.mem_push.1 he with h'|rfl
  ·exact .inl h'
  ·exact .inr ⟨rfl,r,h⟩
theorem ah.numberAt [bT] (h:R r r'):ah P D (fun R' a b=>(a=none/\b=none)\/∃ x x' l,a=some (x,l)/\b=some (x',l)/\AR R' x x') R (Go.numberAt r) (Go.numberAt r'):=by
 intro wl wa es hw x wl' hr;obtain⟨o,o',h1,h2,h3⟩:=hw.obj _ _ h;rcases h3 with⟨c,c',e,f,f',rfl,rfl,h4,_⟩|⟨a,a',l,rfl,rfl,h4,h5⟩|⟨_,hch,hch'⟩
 ·have hl:(Go.numberAt r).run P wl=.ok none wl:=by simp [Go.numberAt,Go.shape,Sem.run,World.shape?,h1]
  have ha:(Go.numberAt r').runT P wa es=(.ok none wa,es):=by
   unfold Go.numberAt;show Sem.runT P (Sem.bind (Go.shape r') _) wa es=_;simp only[Go.shape,Sem.bind,Sem.runT,World.shape?,h2];rfl
  rw[hl]at hr;cases hr;exact⟨none,wa,es,R,ha,fun e he=>.inl he,hw,⟨le_refl R,fun _ _ h=>.inl h⟩,.refl R D wa,Nat.le_refl _,.inl ⟨rfl,rfl⟩⟩
 ·have hl:(Go.numberAt r).run P wl=.ok (some (a,l)) wl:=by simp [Go.numberAt,Go.shape,Go.getObj,Sem.run,World.shape?,h1]
  have ha:(Go.numberAt r').runT P wa es=(.ok (some (a',l)) wa,es.push ⟨.obj r',false,false⟩):=by
   unfold Go.numberAt;show Sem.runT P (Sem.bind (Go.shape r') _) wa es=_;simp only[Go.shape,Sem.bind,Sem.runT,World.shape?,h2];show Sem.runT P (Sem.bind (Go.getObj r') _) wa es=_;simp only[Go.getObj,Sem.bind,Sem.runT,h2];rfl
  rw[hl]at hr;cases hr;refine⟨_,wa,_,R,ha,fun e he=>?_,hw,⟨le_refl R,fun _ _ h=>.inl h⟩,.refl R D wa,Nat.le_refl _,.inr ⟨a,a',l,rfl,rfl,h4⟩⟩;rcases Array.mem_push.1 he with h'|rfl
  ·exact .inl h'
  ·exact .inr ⟨rfl,r,h⟩
 ·cases o <;> first | (cases hch;done) | skip
  cases o'<;>first|(cases hch';done)|skip
  have hl:(Go.numberAt r).run P wl=.ok none wl:=by simp[Go.numberAt,Go.shape,Go.getObj,Sem.run,World.shape?,h1]
  have ha:(Go.numberAt r').runT P wa es=(.ok none wa,es.push ⟨.obj r',false,true⟩):=by
   unfold Go.numberAt;show Sem.runT P (Sem.bind (Go.shape r') _) wa es=_;simp only[Go.shape,Sem.bind,Sem.runT,World.shape?,h2];show Sem.runT P (Sem.bind (Go.getObj r') _) wa es=_;simp only[Go.getObj,Sem.bind,Sem.runT,h2];rfl
  rw[hl]at hr;cases hr;refine⟨none,wa,_,R,ha,fun e he=>?_,hw,⟨le_refl R,fun _ _ h=>.inl h⟩,.refl R D wa,Nat.le_refl _,.inl ⟨rfl,rfl⟩⟩;rcases Array.mem_push.1 he with h'|rfl
  ·exact .inl h'
  ·exact .inr ⟨rfl,r,h⟩
theorem ah.behindNumber [bT] (h:AR R a a'):ah P D (fun R' x y=>AR R' x.1 y.1/\x.2=y.2) R (Go.behindNumber a) (Go.behindNumber a'):=by
 unfold Go.behindNumber;refine ah.bind (ah.numberAt h.1) fun R1 h1 x y hxy=>?_
 rcases hxy with⟨rfl,rfl⟩|⟨x,y,l,rfl,rfl,hxy⟩
 ·exact ah.pure ⟨h.mono h1,rfl⟩
 ·exact ah.pure ⟨hxy,rfl⟩
theorem ah.asNumber [bT] {l:Bool} (h:AR R a a'):ah P D VR R (Go.asNumber a l) (Go.asNumber a' l):=by
 unfold Go.asNumber;refine ah.bind (ah.newObj (D:=D) (o:=.number a l) (o':=.number a' l) fun R' hR=>.inr (.inl ⟨a,a',l,rfl,rfl,h.mono hR,id⟩)) fun R1 _ n n' hn=>?_
 exact ah.pure (.base (.base (.ptr ⟨hn,rfl,rfl⟩)))
theorem ah.noView [bT] (h:AR R a a'):ah P D (fun _ _ _=>True) R (Go.noView a) (Go.noView a'):=by
 unfold Go.noView;refine ah.bind (ah.viewAt h.1) fun R1 h1 x y hxy=>?_
 obtain⟨rfl,rfl⟩:=hxy;exact ah.pure trivial
theorem ah.byteOf [bT] (h:AR R a a'):ah P D (fun _ x y=>x=y) R (Go.byteOf a) (Go.byteOf a'):=by
 unfold Go.byteOf;rw[h.2.2];cases a.spot with
 |some s=>exact ah.pure rfl
 | none =>
  refine ah.bind ah.program fun R1 h1 p q hpq=>?_
  obtain⟨rfl,rfl⟩:=hpq;refine ah.bind (ah.noView (h.mono h1)) fun R2 h2 _ _ _=>?_
  refine ah.bind (ah.shape ((h.mono (le_trans h1 h2)).1)) fun R3 h3 x y hxy=>?_
  subst hxy;cases x with
  |none=>exact ah.halt
  | some en =>
   dsimp only;rw[h.2.1];split
   ·exact ah.pure rfl
   ·split
    ·exact ah.pure rfl
    ·exact ah.halt
theorem ah.partAt [bT] {c b:Nat} (h:AR R a a'):ah P D (fun R'=>AR R') R (Go.partAt a c b) (Go.partAt a' c b):=by
 unfold Go.partAt;refine ah.bind (ah.byteOf h) fun R1 h1 x y hxy=>?_
 subst hxy;dsimp only;have hp:AR R1 {block:=a.block,off:=a.off+c} {block:=a'.block,off:=a'.off+c}:=⟨h1 _ _ h.1,by show a'.off+c=a.off+c;rw[h.2.1],rfl⟩;refine ah.bind (ah.byteOf hp) fun R2 h2 u v huv=>?_
 subst huv;refine ah.pure ?_;split
 ·exact hp.mono h2
 ·exact⟨(hp.mono h2).1,(hp.mono h2).2.1,rfl⟩
theorem ah.fieldPlace [bT] {f:Field} (h:AR R a a'):ah P D (fun R'=>AR R') R (Go.fieldPlace a f) (Go.fieldPlace a' f):=by
 unfold Go.fieldPlace;refine ah.then fun R1 h1 n=>?_
 split
 ·exact ah.partAt (h.mono h1)
 ·exact ah.pure ((h.mono h1).add _)
theorem ah.fieldAt [bT] {s:TypeId} {f:Nat} (h:VR R v v'):ah P D VR R (Instr.fieldAt s v f) (Instr.fieldAt s v' f):=by
 unfold Instr.fieldAt;refine ah.then fun R1 h1 d=>?_
 cases d<;>first|exact ah.halt|skip
 rename_i fields;dsimp only;cases fields[f]? with
 |none=>exact ah.halt
 |some fd =>
  refine ah.bind (ah.sureAddr (h.mono h1)) fun R2 _ a a' ha=>?_
  exact ah.bind (ah.fieldPlace ha) fun R3 _ a a' ha=>ah.pure (.base (.base (.ptr ha)))
theorem VR.asIntOf [bT] (h:VR R v v'):ah P D (fun _ x y=>x=y) R (Go.asIntOf v) (Go.asIntOf v'):=by
 cases h with
 |agg _=>exact ah.halt
 | base h =>
  cases h with
  |func _ _=>exact ah.halt
  |base h =>
   cases h with
   |flat hf=>exact ah.Wi
   |_=>exact ah.halt
theorem VR.asBool [bT] (h:VR R v v'):ah P D (fun _ x y=>x=y) R (Go.asBool v) (Go.asBool v'):=by
 cases h with
 |agg _=>exact ah.halt
 | base h =>
  cases h with
  |func _ _=>exact ah.halt
  |base h =>
   cases h with
   |flat hf=>exact ah.Wi
   |_=>exact ah.halt
theorem EW {k:IntKind} {x y:Int} {c:BoundsCode} {w w':World} {a:α}:(boundsPanic k x y c:Sem α).run P w≠.ok a w':=by
 unfold boundsPanic;dsimp only;have key:∀ (s:Sem Bool),(s >>= fun s=>(runtimePanic (.bounds (IntKind.i64.wrap x) y s c):Sem α)).run P w≠.ok a w':=by
  intro s;rw[Sem.run_bind];cases s.run P w with
  |ok s w=>intro h;simp[runtimePanic,Sem.run_bind,goPanic,Sem.run]at h
  |halt _ _=>intro h;cases h
 split
 ·exact key _
 ·exact key _
theorem ah.bounds [bT] {Φ:BR->α->β->Prop} {k:IntKind} {x y:Int} {c:BoundsCode} {s':Sem β}:ah P D Φ R (boundsPanic k x y c:Sem α) s':=fun _ _ _ _ _ _ hr=>(EW hr).elim
theorem ah.indexAt [bT] {i i':Value} (hx:VR R x x') (hi:VR R i i'):ah P D VR R (Instr.indexAt t x i) (Instr.indexAt t x' i'):=by
 unfold Instr.indexAt;refine ah.bind (VR.asIntOf hi) fun R1 h1 k k' hk=>?_
 subst hk;obtain⟨k,n⟩:=k;dsimp only;have rest:∀ (R2:BR) (b b':Option Addr) (len:Nat) (elem:TypeId),((b=none/\b'=none)\/∃ a a',b=some a/\b'=some a'/\AR R2 a a') ->
   ah P D VR R2
    (do
     let d <- Go.underlying t
     match b with
     | some a=>if 0<=n/\n < len then do Pure.pure (.pointer (some (a.add (n.toNat * (<- sizeOf elem))))) else if (decide (len<=1) && (match d with | .array .. => true | _=>false))=true then unsupported (.noEntry "op/indexAddr.an index out of range at an array of length 0 or 1 (ledger 616)") else boundsPanic k n len .index
     |none=>boundsPanic k n 0 .index:Sem Value)
    (do
     let d <- Go.underlying t
     match b' with
     | some a=>if 0<=n/\n < len then do Pure.pure (.pointer (some (a.add (n.toNat * (<- sizeOf elem))))) else if (decide (len<=1) && (match d with | .array .. => true | _=>false))=true then unsupported (.noEntry "op/indexAddr.an index out of range at an array of length 0 or 1 (ledger 616)") else boundsPanic k n len .index
     |none=>boundsPanic k n 0 .index:Sem Value):=by
  intro R2 b b' len elem hb;refine ah.then fun R3 h3 d=>?_
  rcases hb with⟨rfl,rfl⟩|⟨a,a',rfl,rfl,ha⟩
  ·exact ah.bounds
  ·dsimp only;split
   ·refine ah.then fun R4 h4 m=>?_
    exact ah.pure (.base (.base (.ptr ((ha.mono (le_trans h3 h4)).add _))))
   ·cases d<;>(dsimp only;split<;>first|exact ah.halt|exact ah.bounds)
 refine ah.then fun R2 h2 d=>?_
 have hx2:=hx.mono (le_trans h1 h2);cases d<;>try exact ah.halt
 case array len elem =>
  dsimp only;refine ah.bind (ah.sureAddr hx2) fun R3 _ a a' ha=>?_
  exact rest R3 (some a) (some a') len elem (.inr ⟨a,a',rfl,rfl,ha⟩)
 case slice elem =>
  cases hx2 with
  |agg _=>exact ah.halt
  | base h =>
   cases h with
   |func _ _=>exact ah.halt
   | base h =>
    cases h with
    |ptr _=>exact ah.halt
    |chan _=>exact ah.halt
    |slice h=>exact rest R2 (some _) (some _) _ elem (.inr ⟨_,_,rfl,rfl,h⟩)
    |flat hf =>
     cases x<;>try exact ah.halt
     rename_i b l c;cases b with
     |none=>exact rest R2 none none l elem (.inl ⟨rfl,rfl⟩)
     |some _=>cases hf
theorem Ea [bT] {place:Nat->Option (Nat × Nat)}:∀ (l l':List (Nat × Value)) (c c':Array Value),AF (qV R) c c'->l'.length=l.length->(∀ (j i:Nat) (v:Value),l[j]? = some (i,v)->∃ v':Value,l'[j]? = some (i,v')/\VR R v v') ->
  (Instr.fill place c l=none/\Instr.fill place c' l'=none)\/∃ r r',Instr.fill place c l=some r/\Instr.fill place c' l'=some r'/\AF (qV R) r r':=by
 intro l
 induction l with
 |nil =>
  intro l' c c' hc hl _;cases l' with
  |nil=>exact .inr ⟨c,c',rfl,rfl,hc⟩
  |cons _ _=>simp at hl
 | cons x l ih =>
  intro l' c c' hc hl h;obtain⟨i,v⟩:=x;cases l' with
  |nil=>simp at hl
  | cons x' l' =>
   obtain⟨v',hx,hv⟩:=h 0 i v rfl;cases hx;unfold Instr.fill;cases place i with
   |none=>exact .inl ⟨rfl,rfl⟩
   | some p =>
    obtain⟨off,size⟩:=p;have hcc:=hv.cells;dsimp only;rw[hcc.1,hc.1];split
    ·exact .inl ⟨rfl,rfl⟩
    ·refine ih l' _ _ ?_ (by simpa using hl) fun j i' y hy=>?_
     ·rw [<- Array.foldl_toList,<- Array.foldl_toList];have key:∀ (n m:Nat) (d d':Array Value),AF (qV R) d d'->v.cells.size - m=n ->
        AF (qV R) (((v.cells.zipIdx).toList.drop m).foldl (fun cs (x:Value × Nat)=>cs.setIfInBounds (off+x.2) x.1) d) (((v'.cells.zipIdx).toList.drop m).foldl (fun cs (x:Value × Nat)=>cs.setIfInBounds (off+x.2) x.1) d'):=by
       intro n
       induction n with
       |zero =>
        intro m d d' hd hm;have e1:(v.cells.zipIdx).toList.drop m=[]:=List.drop_eq_nil_of_le (by simp;omega);have e2:(v'.cells.zipIdx).toList.drop m=[]:=List.drop_eq_nil_of_le (by simp[hcc.1];omega);rw[e1,e2];exact hd
       |succ n ihn =>
        intro m d d' hd hm;have hlt:m<v.cells.size:=by omega
        have hlt':m<v'.cells.size:=by rw[hcc.1];exact hlt
        rw[List.drop_eq_getElem_cons (i:=m) (by simpa using hlt),List.drop_eq_getElem_cons (i:=m) (l:=(v'.cells.zipIdx).toList) (by simpa using hlt')];rw[List.foldl_cons,List.foldl_cons];refine ihn (m+1) _ _ ?_ (by omega);simp only[Array.getElem_toList,Array.getElem_zipIdx];refine hd.set ?_;obtain⟨y',h1,h2⟩:=hcc.2 m v.cells[m] (Array.getElem?_eq_getElem hlt);rw[Array.getElem?_eq_getElem hlt']at h1;cases h1;exact h2
      have:=key _ 0 c c' hc rfl;simpa using this
     ·obtain⟨y',h1,h2⟩:=h (j+1) i' y (by simpa using hy);exact⟨y',by simpa using h1,h2⟩
theorem ah.build [bT] {t:TypeId} (hz:Hl P t=true) {ps:Array (Nat × Operand)} {ρ ρ':Operand->Value} (h:∀ p∈ps,VR R (ρ p.2) (ρ' p.2)) :
  ah P D VR R (Instr.build t (ps.map fun(i,x)=>(i,ρ x))) (Instr.build t (ps.map fun(i,x)=>(i,ρ' x))):=by
 have hl:∀ {R':BR},le R R'->∀ (j i:Nat) (v:Value),(ps.map fun(i,x)=>(i,ρ x)).toList[j]? = some (i,v)->∃ v':Value,(ps.map fun(i,x)=>(i,ρ' x)).toList[j]? = some (i,v')/\VR R' v v':=by
  intro R' hR j i v hj;simp only[Array.toList_map,List.getElem?_map]at hj |-;obtain⟨p,hp,he⟩:=Option.map_eq_some_iff.1 hj;obtain⟨i0,x⟩:=p;cases he;refine⟨ρ' x,by rw[hp];rfl,(h _ ?_).mono hR⟩;have:=List.mem_of_getElem? hp;simpa using this
 unfold Instr.build;refine ah.bind (ah.zeroValue hz) fun R1 h1 z z' hzz=>?_
 dsimp only;refine ah.then fun R2 h2 d=>?_
 cases d<;>try exact ah.halt
 case struct fields =>
  dsimp only;refine ah.bind (Φ:=fun _ a b=>a=b) ?_ fun R3 h3 pl pl' hpl=>?_
  ·have:Sr.iE (fields.mapM fun f=>do Pure.pure (f.offset,<- sizeOf f.type):Sem (Array (Nat × Nat))):=by
    rw[Array.mapM_eq_foldlM,<- Array.foldlM_toList];have key:∀ (l:List Field) (acc:Array (Nat × Nat)),Sr.iE (l.foldlM (fun bs a=>bs.push <$> (do Pure.pure (a.offset,<- sizeOf a.type):Sem (Nat × Nat))) acc:Sem (Array (Nat × Nat))):=by
     intro l
     induction l with
     |nil=>intro acc;rw[List.foldlM_nil];infer_instance
     |cons x l ih=>intro acc;rw[List.foldlM_cons];exact dB inferInstance fun b=>ih b
    exact key _ _
   exact ah.Wi
  ·subst hpl;rcases Ea (R:=R3) (place:=(pl[·]?)) _ _ z.cells z'.cells ((hzz.mono (le_trans h2 h3)).cells) (by simp) (hl (le_trans h1 (le_trans h2 h3))) with ⟨e1,e2⟩ | ⟨r,r',e1,e2,hr⟩
   ·rw[e1];exact ah.halt
   ·rw[e1,e2];exact ah.pure (.Kr hr)
 case array n elem =>
  dsimp only;refine ah.then fun R3 h3 m=>?_
  rcases Ea (R:=R3) (place:=fun i=>some (i * m,m)) _ _ z.cells z'.cells ((hzz.mono (le_trans h2 h3)).cells) (by simp) (hl (le_trans h1 (le_trans h2 h3)))with⟨e1,e2⟩|⟨r,r',e1,e2,hr⟩
  ·rw[e1];exact ah.halt
  ·rw[e1,e2];exact ah.pure (.Kr hr)
theorem ah.unsafeAdd [bT] (h:AR R a a') (hy:VR R y y'):ah P D (fun R' x x'=>∃ b b',x=.pointer (some b)/\x'=.pointer (some b')/\AR R' b b') R (Builtin.unsafeAdd_ #[] t #[.pointer (some a),y]) (Builtin.unsafeAdd_ #[] t #[.pointer (some a'),y']):=by
 show ah P D _ R (Go.asInt y >>= _) (Go.asInt y' >>= _);have hai:ah P D (fun _ x y=>x=y) R (Go.asInt y) (Go.asInt y'):=by
  unfold Go.asInt;exact ah.bind (VR.asIntOf hy) fun R1 _ x y hxy=>by subst hxy;exact ah.pure rfl
 refine ah.bind hai fun R1 h1 n n' hn=>?_
 subst hn;have hmove:∀ (R2:BR),le R1 R2->ah P D (fun R' x x'=>∃ b b',x=.pointer (some b)/\x'=.pointer (some b')/\AR R' b b') R2
   (do
    let some (e,cells) <- Go.shape a.block | unsupported (.unsafePointer "Add")
    let p <- Go.program
    match cellAtBytes p p.depth e (cells / p.cellsOf e) a.off n with
    |some off=>Pure.pure (.pointer (some {a with off}))
    | none=>unsupported (.unsafePointer "Add"):Sem Value)
   (do
    let some (e,cells) <- Go.shape a'.block | unsupported (.unsafePointer "Add")
    let p <- Go.program
    match cellAtBytes p p.depth e (cells / p.cellsOf e) a'.off n with
    |some off=>Pure.pure (.pointer (some {a' with off}))
    | none=>unsupported (.unsafePointer "Add"):Sem Value):=by
  intro R2 h2;refine ah.bind (ah.shape ((h.mono (le_trans h1 h2)).1)) fun R3 h3 x y hxy=>?_
  subst hxy;cases x with
  |none=>exact ah.halt
  |some en =>
   obtain⟨e,cells⟩:=en;dsimp only;refine ah.bind ah.program fun R4 h4 p q hpq=>?_
   obtain⟨rfl,rfl⟩:=hpq;rw[h.2.1];split
   ·exact ah.pure ⟨_,_,rfl,rfl,(h.mono (le_trans h1 (le_trans h2 (le_trans h3 h4)))).1,rfl,h.2.2⟩
   ·exact ah.halt
 by_cases h0:n=0
 ·simp only [h0,if_true];refine ah.bind (ah.viewAt (h1 _ _ h.1)) fun R2 h2 x y hxy=>?_
  obtain⟨rfl,rfl⟩:=hxy;exact ah.pure ⟨a,a',rfl,rfl,h.mono (le_trans h1 h2)⟩
 ·simp only [h0,if_false];by_cases hn:n < 0
  ·simp only[hn,if_true];exact ah.halt
  ·simp only[hn,if_false];exact hmove R1 (le_refl _)
def IsInt (P:Program) (t:TypeId):Prop:=∃ k,P.underlying t=some (.int k)
theorem ah.movedNumber [bT] (ht:IsInt P t) (h:AR R a a') (hy:VR R y y'):ah P D VR R (Go.movedNumber t (.pointer (some a)) y) (Go.movedNumber t (.pointer (some a')) y'):=by
 obtain⟨k,hk⟩:=ht;unfold Go.movedNumber;refine ah.Nw fun R1 h1 d hd=>?_
 rw[hk]at hd;cases hd;refine ah.bind (ah.behindNumber (h.mono h1)) fun R2 h2 x x' hx=>?_
 obtain⟨b,l⟩:=x;obtain⟨b',l'⟩:=x';obtain⟨hb,hl⟩:=hx;cases hl;refine ah.bind (ah.unsafeAdd hb (hy.mono (le_trans h1 h2))) fun R3 h3 x x' hx=>?_
 obtain⟨c,c',rfl,rfl,hc⟩:=hx;exact ah.asNumber hc
theorem ah.twoPlaces [bT] {Φ:BR->Nat × Nat->Nat × Nat->Prop} {b:Addr} (h:AR R a a') {s':Sem (Nat × Nat)}:ah P D Φ R (Op.twoPlaces a b) s':=by
 intro wl wa es hw x wl' hr;exfalso;have hg:=(hw.new _ _ h.1).1;unfold Op.twoPlaces at hr;rw[Sem.run_bind]at hr;have:(Go.program).run P wl=.ok P wl:=rfl;rw[this]at hr;have hc:(a.block != b.block || decide (a.block >= P.globals.size))=true:=by simp[hg]
 simp only[Result.andThen,hc,if_true]at hr;cases hr
theorem ah.addrMod [bT] {k:IntKind} {n:Int} (h:AR R a a'):ah P D VR R (Op.addrMod k a n) (Op.addrMod k a' n):=by
 unfold Op.addrMod;refine ah.bind (ah.shape h.1) fun R1 h1 x y hxy=>?_
 subst hxy;cases x with
 |none=>exact ah.halt
 | some en =>
  obtain⟨e,cells⟩:=en;dsimp only;refine ah.then fun R2 h2 i=>?_
  split
  ·exact ah.halt
  ·refine ah.bind (ah.byteOf (h.mono (le_trans h1 h2))) fun R3 _ x y hxy=>?_
   subst hxy;exact ah.pure VR.int
def isNum:Value->Bool
 |.int .. | .pointer (some _)=>true
 |_=>false
theorem VR.num [bT] (h:VR R x x') (hn:isNum x=true):(∃ k n,x=.int k n/\x'=.int k n)\/∃ a a',x=.pointer (some a)/\x'=.pointer (some a')/\AR R a a':=by
 cases h with
 |agg _=>cases hn
 | base h =>
  cases h with
  |func _ _=>cases hn
  | base h =>
   cases h with
   |slice _=>cases hn
   |chan _=>cases hn
   |ptr ha=>exact .inr ⟨_,_,rfl,rfl,ha⟩
   | flat hf =>
    cases x<;>first|exact .inl ⟨_,_,rfl,rfl⟩|(cases hn;done)|skip
    case pointer p =>
     cases p with
     |none=>cases hn
     |some _=>cases hf
def QI:BinOp->Bool
 |.add | .sub | .and | .or | .shl | .shr | .lss | .leq | .eql=>true
 |_=>false
theorem ah.Vr [bT] (ht:IsInt P t) (hx:VR R x x') (hy:VR R y y'):ah P D (fun _ a b=>a=b) R (Op.equal t x y) (Op.equal t x' y'):=by
 obtain⟨k,hk⟩:=ht;unfold Op.equal;show ah P D _ R (Op.equalIn (9999+1) t x y) (Op.equalIn (9999+1) t x' y');unfold Op.equalIn;refine ah.Nw fun R1 h1 d hd=>?_
 rw [hk] at hd;cases hd;have ptrptr:∀ {a a' b b':Addr},AR R a a'->AR R b b'->ah P D (fun _ a b=>a=b) R1
   (do
    let(a,b):=((<- Go.behindNumber a).1,(<- Go.behindNumber b).1)
    if a.block == b.block && a.block<(<- Go.program).globals.size then return (<- Go.byteOf a) == (<- Go.byteOf b)
    let .named "sync.copyChecker" _:=(<- typeInfo t).desc | unsupported .addressObserved
    if a == b then Pure.pure true else unsupported .addressObserved:Sem Bool)
   (do
    let(a,b):=((<- Go.behindNumber a').1,(<- Go.behindNumber b').1)
    if a.block == b.block && a.block<(<- Go.program).globals.size then return (<- Go.byteOf a) == (<- Go.byteOf b)
    let .named "sync.copyChecker" _:=(<- typeInfo t).desc | unsupported .addressObserved
    if a == b then Pure.pure true else unsupported .addressObserved:Sem Bool):=by
  intro a a' b b' ha hb;refine ah.bind (ah.behindNumber (ha.mono h1)) fun R2 h2 x x' hx=>?_
  refine ah.bind (ah.behindNumber (hb.mono (le_trans h1 h2))) fun R3 h3 y y' hy=>?_
  dsimp only;refine ah.bind ah.program fun R4 h4 p q hpq=>?_
  rw[hpq.1,hpq.2];have hxa:=(hx.1).mono (le_trans h3 h4);have hya:=(hy.1).mono h4;intro wl wa es hw r wl' hr;have g1:=hw.new _ _ hxa.1;have e1:(x.1.block == y.1.block && decide (x.1.block<P.globals.size))=false:=by simp;omega
  have e2:(x'.1.block == y'.1.block && decide (x'.1.block<P.globals.size))=false:=by simp;omega
  simp only[e1,Bool.false_eq_true,if_false]at hr;simp only[e2,Bool.false_eq_true,if_false];refine ah.bind (P:=P) (D:=D) (Φ:=fun _ a b=>a=b) (s:=typeInfo t) (s':=typeInfo t) ah.Wi (fun R5 h5 i i' hi=>?_) wl wa es hw r wl' hr;subst hi;split
  ·intro wl wa es hw r wl' hr;by_cases he:x.1=y.1
   ·have he':x'.1=y'.1:=by
     have hb1:=hw.fn _ _ _ (h5 _ _ hxa.1) (he ▸ h5 _ _ hya.1);have o1:=hxa.2;have o2:=hya.2;rw[he]at o1;cases hx1:x'.1;cases hy1:y'.1;rw[hx1,hy1]at hb1;rw[hx1]at o1;rw[hy1]at o2
     simp_all
    rw[if_pos (by simpa using he)]at hr;rw[if_pos (by simpa using he')];exact ah.pure (P:=P) (D:=D) (Φ:=fun _ a b=>a=b) rfl wl wa es hw r wl' hr
   ·rw[if_neg (by simpa using he)]at hr;cases hr
  ·exact ah.halt
 by_cases hxn:isNum x=true
 ·by_cases hyn:isNum y=true
  ·have hx':=VR.num hx hxn;have hy':=VR.num hy hyn;rcases hx' with ⟨k1,n,rfl,rfl⟩ | ⟨a,a',rfl,rfl,ha⟩
   ·rcases hy' with ⟨k2,m,rfl,rfl⟩ | ⟨b,b',rfl,rfl,hb⟩
    ·show ah P D _ R1 (if k1=k2 then Pure.pure (n == m) else stuck _) (if k1=k2 then Pure.pure (n == m) else stuck _);split
     ·exact ah.pure rfl
     ·exact ah.halt
    ·by_cases hn:n=0
     ·subst hn;exact ah.pure rfl
     ·split<;>first|exact ah.halt|contradiction|(simp_all;done)
   ·rcases hy' with ⟨k2,m,rfl,rfl⟩ | ⟨b,b',rfl,rfl,hb⟩
    ·by_cases hn:m=0
     ·subst hn;exact ah.pure rfl
     ·split<;>first|exact ah.halt|contradiction|(simp_all;done)
    ·exact ptrptr ha hb
  ·clear hy hx ptrptr;cases x <;> first | (cases hxn;done) | skip
   case int k1 n =>
    cases y<;>first|exact(hyn rfl).elim|(split<;>first|exact ah.halt|contradiction)|skip
    case pointer p =>
     cases p with
     |some b=>exact(hyn rfl).elim
     |none=>split<;>first|exact ah.halt|contradiction|(simp_all;done)
   case pointer p =>
    cases p with
    |none=>cases hxn
    |some a=>cases y<;>first|exact ah.halt|exact(hyn rfl).elim|(rename_i b;cases b<;>first|exact ah.halt|exact(hyn rfl).elim)
 ·clear hy hx ptrptr;cases x <;> first | exact (hxn rfl).elim | (cases y <;> first | exact ah.halt | (rename_i b;cases b <;> exact ah.halt)) | skip
  case pointer p =>
   cases p with
   |some a=>exact(hxn rfl).elim
   |none=>cases y<;>first|exact ah.halt|(rename_i b;cases b<;>exact ah.halt)
end
section
variable {t:TypeId} {a b x x' y y':Value} {w w':World} {o:BinOp} {ats:Array TypeId} {args args':Array Value}
variable {P:Program} {D:Nat->Prop} {α β:Type} {R:BR}
theorem ah.KZ [bT] {Φ:BR->α->β->Prop} {s:Sem α} {s':Sem β} (h:∀ w a w',s.run P w≠.ok a w'):ah P D Φ R s s':=fun _ _ _ _ _ _ hr=>(h _ _ _ hr).elim
theorem uH.mono {Q Q':α->Prop} (h:∀ a,Q a->Q' a) {s:Sem α} (x:uH P Q s):uH P Q' s:=by
 have:=uH.bind (f:=fun a=>(Pure.pure a:Sem α)) (Q':=Q') (fun a ha=>h a ha) x;have e:∀ s:Sem α,s >>= (fun a=>(Pure.pure a:Sem α))=s:=by
  intro s;show Sem.bind s (fun a=>Sem.pure a)=s
  induction s with
  |pure a=>rfl
  |halt _=>rfl
  |load m a k ih=>simp only[Sem.bind,ih]
  |store m a v k ih=>simp only[Sem.bind,ih]
  |new o k ih=>simp only[Sem.bind,ih]
  |shape r k ih=>simp only[Sem.bind,ih]
  |freeze a n k ih=>simp only[Sem.bind,ih]
  |frozen a k ih=>simp only[Sem.bind,ih]
  |getObj r k ih=>simp only[Sem.bind,ih]
  |setObj r o k ih=>simp only[Sem.bind,ih]
  |choose q k ih=>simp only[Sem.bind,ih]
  |sys c k ih=>simp only[Sem.bind,ih]
  |program k ih=>simp only[Sem.bind,ih]
  |mark m k ih=>simp only[Sem.bind,ih]
 rw[e]at this;exact this
theorem wH {s:Sem Value} (h:nM s):iE s:=⟨fun P=>uH.mono (fun _ _=>trivial) (h.t P)⟩
instance {o:BinOp} {k:FloatKind} {x y:Nat}:iE (Op.Complex.arith o k x y):=by
 unfold Op.Complex.arith;refine dB (wH inferInstance) fun v=>?_
 split<;>infer_instance
instance {o:BinOp} {k:FloatKind} {x y:Nat}:iE (Op.Complex.cmp o k x y):=by
 unfold Op.Complex.cmp;exact dB (wH inferInstance) fun v=>inferInstance
instance {m:String}:nM (runtimePanic (.error m):Sem Value):=⟨fun _=>trivial⟩
instance {o:BinOp} {k k':IntKind} {x y:Int}:nM (Op.shift o k x k' y):=by
 unfold Op.shift;split
 ·infer_instance
 ·dsimp only;split<;>infer_instance
theorem MG:(Builtin.unsafeAdd_ #[] t #[.pointer none,y]).run P w≠.ok a w':=by
 intro hr;change ((Go.asInt y) >>= _).run P w=_ at hr;rw[Sem.run_bind]at hr;cases ha:(Go.asInt y).run P w with
 |halt h w1=>rw[ha]at hr;cases hr
 | ok n w1 =>
  rw[ha]at hr;simp only[Result.andThen_ok]at hr;by_cases h0:n=0
  ·simp only[h0,if_true]at hr;cases hr
  ·simp only [h0,if_false] at hr;by_cases h1:n < 0
   ·simp only[h1,if_true]at hr;cases hr
   ·simp only[h1,if_false]at hr;cases hr
theorem vT [bT] (ht:IsInt P t)   :(Go.movedNumber t (.pointer none) y).run P w≠.ok a w':=by
 obtain⟨k,hk⟩:=ht;intro hr;unfold Go.movedNumber Go.underlying at hr;simp only[Sem.run_bind,run_program,Result.andThen_ok,hk,Sem.run_pure,Bool.false_eq_true,if_false]at hr;exact MG hr
theorem sZ [bT] (ht:IsInt P t) {Φ:BR->Value->β->Prop} {s':Sem β}:ah P D Φ R (Go.movedNumber t (.pointer none) y) s':=ah.KZ fun _ _ _=>vT ht
theorem yQ [bT] (ht:IsInt P t) {Φ:BR->Value->β->Prop} {s':Sem β}:ah P D Φ R (do if (<- Go.underlying t) matches .unsafePointer then Go.movedPointer t (.pointer none) y else Go.movedNumber t (.pointer none) y) s':=by
 have ht':=ht;obtain⟨k,hk⟩:=ht;refine ah.KZ fun w a w' hr=>?_
 unfold Go.underlying at hr;simp only[Sem.run_bind,run_program,Result.andThen_ok,hk,Sem.run_pure,Bool.false_eq_true,if_false]at hr;exact vT ht' hr
theorem VR.nY [bT] {v v':Value} (h:VR R v v') (hf:flat v=true):v'=v:=by
 cases h with
 |agg _=>cases hf
 | base h =>
  cases h with
  |func _ _=>cases hf
  |base h =>
   cases h with
   |flat _=>rfl
   |ptr _=>cases hf
   |slice _=>cases hf
   |chan _=>cases hf
def other:Value->Value->Bool
 |.int ..,.int .. | .float ..,.float .. | .complex ..,.complex .. | .string _,.string _=>false
 |_,_=>true
theorem binOp_eql (h:other x y=true):Go.binOp .eql t x y=(do Pure.pure (.bool (<- Op.equal t x y)):Sem Value):=by
 cases x<;>cases y<;>first|rfl|cases h
theorem VR.other [bT] (hx:VR R x x') (hy:VR R y y'):Sr.other x' y'=Sr.other x y:=by
 have key:∀ {v v':Value},VR R v v'->v'=v\/((∀ z,Sr.other v z=true)/\(∀ z,Sr.other v' z=true)/\(∀ z,Sr.other z v=true)/\(∀ z,Sr.other z v'=true)):=by
  intro v v' h;cases h with
  |agg _=>exact .inr ⟨fun z=>by cases z<;>rfl,fun z=>by cases z<;>rfl,fun z=>by cases z<;>rfl,fun z=>by cases z<;>rfl⟩
  | base h =>
   cases h with
   |func _ _=>exact .inr ⟨fun z=>by cases z<;>rfl,fun z=>by cases z<;>rfl,fun z=>by cases z<;>rfl,fun z=>by cases z<;>rfl⟩
   |base h =>
    cases h with
    |flat _=>exact .inl rfl
    |ptr _=>exact .inr ⟨fun z=>by cases z<;>rfl,fun z=>by cases z<;>rfl,fun z=>by cases z<;>rfl,fun z=>by cases z<;>rfl⟩
    |slice _=>exact .inr ⟨fun z=>by cases z<;>rfl,fun z=>by cases z<;>rfl,fun z=>by cases z<;>rfl,fun z=>by cases z<;>rfl⟩
    |chan _=>exact .inr ⟨fun z=>by cases z<;>rfl,fun z=>by cases z<;>rfl,fun z=>by cases z<;>rfl,fun z=>by cases z<;>rfl⟩
 rcases key hx with rfl|⟨h1,h2,h3,h4⟩
 ·rcases key hy with rfl | ⟨k1,k2,k3,k4⟩
  ·rfl
  ·rw[k3,k4]
 ·rw[h1,h2]
theorem X3 [bT] (ho:QI o=true) (h:Sr.other x y=false):nM (Go.binOp o t x y):=by
 cases x<;>cases y<;>first|(cases h;done)|skip
 all_goals (unfold Go.binOp;cases o<;>first|(cases ho;done)|skip)
 all_goals dsimp only
 all_goals first
  |infer_instance
  |exact dV inferInstance inferInstance
  |(refine dV inferInstance ?_;unfold Op.complexOp;dsimp only;infer_instance)
theorem ah.DJ [bT] (ht:IsInt P t) (ho:QI o=true) (hoe:o≠.eql) {s':Sem Value}
 (hn:¬ (isNum x=true/\isNum y=true)) (hot:Sr.other x y=true):ah P D VR R (Go.binOp o t x y) s':=by
 unfold Go.binOp;cases o<;>first|(cases ho;done)|exact(hoe rfl).elim|skip
 all_goals
  cases x
  case pointer p =>
   cases p<;>cases y<;>first|exact ah.halt|exact(hn ⟨rfl,rfl⟩).elim|exact sZ ht|exact yQ ht|(rename_i q;cases q<;>first|exact ah.halt|exact(hn ⟨rfl,rfl⟩).elim|exact sZ ht|exact yQ ht)
  all_goals (cases y<;>first|exact ah.halt|(cases hot;done)|exact sZ ht|exact yQ ht|(rename_i q;cases q<;>first|exact ah.halt|exact(hn ⟨rfl,rfl⟩).elim|exact sZ ht|exact yQ ht))
theorem ah.binOp [bT] (ht:IsInt P t) (ho:QI o=true) (hx:VR R x x') (hy:VR R y y'):ah P D VR R (Go.binOp o t x y) (Go.binOp o t x' y'):=by
 have heq:∀ {a a' b b':Value},VR R a a'->VR R b b'->ah P D VR R (do Pure.pure (.bool (<- Op.equal t a b)):Sem Value) (do Pure.pure (.bool (<- Op.equal t a' b')):Sem Value):=by
  intro a a' b b' ha hb;refine ah.bind (ah.Vr ht ha hb) fun R1 _ u v huv=>?_
  subst huv;exact ah.pure VR.bool
 by_cases hot:Sr.other x y=true;rotate_left
 ·have hot:Sr.other x y=false:=by simpa using hot
  have hxy:x'=x/\y'=y:=by
   cases x<;>cases y<;>first|(cases hot;done)|exact⟨hx.nY rfl,hy.nY rfl⟩
  rw[hxy.1,hxy.2];exact ah.Oe (h:=X3 ho hot)
 by_cases hoe:o=.eql
 ·subst hoe;rw[binOp_eql hot,binOp_eql (by rw[hx.other hy];exact hot)];exact heq hx hy
 by_cases hxn:isNum x=true
 ·by_cases hyn:isNum y=true
  ·rcases VR.num hx hxn with ⟨k1,n,rfl,rfl⟩ | ⟨a,a',rfl,rfl,ha⟩
   ·rcases VR.num hy hyn with ⟨k2,m,rfl,rfl⟩ | ⟨b,b',rfl,rfl,hb⟩
    ·unfold Go.binOp;cases o <;> first | (cases ho;done) | skip
     all_goals dsimp only
     all_goals first|exact ah.Oe|((try dsimp only);split<;>first|exact ah.halt|exact ah.Oe|(unfold Op.complexOp;dsimp only;exact ah.Oe))
    ·unfold Go.binOp;cases o <;> first | (cases ho;done) | exact ah.halt | exact heq hx hy | skip
     case add=>exact ah.movedNumber ht hb VR.int
     case and=>exact ah.bind (ah.behindNumber hb) fun R1 _ u v huv=>ah.addrMod huv.1
   ·rcases VR.num hy hyn with ⟨k2,m,rfl,rfl⟩ | ⟨b,b',rfl,rfl,hb⟩
    ·unfold Go.binOp;cases o <;> first | (cases ho;done) | exact ah.halt | exact heq hx hy | skip
     case add =>
      refine ah.Nw fun R1 h1 d hd=>?_
      obtain⟨k,hk⟩:=ht;rw[hk]at hd;cases hd;exact ah.movedNumber ⟨k,hk⟩ (ha.mono h1) VR.int
     case sub=>exact ah.movedNumber ht ha VR.int
     case and=>exact ah.bind (ah.behindNumber ha) fun R1 _ u v huv=>ah.addrMod huv.1
    ·unfold Go.binOp;cases o <;> first | (cases ho;done) | exact ah.halt | exact heq hx hy | skip
     case sub =>
      refine ah.bind (ah.behindNumber ha) fun R1 h1 u v huv=>?_
      refine ah.bind (ah.behindNumber (hb.mono h1)) fun R2 h2 u2 v2 huv2=>?_
      exact ah.bind (Φ:=fun _ _ _=>False) (ah.twoPlaces (huv.1.mono h2)) fun _ _ _ _ h=>h.elim
     case lss =>
      refine ah.bind (ah.behindNumber ha) fun R1 h1 u v huv=>?_
      refine ah.bind (ah.behindNumber (hb.mono h1)) fun R2 h2 u2 v2 huv2=>?_
      exact ah.bind (Φ:=fun _ _ _=>False) (ah.twoPlaces (huv.1.mono h2)) fun _ _ _ _ h=>h.elim
     case leq =>
      refine ah.bind (ah.behindNumber ha) fun R1 h1 u v huv=>?_
      refine ah.bind (ah.behindNumber (hb.mono h1)) fun R2 h2 u2 v2 huv2=>?_
      exact ah.bind (Φ:=fun _ _ _=>False) (ah.twoPlaces (huv.1.mono h2)) fun _ _ _ _ h=>h.elim
  ·exact ah.DJ ht ho hoe (fun h=>hyn h.2) hot
 ·exact ah.DJ ht ho hoe (fun h=>hxn h.1) hot
theorem ah.abg [bT] {Φ:BR->α->β->Prop} {c:Prop} [Decidable c] {a b:Sem α} {a' b':Sem β} (h1:ah P D Φ R a a') (h2:ah P D Φ R b b'):ah P D Φ R (if c then a else b) (if c then a' else b'):=by split<;>assumption
theorem Bc [bT] (ht:IsInt P t) :ah P D (fun _ a b=>a=false/\b=false) R (Op.eqGuardIn Op.maxDepth t x y) (Op.eqGuardIn Op.maxDepth t x' y'):=by
 obtain⟨k,hk⟩:=ht;show ah P D _ R (Op.eqGuardIn (9999+1) t x y) (Op.eqGuardIn (9999+1) t x' y');unfold Op.eqGuardIn;refine ah.Nw fun R1 h1 d hd=>?_
 rw[hk]at hd;cases hd;exact ah.pure ⟨rfl,rfl⟩
def guarded:Value->Value->Bool
 |.nilIface,.nilIface | .agg _,.agg _=>true
 |_,_=>false
theorem Fj {x y:Operand} (h:guarded a b=false):Go.eqGuard o t x y a b=Pure.pure ():=by
 unfold Go.eqGuard;cases o<;>first|rfl|(cases a<;>cases b<;>first|rfl|cases h)
theorem ah.eqGuard [bT] (ht:IsInt P t) {x y:Operand} {a' b':Value} (ha:VR R a a') (hb:VR R b b'):ah P D (fun _ _ _=>True) R (Go.eqGuard o t x y a b) (Go.eqGuard o t x y a' b'):=by
 have agg:∀ c d c' d',ah P D (fun _ _ _=>True) R (Go.eqGuard o t x y (.agg c) (.agg d)) (Go.eqGuard o t x y (.agg c') (.agg d')):=by
  intro c d c' d';unfold Go.eqGuard;cases o<;>first|exact ah.pure trivial|skip
  all_goals
   simp only[Bool.not_true,Bool.false_eq_true,if_false];refine ah.bind ah.program fun R1 _ p q hpq=>?_
   refine ah.bind ah.program fun R1 _ p2 q2 hpq2=>?_
   rw[hpq.1,hpq.2,hpq2.1,hpq2.2];split
   ·exact ah.pure trivial
   ·refine ah.bind (Bc ht) fun R2 _ u v huv=>?_
    obtain⟨rfl,rfl⟩:=huv;exact ah.pure trivial
 by_cases hg:guarded a b=true
 ·cases a <;> cases b <;> first | (cases hg;done) | skip
  case agg c d =>
   cases ha with
   |agg _ =>
    cases hb with
    |agg _=>exact agg _ _ _ _
    |base h=>cases h with|base h=>cases h with|flat h=>cases h
   |base h=>cases h with|base h=>cases h with|flat h=>cases h
  case nilIface =>
   rw[ha.nY rfl,hb.nY rfl];unfold Go.eqGuard;cases o<;>first|exact ah.pure trivial|skip
   all_goals
    simp only[Bool.not_true,Bool.false_eq_true,if_false];refine ah.abg (ah.pure trivial) ?_;refine ah.bind (Bc ht) fun R2 _ u v huv=>?_
    obtain⟨rfl,rfl⟩:=huv;exact ah.pure trivial
 ·have hg:guarded a b=false:=by simpa using hg
  have hg':guarded a' b'=false:=by
   have key:∀ {v v':Value},VR R v v'->(v'=v)\/((∃ c c',v=.agg c/\v'=.agg c')\/((∀ z,guarded v z=false)/\(∀ z,guarded v' z=false)/\(∀ z,guarded z v=false)/\(∀ z,guarded z v'=false))):=by
    intro v v' h;cases h with
    |agg _=>exact .inr (.inl ⟨_,_,rfl,rfl⟩)
    | base h =>
     cases h with
     |func _ _=>exact .inr (.inr ⟨fun z=>by cases z<;>rfl,fun z=>by cases z<;>rfl,fun z=>by cases z<;>rfl,fun z=>by cases z<;>rfl⟩)
     |base h =>
      cases h with
      |flat _=>exact .inl rfl
      |ptr _=>exact .inr (.inr ⟨fun z=>by cases z<;>rfl,fun z=>by cases z<;>rfl,fun z=>by cases z<;>rfl,fun z=>by cases z<;>rfl⟩)
      |slice _=>exact .inr (.inr ⟨fun z=>by cases z<;>rfl,fun z=>by cases z<;>rfl,fun z=>by cases z<;>rfl,fun z=>by cases z<;>rfl⟩)
      |chan _=>exact .inr (.inr ⟨fun z=>by cases z<;>rfl,fun z=>by cases z<;>rfl,fun z=>by cases z<;>rfl,fun z=>by cases z<;>rfl⟩)
   rcases key ha with rfl|⟨c,c',rfl,rfl⟩|⟨h1,h2,h3,h4⟩
   ·rcases key hb with rfl | ⟨c,c',rfl,rfl⟩ | ⟨k1,k2,k3,k4⟩
    ·exact hg
    ·cases a'<;>first|rfl|cases hg
    ·exact k4 _
   ·rcases key hb with rfl | ⟨d,d',rfl,rfl⟩ | ⟨k1,k2,k3,k4⟩
    ·cases b'<;>first|rfl|cases hg
    ·cases hg
    ·exact k4 _
   ·exact h2 _
  rw[Fj hg,Fj hg'];exact ah.pure trivial
theorem ah.unary [bT] {o:UnOp} (h:VR R x x'):ah P D VR R (Op.unary o x) (Op.unary o x'):=by
 by_cases hf:flat x=true
 ·rw[h.nY hf];refine ah.Oe (h:=?_);unfold Op.unary;cases o<;>cases x<;>first|infer_instance|(rename_i p;cases p<;>infer_instance)
 ·unfold Op.unary;cases o<;>cases x<;>first|exact ah.halt|exact(hf rfl).elim|(rename_i p;cases p<;>first|exact ah.halt|exact(hf rfl).elim)
theorem ah.len [bT] (ht:∀ ty,ats[0]? = some ty->∃ e,P.underlying ty=some (.slice e)) (h:AF (VR R) args args'):ah P D VR R (Builtin.len_ ats t args) (Builtin.len_ ats t args'):=by
 unfold Builtin.len_;cases hty:ats[0]? with
 |none=>exact ah.halt
 | some ty =>
  rcases h.get? 0 with⟨e1,e2⟩|⟨x,x',e1,e2,hx⟩
  ·rw[e1];exact ah.halt
  ·rw [e1,e2];refine ah.Nw fun R1 h1 d hd=>?_
   obtain⟨e,he⟩:=ht ty hty;rw[he]at hd;cases hd;cases hx with
   |agg _=>exact ah.halt
   | base h =>
    cases h with
    |func _ _=>exact ah.halt
    |base h =>
     cases h with
     |ptr _=>exact ah.halt
     |chan _=>exact ah.halt
     |slice _=>exact ah.pure VR.int
     |flat hf=>cases x<;>first|exact ah.halt|exact ah.pure VR.int
theorem ah.min2 [bT] (hx:VR R x x') (hy:VR R y y'):ah P D VR R (Builtin.min2 x y) (Builtin.min2 x' y'):=by
 by_cases hot:Sr.other x y=false
 ·have hxy:x'=x/\y'=y:=by
   cases x<;>cases y<;>first|(cases hot;done)|exact⟨hx.nY rfl,hy.nY rfl⟩
  rw[hxy.1,hxy.2];refine ah.Oe (h:=?_);cases x<;>cases y<;>first|(cases hot;done)|skip
  all_goals unfold Builtin.min2;dsimp only
  all_goals first|infer_instance|skip
  ·split<;>infer_instance
  ·exact dD (wH inferInstance) fun v=>dD inferInstance fun b=>inferInstance
 ·unfold Builtin.min2;cases x
  case pointer p=>cases p<;>cases y<;>first|exact ah.halt|(rename_i q;cases q<;>exact ah.halt)
  all_goals (cases y<;>first|exact ah.halt|exact(hot rfl).elim|(rename_i q;cases q<;>first|exact ah.halt|exact(hot rfl).elim))
theorem ah.max2 [bT] (hx:VR R x x') (hy:VR R y y'):ah P D VR R (Builtin.max2 x y) (Builtin.max2 x' y'):=by
 by_cases hot:Sr.other x y=false
 ·have hxy:x'=x/\y'=y:=by
   cases x<;>cases y<;>first|(cases hot;done)|exact⟨hx.nY rfl,hy.nY rfl⟩
  rw[hxy.1,hxy.2];refine ah.Oe (h:=?_);cases x<;>cases y<;>first|(cases hot;done)|skip
  all_goals unfold Builtin.max2;dsimp only
  all_goals first|infer_instance|skip
  ·split<;>infer_instance
  ·exact dD (wH inferInstance) fun v=>dD inferInstance fun b=>inferInstance
 ·unfold Builtin.max2;cases x
  case pointer p=>cases p<;>cases y<;>first|exact ah.halt|(rename_i q;cases q<;>exact ah.halt)
  all_goals (cases y<;>first|exact ah.halt|exact(hot rfl).elim|(rename_i q;cases q<;>first|exact ah.halt|exact(hot rfl).elim))
theorem ah.fold [bT] {f:Value->Value->Sem Value} (hf:∀ {R:BR} {x x' y y':Value},VR R x x'->VR R y y'->ah P D VR R (f x y) (f x' y')):∀ (l l':List Value) {R:BR} (x x':Value),VR R x x'->l'.length=l.length->(∀ (j:Nat) (v:Value),l[j]? = some v->∃ v':Value,l'[j]? = some v'/\VR R v v')->ah P D VR R (l.foldlM f x) (l'.foldlM f x')
 | [],l',R,x,x',hx,hl,_=>by
  cases l' with
  |nil=>rw[List.foldlM_nil,List.foldlM_nil];exact ah.pure hx
  |cons _ _=>simp at hl
 | v::l,l',R,x,x',hx,hl,h=>by
  cases l' with
  |nil=>simp at hl
  |cons v' l' =>
   rw[List.foldlM_cons,List.foldlM_cons];obtain⟨y,h1,h2⟩:=h 0 v rfl;cases h1;refine ah.bind (hf hx h2) fun R1 hR z z' hz=>?_
   refine ah.fold hf l l' z z' hz (by simpa using hl) fun j u hu=>?_
   obtain⟨u',h3,h4⟩:=h (j+1) u (by simpa using hu);exact⟨u',by simpa using h3,h4.mono hR⟩
theorem AF.list [bT] {c c':Array Value} (h:AF (VR R) c c'):(c.toList=[]/\c'.toList=[])\/∃ x x' l l',c.toList=x::l/\c'.toList=x'::l'/\VR R x x'/\l'.length=l.length/\(∀ (j:Nat) (v:Value),l[j]? = some v->∃ v':Value,l'[j]? = some v'/\VR R v v'):=by
 obtain⟨c⟩:=c;obtain⟨c'⟩:=c';have hs:c'.length=c.length:=by simpa using h.1
 cases c with
 |nil=>cases c' with
  |nil=>exact .inl ⟨rfl,rfl⟩
  |cons _ _=>simp at hs
 | cons x l=>cases c' with
  |nil=>simp at hs
  |cons x' l' =>
   refine .inr ⟨x,x',l,l',rfl,rfl,?_,by simpa using hs,fun j v hv=>?_⟩
   ·obtain⟨y,h1,h2⟩:=h.2 0 x (by simp);simp at h1;subst h1;exact h2
   ·obtain⟨y,h1,h2⟩:=h.2 (j+1) v (by simpa using hv);exact⟨y,by simpa using h1,h2⟩
theorem ah.min [bT] (h:AF (VR R) args args'):ah P D VR R (Builtin.min_ ats t args) (Builtin.min_ ats t args'):=by
 unfold Builtin.min_;rcases h.list with⟨e1,e2⟩|⟨x,x',l,l',e1,e2,h1,h2,h3⟩
 ·rw[e1];exact ah.halt
 ·rw[e1,e2];exact ah.fold ah.min2 l l' x x' h1 h2 h3
theorem ah.max [bT] (h:AF (VR R) args args'):ah P D VR R (Builtin.max_ ats t args) (Builtin.max_ ats t args'):=by
 unfold Builtin.max_;rcases h.list with⟨e1,e2⟩|⟨x,x',l,l',e1,e2,h1,h2,h3⟩
 ·rw[e1];exact ah.halt
 ·rw[e1,e2];exact ah.fold ah.max2 l l' x x' h1 h2 h3
end
def kR [bT]:Operand->Bool
 |.tmp _=>true
 |.func f=>bT.ok f
 |.const v=>flat v
 |.global _=>false
def Ox (P:Program) (t:TypeId):Bool :=
 match P.underlying t with
 |some (.int _)=>true
 |_=>false
def Fg (P:Program) (t:TypeId):Bool :=
 match P.underlying t with
 |some (.slice _)=>true
 |_=>false
def CY [bT] (P:Program) (c:Call):Bool :=
 c.args.all kR && match c.callee with
 |.builtin .len=>(c.argTypes[0]?).all (Fg P)
 |.builtin .min | .builtin .max=>true
 |.value f=>kR f
 |_=>false
def okW [bT] (P:Program):Op->Bool
 |.move x | .assign x | .box _ x | .load _ x | .nilCheck x | .unOp _ _ x | .fieldAddr _ x _=>kR x
 |.pick c a b=>kR c && kR a && kR b
 |.alloc t=>Hl P t
 |.build t ps=>Hl P t && ps.all fun p=>kR p.2
 |.store _ a x=>kR a && kR x
 |.binOp o t x y _=>QI o && Ox P t && kR x && kR y
 |.makeFunc (.func f) a c=>bT.ok f && (a.all kR && c.all kR)
 |.indexAddr _ x i=>kR x && kR i
 |.call c=>CY P c
 |_=>false
inductive NR [bT] (R:BR):Next->Next->Prop
 |value {v v':Value}:VR R v v'->NR R (.value v) (.value v')
 |skip:NR R .skip .skip
 |enter {f:FuncId} {a a':Array Value}:bT.ok f=true->AF (VR R) a a'->NR R (.enter f a) (.enter f a')
def XD [bT] (P:Program):Prop:=∀ f,bT.ok f=true->∃ fn,P.funcs[f]? = some fn/\fn.body.isSome=true/\(fn.name == "runtime.NumGoroutine")=false
section
variable {t:TypeId} {ρ ρ':Operand->Value} {f:FuncId} {a a':Array Value}
variable {P:Program} {D:Nat->Prop} {α β:Type} {R:BR}
theorem ah.value [bT] {s s':Sem Value} (h:ah P D VR R s s'):ah P D NR R (do Pure.pure (.value (<- s)):Sem Next) (do Pure.pure (.value (<- s')):Sem Next) :=
 ah.bind h fun _ _ _ _ hv=>ah.pure (.value hv)
theorem ah.skip [bT] {Φ:BR->Unit->Unit->Prop} {s s':Sem Unit} (h:ah P D Φ R s s'):ah P D NR R (do s;Pure.pure .skip:Sem Next) (do s';Pure.pure .skip:Sem Next) :=
 ah.bind h fun _ _ _ _ _=>ah.pure .skip
theorem ak2 (h:Ox P t=true):IsInt P t:=by
 unfold Ox at h;split at h
 ·exact⟨_,by assumption⟩
 ·cases h
def X8 [bT] (R:BR) (ρ ρ':Operand->Value):Prop:=∀ x,kR x=true->VR R (ρ x) (ρ' x)
theorem AF.Ik [bT] (he:X8 R ρ ρ') {l:Array Operand} (h:l.all kR=true):AF (VR R) (l.map ρ) (l.map ρ'):=by
 rw[Array.all_eq_true]at h;exact AF.map l fun x hx=>by
  obtain⟨i,hi,rfl⟩:=Array.mem_iff_getElem.1 hx;exact he _ (h i hi)
theorem ah.callFunc [bT] (hS:XD P) (hf:bT.ok f=true) (h:AF (VR R) a a'):ah P D NR R (Go.callFunc f a) (Go.callFunc f a'):=by
 obtain⟨fn,h1,h2,h3⟩:=hS f hf;unfold Go.callFunc;refine ah.bind ah.program fun R1 hR p q hpq=>?_
 rw[hpq.1,hpq.2,h1];dsimp only;rw[h3];have h4:fn.body.isNone=false:=by cases hb:fn.body<;>simp_all
 simp only[h4,Bool.false_eq_true,if_false];exact ah.pure (.enter hf (h.mono fun _ _=>VR.mono hR))
theorem ah.makeFunc [bT] (hf:bT.ok f=true) {c c':Array Value} (ha:AF (VR R) a a') (hc:AF (VR R) c c'):ah P D VR R (Instr.makeFunc (.func f) a c) (Instr.makeFunc (.func f) a' c') :=
 ah.pure (.base (.Ol hf ha hc))
def UE (v:Value):Sem Next :=
 match v with
 |.pointer none | .nilIface | .nilFunc=>runtimePanic .nilDeref
 | .func (.method name) first captured =>
  match (first[0]? : Option Value)with
  |some .nilIface=>runtimePanic .nilDeref
  | some (.iface t w)=>do
   if (<- nilAhead ((<- Go.program).types.size+Made.depth) t w name) != some false then
    unsupported (.noEntry "op/nilCheck.the method's receiver behind this interface value is a nil pointer, or cannot be seen to be none, and the arguments act or may panic (ledger 612)")
   Pure.pure (.value (.func (.method name) first captured))
  |_=>Pure.pure (.value (.func (.method name) first captured))
 |x=>Pure.pure (.value x)
theorem ah.nilCheck [bT] {v v':Value} (h:VR R v v'):ah P D NR R (UE v) (UE v'):=by
 have pan:∀ {s':Sem Next},ah P D NR R (runtimePanic .nilDeref:Sem Next) s':=by
  intro s';refine ah.KZ fun w a w' hr=>?_
  unfold runtimePanic at hr;simp[Sem.run_bind,goPanic,Sem.run]at hr
 cases h with
 |agg h h'=>exact ah.pure (.value (.agg h h'))
 | base h =>
  cases h with
  |func h0 h1 h2 h3 h4=>exact ah.pure (.value (.base (.func h0 h1 h2 h3 h4)))
  | base h =>
   cases h with
   |ptr h=>exact ah.pure (.value (.base (.base (.ptr h))))
   |slice h=>exact ah.pure (.value (.base (.base (.slice h))))
   |chan h=>exact ah.pure (.value (.base (.base (.chan h))))
   |flat hf =>
    cases v<;>first|exact pan|exact ah.pure (.value (.of_flat hf))|(cases hf;done)|skip
    all_goals (rename_i p;cases p<;>first|exact pan|(cases hf;done))
theorem XV [bT] (hS:XD P) (he:X8 R ρ ρ') {c:Call} {f:Operand} (hc:c.callee=.value f) (hf:kR f=true) (ha:c.args.all kR=true):ah P D NR R (do let d <- resolve ρ c t;invoke d.target d.args) (do let d <- resolve ρ' c t;invoke d.target d.args):=by
 have haf:=AF.Ik he ha;have hv:=he f hf;unfold resolve;rw[hc];dsimp only;generalize hρ:ρ f=v at hv;generalize hρ':ρ' f=v' at hv;have pan:∀ {s':Sem Next},ah P D NR R (runtimePanic .nilDeref:Sem Next) s':=by
  intro s';refine ah.KZ fun w a w' hr=>?_
  unfold runtimePanic at hr;simp[Sem.run_bind,goPanic,Sem.run]at hr
 cases hv with
 |agg _ _=>exact ah.halt
 | base h =>
  cases h with
  |@func g a a' cc cc' h0 h1 h2 h3 h4 =>
   have r1:AF (VR R) a a':=AF.Pz h1 h2;have r2:AF (VR R) cc cc':=AF.Pz h3 h4;exact ah.callFunc hS h0 ((r1.append haf).append r2)
  | base h =>
   cases h with
   |ptr _=>exact ah.halt
   |slice _=>exact ah.halt
   |chan _=>exact ah.halt
   |flat hf =>
    cases v<;>first|exact ah.halt|exact pan|(cases hf;done)
theorem ah.execOp [bT] (hS:XD P) (he:X8 R ρ ρ') {o:Oper} (ho:okW P o.op=true) :
  ah P D NR R (Go.execOp ρ o) (Go.execOp ρ' o):=by
 unfold Go.execOp;cases hop:o.op<;>rw[hop]at ho<;>dsimp only[okW]at ho<;>first|(cases ho;done)|skip
 case move x=>exact ah.pure (.value (he x ho))
 case assign x=>exact ah.pure (.value (he x ho))
 case pick c a b =>
  simp only[Bool.and_eq_true]at ho;refine ah.bind (VR.asBool (he c ho.1.1)) fun R1 h1 u v huv=>?_
  subst huv;cases u with
  |true=>exact ah.pure (.value ((he a ho.1.2).mono h1))
  |false=>exact ah.pure (.value ((he b ho.2).mono h1))
 case alloc t=>exact ah.value (ah.alloc ho)
 case box t x=>exact ah.value (ah.box (he x ho))
 case build t ps =>
  rw[Bool.and_eq_true,Array.all_eq_true]at ho;exact ah.value (ah.build ho.1 fun p hp=>by
   obtain⟨i,hi,rfl⟩:=Array.mem_iff_getElem.1 hp;exact he _ (ho.2 i hi))
 case load t a=>exact ah.value (ah.loadAt (he a ho))
 case store t a x =>
  simp only[Bool.and_eq_true]at ho;exact ah.skip (ah.storeAt (he a ho.1) (he x ho.2))
 case nilCheck x=>exact ah.nilCheck (he x ho)
 case binOp op t x y pos =>
  simp only[Bool.and_eq_true]at ho;refine ah.value (ah.bind (ah.eqGuard (ak2 ho.1.1.2) (he x ho.1.2) (he y ho.2)) fun R1 h1 _ _ _=>?_);exact ah.binOp (ak2 ho.1.1.2) ho.1.1.1 ((he x ho.1.2).mono h1) ((he y ho.2).mono h1)
 case unOp op t x=>exact ah.value (ah.unary (he x ho))
 case makeFunc fn a c =>
  cases fn<;>first|(cases ho;done)|skip
  case func f =>
   simp only[Bool.and_eq_true]at ho;exact ah.value (ah.makeFunc ho.1 (AF.Ik he ho.2.1) (AF.Ik he ho.2.2))
 case fieldAddr s x f=>exact ah.value (ah.fieldAt (he x ho))
 case indexAddr t x i =>
  simp only[Bool.and_eq_true]at ho;exact ah.value (ah.indexAt (he x ho.1) (he i ho.2))
 case call c =>
  unfold CY at ho;simp only[Bool.and_eq_true]at ho;obtain⟨ha,hc⟩:=ho;have haf:=AF.Ik he ha;cases hcc:c.callee with
  |invoke x n=>rw[hcc]at hc;cases hc
  |value f =>
   rw[hcc]at hc;exact XV hS he hcc hc ha
  | builtin b =>
   rw[hcc]at hc;show ah P D NR R (do let d <- resolve ρ c o.type;invoke d.target d.args) (do let d <- resolve ρ' c o.type;invoke d.target d.args);unfold resolve;rw[hcc];cases b<;>first|(cases hc;done)|skip
   case len =>
    refine ah.value (ah.len (fun ty hty=>?_) haf);rw[hty]at hc;have hc':Fg P ty=true:=hc;unfold Fg at hc';split at hc'
    ·exact⟨_,by assumption⟩
    ·cases hc'
   case max=>exact ah.value (ah.max haf)
   case min=>exact ah.value (ah.min haf)
theorem mapM_alike [bT] {α:Type} (f f':α->Sem Value) (h:∀ {R':BR},le R R'->∀ x,ah P D VR R' (f x) (f' x)) (l:Array α):ah P D (fun R' a b=>AF (VR R') a b/\a.size=l.size) R (l.mapM f) (l.mapM f'):=by
 rw[Array.mapM_eq_foldlM,Array.mapM_eq_foldlM,<- Array.foldlM_toList,<- Array.foldlM_toList];have key:∀ (l:List α) (R':BR) (acc acc':Array Value),le R R'->AF (VR R') acc acc'->ah P D (fun R' a b=>AF (VR R') a b/\a.size=acc.size+l.length) R' (l.foldlM (fun bs a=>bs.push <$> f a) acc) (l.foldlM (fun bs a=>bs.push <$> f' a) acc'):=by
  intro l
  induction l with
  |nil=>intro R' acc acc' _ ha;rw[List.foldlM_nil,List.foldlM_nil];exact ah.pure ⟨ha,rfl⟩
  |cons x l ih =>
   intro R' acc acc' hR ha;rw[List.foldlM_cons,List.foldlM_cons];refine ah.bind (Φ:=fun R' a b=>AF (VR R') a b/\a.size=acc.size+1) ?_ fun R1 h1 b b' hb=>(ih R1 b b' (le_trans hR h1) hb.1).mono fun R2 u v huv=>⟨huv.1,by rw[huv.2,hb.2,List.length_cons];omega⟩
   show ah P D (fun R' a b=>AF (VR R') a b/\a.size=acc.size+1) R' (f x >>= fun a=>Pure.pure (acc.push a)) (f' x >>= fun a=>Pure.pure (acc'.push a));exact ah.bind (h hR x) fun R1 h1 v v' hv=>ah.pure ⟨(ha.mono fun _ _=>VR.mono h1).push hv,by simp⟩
 exact(key _ R #[] #[] (le_refl R) AF.empty).mono fun R2 u v huv=>⟨huv.1,by rw[huv.2];simp⟩
theorem ah.results [bT] {fn:Func} (hsz:fn.results.size<=1) {tmps tmps':Array Value} (h:AF (VR R) tmps tmps'):ah P D VR R (Go.results fn tmps) (Go.results fn tmps'):=by
 have hu:∀ {R':BR},VR R' undef undef:=.of_flat rfl;unfold Go.results;refine ah.bind (Φ:=fun R' a b=>AF (VR R') a b/\a.size<=1) ?_ fun R1 h1 vs vs' hv=>?_
 ·intro wl wa es hw x wl' hr;have hm:=mapM_alike (P:=P) (D:=D) (R:=R) (fun | ResultVar.tmp t=>Pure.pure (tmps.getD t undef) | ResultVar.cell a t=>do Go.loadVar t (<- asAddr (tmps.getD a undef))) (fun | ResultVar.tmp t=>Pure.pure (tmps'.getD t undef) | ResultVar.cell a t=>do Go.loadVar t (<- asAddr (tmps'.getD a undef))) (by
   intro R' hR r;cases r with
   |tmp t=>exact ah.pure ((h.get hu t).mono hR)
   | cell a t =>
    dsimp only;have hv:=(h.get hu a).mono hR;generalize tmps.getD a undef=v at hv;generalize tmps'.getD a undef=v' at hv;refine ah.bind (Φ:=fun R'=>AR R') ?_ fun R1 _ a a' ha=>ah.loadVar ha
    unfold asAddr;have pan:∀ {s':Sem Addr},ah P D (fun R'=>AR R') R' (runtimePanic .nilDeref:Sem Addr) s':=by
     intro s';refine ah.KZ fun w a w' hr=>?_
     unfold runtimePanic at hr;simp[Sem.run_bind,goPanic,Sem.run]at hr
    cases hv with
    |agg _ _=>exact ah.halt
    | base h =>
     cases h with
     |func _ _ _ _=>exact ah.halt
     |base h =>
      cases h with
      |ptr h=>exact ah.pure h
      |slice _=>exact ah.halt
      |chan _=>exact ah.halt
      |flat hf=>cases v<;>first|exact ah.halt|exact pan|(rename_i p;cases p<;>first|exact pan|(cases hf;done))) fn.results wl wa es hw x wl' hr
  obtain⟨a',wa',es',R',k1,k2,k3,k4,k5,k6,k7⟩:=hm;exact⟨a',wa',es',R',k1,k2,k3,k4,k5,k6,k7.1,by rw[k7.2];exact hsz⟩
 ·obtain ⟨hv,hs⟩:=hv;refine ah.pure ?_;by_cases h1:vs.size=1
  ·have h2:vs'.size=1:=by rw [hv.1];exact h1
   simp only[h1,h2,dif_pos];exact hv.raw 0 _ _ (Array.getElem?_eq_getElem (by omega)) (Array.getElem?_eq_getElem (by omega))
  ·have h2:vs'.size≠1:=by rw [hv.1];exact h1
   simp only[h1,h2,dif_neg,not_false_eq_true];have e1:vs=#[]:=Array.eq_empty_of_size_eq_zero (by omega);have e2:vs'=#[]:=Array.eq_empty_of_size_eq_zero (by rw[hv.1];omega);rw[e1,e2];exact .of_flat rfl
end
open Go.Conc (G)
def isSend:Op->Bool
 |.send .. | .recv .. | .go _=>true
 |_=>false
section
variable {o:Oper}
variable {P:Program}
theorem P5 {s:Sem Next} {fr:Frame} {cs:List Frame} {w:World} (hk:(fr.kind == CallKind.early)=false) (hh:ay OC w)
 (h:(∃ c sh,s.run P w=.ok (.comm #[c] true sh) w)\/(∃ d,s.run P w=.ok (.spawn d) w)\/(∃ m w',s.run P w=.halt (.stuck m) w')\/∃ u w',(∀ g,u≠.initOrder g)/\s.run P w=.halt (.unsupported u) w'):CP (stepG.apply P true fr cs none s w):=by
 unfold stepG.apply;rcases h with⟨c,sh,h⟩|⟨d,h⟩|⟨m,w',h⟩|⟨u,w',hu,h⟩
 ·simp only[if_true,Sem.runT_eq,h,hk,Bool.false_eq_true,if_false];exact bW ⟨⟨rfl,_,rfl⟩,hh⟩
 ·simp only [if_true,Sem.runT_eq,h,hk,Bool.false_eq_true,if_false];refine bW (Qr ?_ ?_)
  ·exact⟨rfl,_,rfl,rfl,rfl⟩
  ·trivial
 ·simp only[if_true,Sem.runT_eq,h,hk,Bool.false_eq_true,if_false];exact bW trivial
 ·simp only [if_true,Sem.runT_eq,h,hk,Bool.false_eq_true,if_false];cases u with
  |initOrder g=>exact(hu g rfl).elim
  |_=>exact bW trivial
theorem JK (ρ:Operand->Value) {t:TypeId} {ch:Operand} {f:Bool} (ho:o.op=.recv t ch f) (w:World) :
  (∃ c sh,(execOp ρ o).run P w=.ok (.comm #[c] true sh) w)\/(∃ d,(execOp ρ o).run P w=.ok (.spawn d) w)\/(∃ m w',(execOp ρ o).run P w=.halt (.stuck m) w')\/∃ u w',(∀ g,u≠.initOrder g)/\(execOp ρ o).run P w=.halt (.unsupported u) w':=by
 unfold execOp;simp only[ho];cases hu:P.underlying t with
 | none=>exact .inr (.inr (.inl ⟨ "no such type", w,by simp [Go.underlying,hu]⟩))
 | some d =>
  cases d with
  | chan dir e =>
   cases hi:P.info? e with
   | none=>exact .inr (.inr (.inl ⟨ "no such type", w,by simp [Go.underlying,hu,Go.zeroValue,Go.typeInfo,hi]⟩))
   |some i =>
    cases hz:i.zero with
    | none=>exact .inr (.inr (.inr ⟨.resourceLimit "a value of more than 2^22 cells", w,(fun g h=>nomatch h),by simp [Go.underlying,hu,Go.zeroValue,Go.typeInfo,hi,hz]⟩))
    |some z=>exact .inl ⟨{chan:=ρ ch,send:=none,zero:=z},.recv f,by simp[Go.underlying,hu,Go.zeroValue,Go.typeInfo,hi,hz]⟩
  | _=>exact .inr (.inr (.inl ⟨ "receive: channel type expected", w,by simp [Go.underlying,hu]⟩))
theorem NG (ρ:Operand->Value) {c:Call} (ho:o.op=.go c) (w:World) :
  (∃ c sh,(execOp ρ o).run P w=.ok (.comm #[c] true sh) w)\/(∃ d,(execOp ρ o).run P w=.ok (.spawn d) w)\/(∃ m w',(execOp ρ o).run P w=.halt (.stuck m) w')\/∃ u w',(∀ g,u≠.initOrder g)/\(execOp ρ o).run P w=.halt (.unsupported u) w':=by
 unfold execOp;simp only[ho,resolve];cases c.callee with
 |builtin b=>exact .inr (.inl ⟨_,rfl⟩)
 |invoke recv name=>exact .inr (.inl ⟨_,rfl⟩)
 |value f =>
  simp only;cases ρ f<;>first|exact .inr (.inl ⟨_,rfl⟩)|exact .inr (.inr (.inl ⟨_,_,rfl⟩))
end
def NM [bT] (P:Program) (o:Op):Bool:=okW P o || isSend o
def Ce [bT] (P:Program):Code->Bool
 |.region _ ops _=>ops.all fun o=>NM P o.op
 |.seq a b=>Ce P a && Ce P b
 |.cond c a b=>kR c && (Ce P a && Ce P b)
 |.block _ c | .loop c=>Ce P c
 |.skip | .label _ | .ret | .exit _=>true
 |_=>false
def jB [bT] (P:Program):Item->Prop
 |.code c | .inLoop c=>Ce P c=true
 |.inRegion ops _=>(ops.all fun o=>NM P o.op)=true
 |.inBlock _=>True
 |_=>False
structure FQ [bT] (P:Program) (R:BR) (fr fr':Frame):Prop where
 fn:fr'.fn=fr.fn
 tmps:AF (VR R) fr.tmps fr'.tmps
 todo:fr'.todo=fr.todo
 items:∀ x∈fr.todo,jB P x
 defers:fr.defers=[]
 defers':fr'.defers=[]
 mode:fr'.mode=fr.mode
 runs:fr.mode=.run\/fr.mode=.returning
 kind:fr'.kind=.normal\/fr'.kind=.deferred
 kinds:fr.kind=.normal\/fr.kind=.deferred
 round:fr.roundOf=none
 round':fr'.roundOf=none
 res:∀ fn,P.funcs[fr.fn]? = some fn->fn.results.size<=1
def ou [bT] (P:Program) (K:CallKind) (R:BR):Frame->List Frame->Frame->List Frame->Prop
 |fr,[],fr',[]=>FQ P R fr fr'/\fr'.kind=K
 |fr,c::cs,fr',c'::cs'=>FQ P R fr fr'/\(fr.kind=.normal/\fr'.kind=.normal)/\ou P K R c cs c' cs'
 |_,_,_,_=>False
def NoWay [bT] (P:Program) (csl:List Frame) (g:GStep):Prop :=
 CP g\/∃ fr cs w es,g=.go (G fr (cs ++ csl)) w es/\(∃ ch,fr.mode=.panicking ch)/\∀ c∈fr::cs,c.defers=[]/\∀ x∈c.todo,jB P x
section
variable {R':BR} {fr fr':Frame} {mine mine':List Frame} {v v':Value} {wa wl:World}
variable {P:Program} {K:CallKind} {D:Nat->Prop} {R:BR} {csl:List Frame}
theorem FQ.mono [bT] (h:le R R') (x:FQ P R fr fr'):FQ P R' fr fr' :=
 ⟨x.fn,x.tmps.mono fun _ _=>VR.mono h,x.todo,x.items,x.defers,x.defers',x.mode,x.runs,x.kind,x.kinds,x.round,x.round',x.res⟩
theorem ou.mono [bT] (h:le R R'):∀ {fr fr':Frame} {mine mine':List Frame},ou P K R fr mine fr' mine'->ou P K R' fr mine fr' mine'
 |_,_,[],[],x=>⟨FQ.mono h x.1,x.2⟩
 |_,_,_::_,_::_,x=>⟨x.1.mono h,x.2.1,ou.mono h x.2.2⟩
theorem ou.top [bT] (h:ou P K R fr mine fr' mine'):FQ P R fr fr':=by
 cases mine<;>cases mine'<;>first|exact h.1|exact h.elim
theorem ou.set [bT] {g g':Frame} (h:ou P K R fr mine fr' mine') (x:FQ P R g g') (hk:g.kind=fr.kind/\g'.kind=fr'.kind):ou P K R g mine g' mine':=by
 cases mine<;>cases mine'<;>first|exact⟨x,hk.2.trans h.2⟩|exact⟨x,⟨hk.1.trans h.2.1.1,hk.2.trans h.2.1.2⟩,h.2.2⟩|exact h.elim
theorem FQ.eval [bT] (h:FQ P R fr fr'):X8 R fr.eval fr'.eval:=by
 intro x hx;cases x with
 |tmp t=>exact h.tmps.get (.of_flat rfl) t
 |const v=>exact .of_flat hx
 |global g=>cases hx
 |func f=>exact .base (.Ol hx AF.empty AF.empty)
theorem tN [bT] (h:FQ P R fr fr') (hv:VR R v v'):FQ P R (fr.finish v) (fr'.finish v')/\((fr.finish v).kind=fr.kind/\(fr'.finish v').kind=fr'.kind):=by
 unfold Frame.finish;rw[h.todo];split
 ·rename_i ops i rest k hk;have hit:∀ x∈Item.inRegion ops rest::k,jB P x:=by
   intro x hx;have:=h.items;rw[hk]at this;rcases List.mem_cons.1 hx with rfl|hx
   ·exact this (.inRegion ops (i::rest)) (by simp)
   ·exact this x (by simp[hx])
  refine⟨⟨h.fn,?_,rfl,hit,h.defers,h.defers',h.mode,h.runs,h.kind,h.kinds,h.round,h.round',h.res⟩,⟨rfl,rfl⟩⟩;cases (ops[i]?).bind (·.dst)with
  |none=>exact h.tmps
  |some d=>exact h.tmps.set hv
 ·rename_i l k hk;have:=h.items;rw[hk]at this;exact(this (.inRangeFunc l) (by simp)).elim
 ·rename_i k hk;have:=h.items;rw[hk]at this;exact(this .beginRound (by simp)).elim
 ·rename_i d wr rs sv k hk;have:=h.items;rw[hk]at this;exact(this (.call d wr rs sv) (by simp)).elim
 ·rename_i row args k hk;have:=h.items;rw[hk]at this;exact(this (.extern row args) (by simp)).elim
 ·exact⟨h,⟨rfl,rfl⟩⟩
def F7 [bT] (P:Program):Prop:=∀ f,bT.ok f=true->∃ fn c,P.funcs[f]? = some fn/\fn.body=some c/\Ce P c=true/\fn.results.size<=1/\(fn.name == "runtime.NumGoroutine")=false
theorem F7.w [bT] (h:F7 P):XD P:=fun f hf=>by
 obtain⟨fn,c,h1,h2,_,_,h5⟩:=h f hf;exact⟨fn,h1,by rw[h2];rfl,h5⟩
theorem Tq [bT] (hS:F7 P) {f:FuncId} (hf:bT.ok f=true) {a a':Array Value} (h:AF (VR R) a a'):FQ P R (Frame.enter P f a .normal) (Frame.enter P f a' .normal):=by
 obtain⟨fn,c,h1,h2,h3,h4,_⟩:=hS f hf;refine⟨rfl,?_,rfl,?_,rfl,rfl,rfl,.inl rfl,.inl rfl,.inl rfl,rfl,rfl,fun fn' hfn=>?_⟩
 ·simp only[Frame.enter];rw[h.1];exact h.append (AF.replicate (.of_flat rfl))
 ·intro x hx;simp only[Frame.enter,h1,h2,Option.bind_some,Option.getD_some,List.mem_singleton]at hx;subst hx;exact h3
 ·simp only[Frame.enter]at hfn;rw[h1]at hfn;cases hfn;exact h4
def Sim [bT] (P:Program) (K:CallKind) (csl:List Frame) (D:Nat->Prop) (R:BR) (wl wa:World) (fl:GStep) (fa:Bool->List Frame->GStep):Prop :=
 (∃ fr1 mine1 wl1 es fr1' mine1' wa1 es' R1,fl=.go (G fr1 (mine1 ++ csl)) wl1 es/\(∀ main cs,fa main cs=.go (G fr1' (mine1' ++ cs)) wa1 es') /\
  ou P K R1 fr1 mine1 fr1' mine1'/\WR P.globals.size R1 D wl1 wa1/\Grow R R1 D wl wa/\FX R D wa wa1/\(∀ e∈es',mZ R1 D e)/\wl.heap.size<=wl1.heap.size)\/NoWay P csl fl
theorem lI [bT] {fl:GStep} {fa:Bool->List Frame->GStep} {fr1 fr1':Frame} {mine1 mine1':List Frame} (hw:WR P.globals.size R D wl wa) (h:ou P K R fr1 mine1 fr1' mine1')
 (hl:fl=.go (G fr1 (mine1 ++ csl)) wl #[]) (ha:∀ main cs,fa main cs=.go (G fr1' (mine1' ++ cs)) wa #[]):Sim P K csl D R wl wa fl fa :=
 .inl ⟨fr1,mine1,wl,#[],fr1',mine1',wa,#[],R,hl,ha,h,hw,⟨le_refl R,fun _ _ h=>.inl h⟩,.refl R D wa,by simp,Nat.le_refl _⟩
theorem ou.all [bT]:∀ {fr fr':Frame} {mine mine':List Frame},ou P K R fr mine fr' mine'->∀ c∈fr::mine,c.defers=[]/\∀ x∈c.todo,jB P x
 |_,_,[],[],h,c,hc=>by
  simp only[List.mem_singleton]at hc;subst hc;exact⟨h.1.defers,h.1.items⟩
 |_,_,c1::l1,c2::l2,h,c,hc=>by
  rcases List.mem_cons.1 hc with rfl|hc
  ·exact⟨h.1.defers,h.1.items⟩
  ·exact ou.all h.2.2 c hc
theorem Rf [bT] (hS:F7 P) {s s':Sem Next} (h:ou P K R fr mine fr' mine') (hw:WR P.globals.size R D wl wa) (hs:ah P D NR R s s')
 (hok:∀ hh w',s.run P wl=.halt hh w'->uY hh) :
  Sim P K csl D R wl wa (stepG.apply P true fr (mine ++ csl) none s wl) (fun _ cs=>stepG.apply P true fr' (mine' ++ cs) none s' wa):=by
 have ht:=h.top;have hearly:(fr.kind == CallKind.early)=false:=by rcases ht.kinds with h|h<;>rw[h]<;>rfl
 have hearly':(fr'.kind == CallKind.early)=false:=by rcases ht.kind with h|h<;>rw[h]<;>rfl
 cases hr:s.run P wl with
 | ok x w' =>
  obtain⟨x',wa1,es',R1,k1,k2,k3,k4,k5,k6,k7⟩:=hs wl wa #[] hw x w' hr;have hev:∀ e∈seen P fr'.fn es',mZ R1 D e:=fun e he=>(k2 e (mem_seen he)).elim (fun h=>by simp at h) id
  have h1:=h.mono k4.le;cases k7 with
  |@value v v' hv =>
   have hf:=tN h1.top hv;refine .inl ⟨fr.finish v,mine,w',seen P fr.fn (s.events P wl #[]),fr'.finish v',mine',wa1,seen P fr'.fn es',R1,?_,fun main cs=>?_,h1.set hf.1 hf.2,k3,k4,k5,hev,k6⟩
   ·unfold stepG.apply;simp only[if_true,Sem.runT_eq,hr,hearly,Bool.false_eq_true,if_false,GStep.after,Array.append_empty,G]
   ·unfold stepG.apply;simp only[if_true,k1,hearly',Bool.false_eq_true,if_false,GStep.after,Array.append_empty,G]
  |skip =>
   have hf:=tN h1.top (.of_flat rfl:VR R1 undef undef);refine .inl ⟨fr.finish undef,mine,w',seen P fr.fn (s.events P wl #[]),fr'.finish undef,mine',wa1,seen P fr'.fn es',R1,?_,fun main cs=>?_,h1.set hf.1 hf.2,k3,k4,k5,hev,k6⟩
   ·unfold stepG.apply;simp only[if_true,Sem.runT_eq,hr,hearly,Bool.false_eq_true,if_false,GStep.after,Array.append_empty,G]
   ·unfold stepG.apply;simp only[if_true,k1,hearly',Bool.false_eq_true,if_false,GStep.after,Array.append_empty,G]
  | @enter f a a' hf ha =>
   have hk:∀ {g:Frame},(∀ x∈g.todo,jB P x)->∀ d r sv k,g.todo=.call d true r sv::k->False:=fun hi d r sv k hg=>by
    rw[hg]at hi;exact hi (.call d true r sv) (by simp)
   refine .inl ⟨Frame.enter P f a .normal,fr::mine,w',seen P fr.fn (s.events P wl #[]),Frame.enter P f a' .normal,fr'::mine',wa1,seen P fr'.fn es',R1,?_,fun main cs=>?_,⟨Tq hS hf ha,⟨rfl,rfl⟩,h1⟩,k3,k4,k5,hev,k6⟩
   ·unfold stepG.apply;simp only [if_true,Sem.runT_eq,hr,hearly,Bool.false_eq_true,if_false,GStep.after,Array.append_empty,G];split
    ·rename_i hg;exact(hk ht.items _ _ _ _ hg).elim
    ·rfl
   ·unfold stepG.apply;simp only [if_true,k1,hearly',Bool.false_eq_true,if_false,GStep.after,Array.append_empty,G,List.cons_append];split
    ·rename_i hg;exact(hk ht.items _ _ _ _ (ht.todo ▸ hg)).elim
    ·rfl
 | halt hh w' =>
  have hall:=h.all;have hgo:∀ l,stepG.apply P true fr (mine ++ csl) none s wl=.go (G (fr.raise l) (mine ++ csl)) w' (seen P fr.fn (s.events P wl #[]))->NoWay P csl (stepG.apply P true fr (mine ++ csl) none s wl):=by
   intro l hl;refine .inr ⟨fr.raise l,mine,w',_,hl,?_,fun c hc=>?_⟩
   ·rcases ht.runs with hm|hm<;>exact⟨l,by simp[Frame.raise,hm]⟩
   ·rcases List.mem_cons.1 hc with rfl | hc
    ·have:=hall fr (by simp);unfold Frame.raise;split<;>exact this
    ·exact hall c (by simp[hc])
  refine .inr ?_;have hx:=hok _ _ hr;cases hh<;>first|exact hx.elim|skip
  case panic v =>
   refine hgo [{v,recovered:=false}] ?_;unfold stepG.apply;simp only[if_true,Sem.runT_eq,hr,hearly,Bool.false_eq_true,if_false,GStep.after,Array.append_empty,G]
  case goexit =>
   refine hgo [goexitEntry] ?_;unfold stepG.apply;simp only[if_true,Sem.runT_eq,hr,hearly,Bool.false_eq_true,if_false,GStep.after,Array.append_empty,G]
  all_goals
   refine .inl ?_;unfold stepG.apply;simp only[if_true,Sem.runT_eq,hr,hearly,Bool.false_eq_true,if_false]
  case exit c=>exact bW trivial
  case fatal m=>exact bW (sU _ _ _ _ _)
  case throw m=>exact bW ⟨rfl,_,rfl,rfl,rfl⟩
  case unsupported u=>cases u<;>first|exact hx.elim|exact bW trivial
  case stuck m=>exact bW trivial
theorem U1 [bT] {o:Op} {r:Bool} (h:okW P o=true):qj r o=true:=by
 cases o<;>first|rfl|(cases h;done)|skip
 case call c =>
  have h':CY P c=true:=h;unfold CY at h';show lH r c=true;unfold lH;cases hc:c.callee with
  |builtin b =>
   rw[hc]at h';cases b<;>first|(simp at h';done)|simp[oL,isRecover]
  |_=>rfl
theorem Ro [bT] {x:Item} {k:List Item} (h:∀ y∈fr.todo,jB P y) (hk:fr.todo=x::k):jB P x/\∀ y∈k,jB P y:=by
 rw[hk]at h;exact⟨h x (by simp),fun y hy=>h y (by simp[hy])⟩
theorem iY [bT] (h:FQ P R fr fr') {todo:List Item} (ht:∀ x∈todo,jB P x):FQ P R {fr with todo} {fr' with todo} :=
 ⟨h.fn,h.tmps,rfl,ht,h.defers,h.defers',h.mode,h.runs,h.kind,h.kinds,h.round,h.round',h.res⟩
theorem Qv [bT] (h:FQ P R fr fr'):FQ P R {fr with mode:=.returning} {fr' with mode:=.returning} :=
 ⟨h.fn,h.tmps,h.todo,h.items,h.defers,h.defers',rfl,.inr rfl,h.kind,h.kinds,h.round,h.round',h.res⟩
theorem O6 [bT] {id:Nat}:∀ {k k':List Item},exitTo id k=some k'->(∀ y∈k,jB P y)->∀ y∈k',jB P y:=by
 intro k
 induction k with
 |nil=>intro k' h;simp[exitTo]at h
 | cons x k ih =>
  intro k' h hk;have hk':∀ y∈k,jB P y:=fun y hy=>hk y (by simp[hy])
  cases x<;>simp only[exitTo]at h<;>first
   |exact ih h hk'
   | (split at h
      ·cases h;exact hk'
      ·exact ih h hk')
theorem VR.Fp [bT] (h:VR R v v') (b:Bool):v=.bool b↔v'=.bool b:=by
 cases h with
 |agg _ _=>simp
 | base h =>
  cases h with
  |func _ _ _ _=>simp
  |base h =>
   cases h with
   |flat _=>rfl
   |ptr _=>simp
   |slice _=>simp
   |chan _=>simp
theorem OY [bT] {ops:Array Oper} {t t':Array Value} (h:AF (VR R) t t'):yielded ops t'=yielded ops t:=by
 funext j;unfold yielded;cases (ops[j]?).bind (·.dst)with
 |none=>rfl
 | some d =>
  rcases h.get? d with⟨e1,e2⟩|⟨v,v',e1,e2,hv⟩
  ·simp only[Option.bind_some,e1,e2]
  ·simp only [Option.bind_some,e1,e2];cases v with
   |bool b=>rw[(hv.Fp b).1 rfl]
   |_ =>
    cases v' with
    |bool b=>cases (hv.Fp b).2 rfl
    |_=>rfl
theorem U9 [bT] (hS:F7 P) (hT:ED P fun _=>True) (h:ou P K R fr mine fr' mine') (hw:WR P.globals.size R D wl wa) (hh:ay OC wl) (hm:fr.mode=.run) :
  Sim P K csl D R wl wa (stepG P true (G fr (mine ++ csl)) wl) (fun main cs=>stepG P main (G fr' (mine' ++ cs)) wa):=by
 have ht:=h.top;have hm':fr'.mode=.run:=ht.mode.trans hm;have e1:stepG P true (G fr (mine ++ csl)) wl=stepG.exec P true true fr (mine ++ csl) none wl:=by simp only[stepG,G,hm]
 have e2:∀ main cs,stepG P main (G fr' (mine' ++ cs)) wa=stepG.exec P main true fr' (mine' ++ cs) none wa:=fun main cs=>by simp only[stepG,G,hm']
 rw[e1];simp only[e2];cases htd:fr.todo with
 |nil =>
  have htd':fr'.todo=[]:=ht.todo.trans htd;exact lI hw (h.set (Qv ht) ⟨rfl,rfl⟩) (by simp only[stepG.exec,htd,ht.round];rfl) (fun main cs=>by simp only[stepG.exec,htd',ht.round'];rfl)
 | cons x k =>
  have htd':fr'.todo=x::k:=ht.todo.trans htd;obtain⟨hx,hkk⟩:=Ro ht.items htd;cases x with
  |inBlock id=>exact lI hw (h.set (iY ht hkk) ⟨rfl,rfl⟩) (by simp only[stepG.exec,htd,G]) (fun main cs=>by simp only[stepG.exec,htd',G])
  | inLoop body =>
   have hi:∀ y∈Item.code body::.inLoop body::k,jB P y:=by
    intro y hy;rcases List.mem_cons.1 hy with rfl|hy
    ·exact hx
    ·rcases List.mem_cons.1 hy with rfl | hy
     ·exact hx
     ·exact hkk y hy
   exact lI hw (h.set (iY ht hi) ⟨rfl,rfl⟩) (by simp only[stepG.exec,htd,G]) (fun main cs=>by simp only[stepG.exec,htd',G])
  | inRegion ops todo =>
   cases todo with
   |nil=>exact lI hw (h.set (iY ht hkk) ⟨rfl,rfl⟩) (by simp only[stepG.exec,htd,G]) (fun main cs=>by simp only[stepG.exec,htd',G])
   | cons i rest =>
    have hy:=OY (ops:=ops) ht.tmps;by_cases hwt:(((ops[i]?).map (Region.wanted · (yielded ops fr.tmps))).getD false)=true
    ·have hwt':(((ops[i]?).map (Region.wanted · (yielded ops fr'.tmps))).getD false)=true:=by rw [hy];exact hwt
     cases hop:ops[i]? with
     |none=>rw[hop]at hwt;cases hwt
     | some o =>
      have hos:NM P o.op=true:=by
       have hx':(ops.all fun o=>NM P o.op)=true:=hx;rw[Array.all_eq_true]at hx';obtain⟨hi,rfl⟩:=Array.getElem?_eq_some_iff.1 hop;exact hx' i hi
      have hfo:fr.oper? = some o:=by unfold Frame.oper?;rw[htd];exact hop
      by_cases hsd:isSend o.op=true
      ·refine .inr (.inl ?_);have l1:stepG.exec P true true fr (mine ++ csl) none wl=stepG.apply P true fr (mine ++ csl) none (execOp fr.eval o) wl:=by
        simp only[stepG.exec,htd,hwt,if_true,stepG.oper,hfo,ht.round]
       rw[l1];have hearly:(fr.kind == CallKind.early)=false:=by rcases ht.kinds with h|h<;>rw[h]<;>rfl
       refine P5 hearly hh ?_;cases ho:o.op<;>rw[ho]at hsd<;>first|(cases hsd;done)|skip
       case send ch x =>
        exact .inl ⟨{chan:=fr.eval ch,send:=some (fr.eval x),zero:=.tuple #[]},.send,by unfold execOp;simp[ho]⟩
       case recv t ch f=>exact JK fr.eval ho wl
       case go c=>exact NG fr.eval ho wl
      have hoo:okW P o.op=true:=by
       unfold NM at hos;cases hw1:okW P o.op with
       |true=>rfl
       |false=>rw[hw1]at hos;exact(hsd (by simpa using hos)).elim
      have hfo':fr'.oper? = some o:=by unfold Frame.oper?;rw[htd'];exact hop
      have hfine:=(vC (ρ:=fr.eval) hT (fun _=>rfl) (U1 (r:=true) hoo) hh (fun _ _=>trivial) (es:=#[])).facts;rw[Sem.runT_eq]at hfine;have l1:stepG.exec P true true fr (mine ++ csl) none wl=stepG.apply P true fr (mine ++ csl) none (execOp fr.eval o) wl:=by
       simp only[stepG.exec,htd,hwt,if_true,stepG.oper,hfo,ht.round]
      have l2:∀ main cs,stepG.exec P main true fr' (mine' ++ cs) none wa=stepG.apply P true fr' (mine' ++ cs) none (execOp fr'.eval o) wa:=fun main cs=>by
       simp only[stepG.exec,htd',hwt',if_true,stepG.oper,hfo',ht.round']
      rw[l1];simp only[l2];refine Rf hS h hw (ah.execOp hS.w ht.eval hoo) (fun h' w' hr=>?_);have:=hfine.leaf;rw[hr]at this;exact this
    ·have hwt':¬ (((ops[i]?).map (Region.wanted · (yielded ops fr'.tmps))).getD false)=true:=by rw [hy];exact hwt
     have hf:=tN ht (.of_flat rfl:VR R undef undef);exact lI hw (h.set hf.1 hf.2) (by simp only[stepG.exec,htd,hwt,G];rfl) (fun main cs=>by simp only[stepG.exec,htd',hwt',G];rfl)
  | code c =>
   have hc:Ce P c=true:=hx;have two:∀ {a b:Item},jB P a->jB P b->∀ y∈a::b::k,jB P y:=by
    intro a b ha hb y hy;rcases List.mem_cons.1 hy with rfl|hy
    ·exact ha
    ·rcases List.mem_cons.1 hy with rfl | hy
     ·exact hb
     ·exact hkk y hy
   cases c with
   |ret=>exact lI hw (h.set (Qv ht) ⟨rfl,rfl⟩) (by simp only[stepG.exec,htd,ht.round];rfl) (fun main cs=>by simp only[stepG.exec,htd',ht.round'];rfl)
   |skip=>exact lI hw (h.set (iY ht hkk) ⟨rfl,rfl⟩) (by simp only[stepG.exec,htd,G]) (fun main cs=>by simp only[stepG.exec,htd',G])
   |label l=>exact lI hw (h.set (iY ht hkk) ⟨rfl,rfl⟩) (by simp only[stepG.exec,htd,G]) (fun main cs=>by simp only[stepG.exec,htd',G])
   |seq a b =>
    simp only[Ce,Bool.and_eq_true]at hc;exact lI hw (h.set (iY ht (two (a:=.code a) (b:=.code b) hc.1 hc.2)) ⟨rfl,rfl⟩) (by simp only[stepG.exec,htd,G]) (fun main cs=>by simp only[stepG.exec,htd',G])
   |block id body=>exact lI hw (h.set (iY ht (two (a:=.code body) (b:=.inBlock id) hc trivial)) ⟨rfl,rfl⟩) (by simp only[stepG.exec,htd,G]) (fun main cs=>by simp only[stepG.exec,htd',G])
   |loop body=>exact lI hw (h.set (iY ht (two (a:=.code body) (b:=.inLoop body) hc hc)) ⟨rfl,rfl⟩) (by simp only[stepG.exec,htd,G]) (fun main cs=>by simp only[stepG.exec,htd',G])
   |scope body=>cases hc
   |goto l=>cases hc
   |refuse w=>cases hc
   |rangeFunc f ps a b=>cases hc
   |exit id =>
    cases he:exitTo id k with
    |some k'=>exact lI hw (h.set (iY ht (O6 he hkk)) ⟨rfl,rfl⟩) (by simp only[stepG.exec,htd,he,Option.elim_some,G]) (fun main cs=>by simp only[stepG.exec,htd',he,Option.elim_some,G])
    |none=>exact .inr (.inl (by simp only[stepG.exec,htd,he,Option.elim_none,ht.round];trivial))
   | cond e a b =>
    simp only[Ce,Bool.and_eq_true]at hc;have hv:=ht.eval e hc.1;by_cases hb:∃ t,fr.eval e=.bool t
    ·obtain ⟨t,htt⟩:=hb;have htt':fr'.eval e=.bool t:=(hv.Fp t).1 htt;have hi:∀ y∈Item.code (if t then a else b)::k,jB P y:=by
      intro y hy;rcases List.mem_cons.1 hy with rfl|hy
      ·show Ce P _=true;cases t
       ·exact hc.2.2
       ·exact hc.2.1
      ·exact hkk y hy
     exact lI hw (h.set (iY ht hi) ⟨rfl,rfl⟩) (by simp only[stepG.exec,htd,htt,G]) (fun main cs=>by simp only[stepG.exec,htd',htt',G])
    ·refine .inr (.inl ?_);simp only [stepG.exec,htd];split
     ·rename_i b' h';exact(hb ⟨b',h'⟩).elim
     ·trivial
   | region id ops draw =>
    have hops:(ops.all fun o=>NM P o.op)=true:=hc;have hi:∀ l,∀ y∈Item.inRegion ops l::k,jB P y:=by
     intro l y hy;rcases List.mem_cons.1 hy with rfl|hy
     ·exact hops
     ·exact hkk y hy
    cases draw with
    |false=>exact lI hw (h.set (iY ht (hi (List.range ops.size))) ⟨rfl,rfl⟩) (by simp only[stepG.exec,htd,G];rfl) (fun main cs=>by simp only[stepG.exec,htd',G];rfl)
    |true =>
     refine .inl ⟨{fr with todo:=.inRegion ops (Region.schedule (P.follows .mixedOrders) ops (wl.tape wl.drawn (.order fr.fn id)))::k},mine,{wl with drawn:=wl.drawn+1},#[],{fr' with todo:=.inRegion ops (Region.schedule (P.follows .mixedOrders) ops (wl.tape wl.drawn (.order fr.fn id)))::k},mine',{wa with drawn:=wa.drawn+1},#[],R,?_,fun main cs=>?_,h.set (iY ht (hi _)) ⟨rfl,rfl⟩,?_,⟨le_refl R,fun _ _ h=>.inl h⟩,⟨Nat.le_refl _,fun _ _ _=>rfl,rfl,rfl,rfl,fun _ h=>h⟩,by simp,Nat.le_refl _⟩
     ·simp only[stepG.exec,htd,G,choose,Sem.run,Question.forced,Question.cut,Bool.not_true,Bool.false_eq_true,if_false]
     ·simp only[stepG.exec,htd',G,choose,Sem.run,Question.forced,Question.cut,Bool.not_true,Bool.false_eq_true,if_false,hw.tape,hw.drawn,ht.fn]
     ·exact⟨hw.obj,hw.fn,hw.inj,hw.old,hw.new,hw.tape,by show wa.drawn+1=wl.drawn+1;rw[hw.drawn],hw.dom,hw.gl,hw.ga⟩
  |_=>exact hx.elim
end
end Go.Sr
