/- A part of the proof: T9, T10, T11, T12. -/
import Derived.Test.YtjjmefieegcddaaDoorB02
set_option linter.unusedVariables false
set_option linter.unusedSimpArgs false
namespace Go.Sr
open Go
open Go.Tm
def DryS (P:Program) {α:Type} (Q:α→Prop):Sem α→Prop
 | .pure a=>Q a
 | .halt _=>True
 | .choose _ k=>∀ n,DryS P Q (k n)
 | .program k=>DryS P Q (k P)
 | .mark m k=>m=.noRoom∧DryS P Q k
 | _=>False
section
variable {P:Program} {D:Nat→Prop} {α β:Type} {R:BR}
theorem DryS.bind {Q:α→Prop} {Q':β→Prop} {f:α→Sem β} (hf:∀ a,Q a→DryS P Q' (f a)) {s:Sem α} (h:DryS P Q s):DryS P Q' (s >>= f):=by
 show DryS P Q' (s.bind f)
 induction s with
 | pure a=>exact hf a h
 | halt _=>trivial
 | choose q k ih=>exact fun n=>ih n (h n)
 | program k ih=>exact ih P h
 | mark m k ih=>exact ⟨h.1,ih h.2⟩
 | load _ _ _ _=>exact h.elim
 | store _ _ _ _ _=>exact h.elim
 | new _ _ _=>exact h.elim
 | shape _ _ _=>exact h.elim
 | freeze _ _ _ _=>exact h.elim
 | frozen _ _ _=>exact h.elim
 | getObj _ _ _=>exact h.elim
 | setObj _ _ _ _=>exact h.elim
 | sys _ _ _=>exact h.elim
theorem RunR.dry [Fns] {Q:α→Prop} {s:Sem α} (h:DryS P Q s):RunR P D (fun _ a b=>a=b∧Q a) R s s:=by
 induction s generalizing R with
 | pure a=>exact RunR.pure ⟨rfl,h⟩
 | halt _=>exact RunR.halt
 | choose q k ih =>
  show RunR P D _ R (Go.choose q >>= k) (Go.choose q >>= k)
  exact RunR.bind RunR.choose fun R' _ a b hab=>by subst hab;exact ih a (h a)
 | program k ih =>
  show RunR P D _ R (Go.program >>= k) (Go.program >>= k)
  exact RunR.bind RunR.program fun R' _ a b hab=>by obtain ⟨rfl,rfl⟩:=hab;exact ih _ h
 | mark m k ih =>
  obtain ⟨rfl,h⟩:=h
  show RunR P D _ R (Go.mark .noRoom >>= fun _=>k) (Go.mark .noRoom >>= fun _=>k)
  exact RunR.bind RunR.noRoom fun R' _ a b _=>ih h
 | load _ _ _ _=>exact h.elim
 | store _ _ _ _ _=>exact h.elim
 | new _ _ _=>exact h.elim
 | shape _ _ _=>exact h.elim
 | freeze _ _ _ _=>exact h.elim
 | frozen _ _ _=>exact h.elim
 | getObj _ _ _=>exact h.elim
 | setObj _ _ _ _=>exact h.elim
 | sys _ _ _=>exact h.elim
class DryA {α:Type} (s:Sem α):Prop where
 t:∀ P,DryS P (fun _=>True) s
class DryV (s:Sem Value):Prop where
 t:∀ P,DryS P (fun v=>flat v=true) s
theorem dryA_bind {s:Sem α} {f:α→Sem β} (h:DryA s) (hf:∀ a,DryA (f a)):DryA (s >>= f):=⟨fun P=>DryS.bind (fun a _=>(hf a).t P) (h.t P)⟩
instance {s:Sem α} {f:α→Sem β} [h:DryA s] [hf:∀ a,DryA (f a)]:DryA (s >>= f):=dryA_bind h hf
theorem dryV_bind {s:Sem α} {f:α→Sem Value} (h:DryA s) (hf:∀ a,DryV (f a)):DryV (s >>= f):=⟨fun P=>DryS.bind (fun a _=>(hf a).t P) (h.t P)⟩
instance {s:Sem α} {f:α→Sem Value} [h:DryA s] [hf:∀ a,DryV (f a)]:DryV (s >>= f):=dryV_bind h hf
instance {s:Sem α} {f:α→β} [h:DryA s]:DryA (f <$> s):=(dryA_bind h (fun a=>(⟨fun _=>trivial⟩:DryA (pure (f a):Sem β))):DryA (s >>= fun a=>pure (f a)))
instance {a:α}:DryA (pure a:Sem α):=⟨fun _=>trivial⟩
instance {b:Bool}:DryV (pure (.bool b):Sem Value):=⟨fun _=>rfl⟩
instance {k:IntKind} {n:Int}:DryV (pure (.int k n):Sem Value):=⟨fun _=>rfl⟩
instance {k:FloatKind} {n:Nat}:DryV (pure (.float k n):Sem Value):=⟨fun _=>rfl⟩
instance {k:FloatKind} {n m:Nat}:DryV (pure (.complex k n m):Sem Value):=⟨fun _=>rfl⟩
instance {s:ByteArray}:DryV (pure (.string s):Sem Value):=⟨fun _=>rfl⟩
instance {s:String}:DryA (stuck s:Sem α):=⟨fun _=>trivial⟩
instance {s:Unsupported}:DryA (unsupported s:Sem α):=⟨fun _=>trivial⟩
instance {v:Value}:DryA (goPanic v:Sem α):=⟨fun _=>trivial⟩
instance {s:String}:DryV (stuck s:Sem Value):=⟨fun _=>trivial⟩
instance {s:Unsupported}:DryV (unsupported s:Sem Value):=⟨fun _=>trivial⟩
instance {v:Value}:DryV (goPanic v:Sem Value):=⟨fun _=>trivial⟩
instance:DryA program:=⟨fun _=>trivial⟩
instance {q:Question}:DryA (choose q):=⟨fun _ _=>trivial⟩
instance:DryA (mark .noRoom):=⟨fun _=>⟨rfl,trivial⟩⟩
instance dryA_ite {c:Prop} [Decidable c] {a b:Sem α} [DryA a] [DryA b]:DryA (if c then a else b):=by split <;> infer_instance
theorem dryA_ite2 {c:Prop} [Decidable c] {a b:Sem α} (ha:DryA a) (hb:DryA b):DryA (if c then a else b):=by split <;> assumption
theorem dryV_ite2 {c:Prop} [Decidable c] {a b:Sem Value} (ha:DryV a) (hb:DryV b):DryV (if c then a else b):=by split <;> assumption
end
section
instance {t:TypeId}:DryA (typeInfo t):=by unfold typeInfo;repeat' (first | infer_instance | apply dryA_ite2 | apply dryV_ite2 | apply dryA_bind | apply dryV_bind | intro _ | dsimp only | split)
instance {t:TypeId}:DryA (underlying t):=by unfold underlying;repeat' (first | infer_instance | apply dryA_ite2 | apply dryV_ite2 | apply dryA_bind | apply dryV_bind | intro _ | dsimp only | split)
instance {t:TypeId}:DryA (zeroValue t):=by unfold zeroValue;repeat' (first | infer_instance | apply dryA_ite2 | apply dryV_ite2 | apply dryA_bind | apply dryV_bind | intro _ | dsimp only | split)
instance {t:TypeId}:DryA (sizeOf t):=by unfold sizeOf;repeat' (first | infer_instance | apply dryA_ite2 | apply dryV_ite2 | apply dryA_bind | apply dryV_bind | intro _ | dsimp only | split)
instance {t:TypeId}:DryA (isAgg t):=by unfold isAgg;repeat' (first | infer_instance | apply dryA_ite2 | apply dryV_ite2 | apply dryA_bind | apply dryV_bind | intro _ | dsimp only | split)
instance {n:Nat}:DryA (askRoom n):=by unfold askRoom;repeat' (first | infer_instance | apply dryA_ite2 | apply dryV_ite2 | apply dryA_bind | apply dryV_bind | intro _ | dsimp only | split)
instance {o:BinOp} {k:IntKind} {x y:Int}:DryV (Op.intArith o k x y):=by unfold Op.intArith;repeat' (first | infer_instance | apply dryA_ite2 | apply dryV_ite2 | apply dryA_bind | apply dryV_bind | intro _ | dsimp only | split)
instance {o:BinOp} {k:IntKind} {x y:Int}:DryV (Op.intBits o k x y):=by unfold Op.intBits;repeat' (first | infer_instance | apply dryA_ite2 | apply dryV_ite2 | apply dryA_bind | apply dryV_bind | intro _ | dsimp only | split)
instance {o:BinOp} {x y:Int}:DryV (Op.intCmp o x y):=by unfold Op.intCmp;repeat' (first | infer_instance | apply dryA_ite2 | apply dryV_ite2 | apply dryA_bind | apply dryV_bind | intro _ | dsimp only | split)
instance {o:BinOp} {x y:ByteArray}:DryV (Op.stringOp o x y):=by unfold Op.stringOp;repeat' (first | infer_instance | apply dryA_ite2 | apply dryV_ite2 | apply dryA_bind | apply dryV_bind | intro _ | dsimp only | split)
instance {o:BinOp} {k:FloatKind} {x y:Nat}:DryV (Op.floatArith o k x y):=by unfold Op.floatArith;repeat' (first | infer_instance | apply dryA_ite2 | apply dryV_ite2 | apply dryA_bind | apply dryV_bind | intro _ | dsimp only | split)
instance {o:BinOp} {k:FloatKind} {x y:Nat}:DryV (Op.floatCmp o k x y):=by unfold Op.floatCmp;repeat' (first | infer_instance | apply dryA_ite2 | apply dryV_ite2 | apply dryA_bind | apply dryV_bind | intro _ | dsimp only | split)
instance {v:Value}:DryA (asBool v):=by unfold asBool;repeat' (first | infer_instance | apply dryA_ite2 | apply dryV_ite2 | apply dryA_bind | apply dryV_bind | intro _ | dsimp only | split)
instance {v:Value}:DryA (asIntOf v):=by unfold asIntOf;repeat' (first | infer_instance | apply dryA_ite2 | apply dryV_ite2 | apply dryA_bind | apply dryV_bind | intro _ | dsimp only | split)
instance {v:Value}:DryA (asInt v):=by unfold asInt;repeat' (first | infer_instance | apply dryA_ite2 | apply dryV_ite2 | apply dryA_bind | apply dryV_bind | intro _ | dsimp only | split)
end
section
variable {P:Program} {D:Nat→Prop} {α β:Type} {R:BR}
theorem RunR.dryA [Fns] {s:Sem α} [h:DryA s]:RunR P D (fun _ a b=>a=b) R s s:=(RunR.dry (h.t P)).mono fun _ _ _ h=>h.1
theorem RunR.dryV [Fns] {s:Sem Value} [h:DryV s]:RunR P D VR R s s:=(RunR.dry (h.t P)).mono fun _ a b h=>by obtain ⟨rfl,h⟩:=h;exact .of_flat h
theorem RunR.then [Fns] {γ δ:Type} {Ψ:BR→γ→δ→Prop} {s:Sem α} [DryA s] {f:α→Sem γ} {f':α→Sem δ} (hf:∀ R',le R R'→∀ a,RunR P D Ψ R' (f a) (f' a)):RunR P D Ψ R (s >>= f) (s >>= f') :=
 RunR.bind RunR.dryA fun R' hR a b hab=>by subst hab;exact hf R' hR a
theorem RunR.underlying [Fns] {t:TypeId}:RunR P D (fun _ a b=>a=b∧P.underlying t=some a) R (Go.underlying t) (Go.underlying t):=by
 unfold Go.underlying
 refine RunR.bind RunR.program fun R' _ a b hab=>?_
 obtain ⟨rfl,rfl⟩:=hab
 cases h:b.underlying t with
 | none=>exact RunR.halt
 | some d=>exact RunR.pure ⟨rfl,rfl⟩
theorem RunR.thenU [Fns] {γ δ:Type} {Ψ:BR→γ→δ→Prop} {t:TypeId} {f:TypeDesc→Sem γ} {f':TypeDesc→Sem δ} (hf:∀ R',le R R'→∀ a,P.underlying t=some a→RunR P D Ψ R' (f a) (f' a)):RunR P D Ψ R (Go.underlying t >>= f) (Go.underlying t >>= f') :=
 RunR.bind RunR.underlying fun R' hR a b hab=>by obtain ⟨rfl,h⟩:=hab;exact hf R' hR a h
theorem AR.add {a a':Addr} (h:AR R a a') (n:Nat):AR R (a.add n) (a'.add n):=by
 unfold Addr.add
 split
 ·exact h
 ·exact ⟨h.1,by show a'.off+n=a.off+n;rw [h.2.1],rfl⟩
theorem RunR.loadCellsFrom [Fns] {a a':Addr}:∀ (n i:Nat) {R:BR} (acc acc':Array Value),AR R a a'→AF (VR1 R) acc acc'→RunR P D (fun R'=>AF (VR1 R')) R (Go.loadCellsFrom a i n acc) (Go.loadCellsFrom a' i n acc')
 | 0,i,R,acc,acc',_,h=>by unfold Go.loadCellsFrom;exact RunR.pure h
 | n+1,i,R,acc,acc',ha,h=>by
  unfold Go.loadCellsFrom
  refine RunR.bind (RunR.load (ha.add i)) fun R' hR v v' hv=>?_
  exact RunR.loadCellsFrom n _ _ _ (ha.mono hR) ((h.mono fun _ _=>VR1.mono hR).push hv)
theorem RunR.storeCells [Fns] {a a':Addr}:∀ (vs vs':List Value) (i:Nat) {R:BR},AR R a a'→vs'.length=vs.length→(∀ (j:Nat) (v:Value),vs[j]? = some v→∃ v':Value,vs'[j]? = some v'∧VR1 R v v')→RunR P D (fun _ _ _=>True) R (Go.storeCells a vs i) (Go.storeCells a' vs' i)
 | [],vs',i,R,_,hl,h=>by
  cases vs' with
  | nil=>unfold Go.storeCells;exact RunR.pure trivial
  | cons v l=>simp at hl
 | v :: vs,vs',i,R,ha,hl,h=>by
  cases vs' with
  | nil=>simp at hl
  | cons v' vs' =>
   unfold Go.storeCells
   obtain ⟨x,hx,hv⟩:=h 0 v rfl
   cases hx
   refine RunR.bind (RunR.store (ha.add i) hv) fun R' hR _ _ _=>?_
   refine RunR.storeCells vs vs' _ (ha.mono hR) (by simpa using hl) fun j y hy=>?_
   obtain ⟨y',h1,h2⟩:=h (j+1) y (by simpa using hy)
   exact ⟨y',by simpa using h1,h2.mono hR⟩
theorem RunR.loadVar [Fns] {t:TypeId} {a a':Addr} (h:AR R a a'):RunR P D VR R (Go.loadVar t a) (Go.loadVar t a'):=by
 unfold Go.loadVar
 refine RunR.then fun R1 h1 b=>?_
 cases b with
 | true =>
  refine RunR.then fun R2 h2 n=>?_
  refine RunR.bind (RunR.loadCellsFrom n 0 #[] #[] (h.mono (le_trans h1 h2)) AF.empty) fun R3 _ c c' hc=>?_
  exact RunR.pure (.ofAgg hc)
 | false=>exact (RunR.load (h.mono h1)).mono fun _ _ _ h=>.base h
theorem RunR.storeVar [Fns] {t:TypeId} {a a':Addr} (h:AR R a a') {v v':Value} (hv:VR R v v'):RunR P D (fun _ _ _=>True) R (Go.storeVar t a v) (Go.storeVar t a' v'):=by
 unfold Go.storeVar
 refine RunR.then fun R1 h1 n=>?_
 have hc:=(hv.mono h1).cells
 rw [hc.1]
 have hst:RunR P D (fun _ _ _=>True) R1 (Go.storeCells a v.cells.toList) (Go.storeCells a' v'.cells.toList):=by
  refine RunR.storeCells _ _ _ (h.mono h1) (by simpa using hc.1) fun j x hx=>?_
  obtain ⟨x',h2,h3⟩:=hc.2 j x (by simpa using hx)
  exact ⟨x',by simpa using h2,h3⟩
 dsimp only
 split
 ·exact RunR.halt
 ·exact hst
theorem RunR.newRow [Fns] {t:TypeId} {c c':Array Value} (h:AF (VR1 R) c c'):RunR P D (fun R'=>AR R') R (Go.newRow t c) (Go.newRow t c'):=by
 unfold Go.newRow
 refine RunR.bind (RunR.newObj (D:=D) (o:=.cells c t) (o':=.cells c' t) fun R' hR=>.inl ⟨c,c',t,(0,0),(0,0),rfl,rfl,h.mono fun _ _=>VR1.mono hR,fun h=>h.elim,fun _=>⟨rfl,rfl⟩⟩) fun R' _ n n' hn=>?_
 exact RunR.pure ⟨hn,rfl,rfl⟩
theorem RunR.newVar [Fns] {t:TypeId} {v v':Value} (h:VR R v v'):RunR P D (fun R'=>AR R') R (Go.newVar t v) (Go.newVar t v'):=RunR.newRow h.cells
def flatAgg:Value→Bool
 | .agg c=>c.all flat
 | v=>flat v
theorem flatAgg_vr [Fns] {v:Value} (h:flatAgg v=true):VR R v v:=by
 unfold flatAgg at h
 split at h
 ·rw [Array.all_eq_true] at h
  exact .ofAgg (AF.self fun v hv=>by
   obtain ⟨i,hi,rfl⟩:=Array.mem_iff_getElem.1 hv
   exact .base (.flat (h i hi)))
 ·exact .of_flat h
def zeroT (P:Program) (t:TypeId):Bool:=((P.info? t).bind (·.zero)).all flatAgg
theorem RunR.zeroValue [Fns] {t:TypeId} (hz:zeroT P t=true):RunR P D VR R (Go.zeroValue t) (Go.zeroValue t):=by
 unfold Go.zeroValue
 unfold Go.typeInfo
 refine RunR.bind (Φ:=fun _ a b=>a=b∧P.info? t=some a) ?_ fun R1 _ a b hab=>?_
 ·refine RunR.bind RunR.program fun R1 _ a b hab=>?_
  obtain ⟨rfl,rfl⟩:=hab
  cases h:b.info? t with
  | none=>exact RunR.halt
  | some i=>exact RunR.pure ⟨rfl,rfl⟩
 ·obtain ⟨rfl,h⟩:=hab
  cases hv:a.zero with
  | none=>exact RunR.halt
  | some v=>exact RunR.pure (flatAgg_vr (by unfold zeroT at hz;rw [h] at hz;simpa [hv] using hz))
theorem RunR.alloc [Fns] {t:TypeId} (hz:zeroT P t=true):RunR P D VR R (Instr.alloc t true (.tuple #[])) (Instr.alloc t true (.tuple #[])):=by
 unfold Instr.alloc
 refine RunR.bind (RunR.zeroValue hz) fun R1 _ v v' hv=>?_
 exact RunR.bind (RunR.newVar hv) fun R2 _ a a' ha=>RunR.pure (.base (.base (.ptr ha)))
theorem RunR.box [Fns] {t:TypeId} {v v':Value} (h:VR R v v'):RunR P D VR R (Instr.box t v) (Instr.box t v'):=by
 unfold Instr.box
 exact RunR.bind (RunR.newVar h) fun R2 _ a a' ha=>RunR.pure (.base (.base (.ptr ha)))
theorem RunR.sureAddr [Fns] {v v':Value} (h:VR R v v'):RunR P D (fun R'=>AR R') R (Instr.sureAddr v) (Instr.sureAddr v'):=by
 unfold Instr.sureAddr
 cases h with
 | agg _=>exact RunR.halt
 | base h =>
  cases h with
  | func _ _=>exact RunR.halt
  | base h =>
   cases h with
   | ptr h=>exact RunR.pure h
   | slice _=>exact RunR.halt
   | chan _=>exact RunR.halt
   | flat hf=>cases v <;> first | exact RunR.halt | (rename_i a;cases a <;> first | exact RunR.halt | cases hf)
theorem RunR.loadAt [Fns] {t:TypeId} {v v':Value} (h:VR R v v'):RunR P D VR R (Instr.loadAt t v) (Instr.loadAt t v'):=by
 unfold Instr.loadAt
 exact RunR.bind (RunR.sureAddr h) fun R1 _ a a' ha=>RunR.loadVar ha
theorem RunR.storeAt [Fns] {t:TypeId} {v v' x x':Value} (h:VR R v v') (hx:VR R x x'):RunR P D (fun _ _ _=>True) R (Instr.storeAt t v x) (Instr.storeAt t v' x'):=by
 unfold Instr.storeAt
 exact RunR.bind (RunR.sureAddr h) fun R1 h1 a a' ha=>RunR.storeVar ha (hx.mono h1)
theorem RunR.viewAt [Fns] {r r':Nat} (h:R r r'):RunR P D (fun _ a b=>a=none∧b=none) R (Go.viewAt r) (Go.viewAt r'):=by
 intro wl wa es hw x wl' hr
 obtain ⟨o,o',h1,h2,h3⟩:=hw.obj _ _ h
 rcases h3 with ⟨c,c',e,f,f',rfl,rfl,h4,_⟩ | ⟨a,a',l,rfl,rfl,h4,h5⟩ | ⟨_,hch,hch'⟩
 ·have hl:(Go.viewAt r).run P wl=.ok none wl:=by simp [Go.viewAt,Go.shape,Sem.run,World.shape?,h1]
  have ha:(Go.viewAt r').runT P wa es=(.ok none wa,es):=by
   unfold Go.viewAt
   show Sem.runT P (Sem.bind (Go.shape r') _) wa es=_
   simp only [Go.shape,Sem.bind,Sem.runT,World.shape?,h2]
   rfl
  rw [hl] at hr
  cases hr
  exact ⟨none,wa,es,R,ha,fun e he=>.inl he,hw,⟨le_refl R,fun _ _ h=>.inl h⟩,.refl R D wa,Nat.le_refl _,rfl,rfl⟩
 ·have hl:(Go.viewAt r).run P wl=.ok none wl:=by simp [Go.viewAt,Go.shape,Go.getObj,Sem.run,World.shape?,h1]
  have ha:(Go.viewAt r').runT P wa es=(.ok none wa,es.push ⟨.obj r',false,false⟩):=by
   unfold Go.viewAt
   show Sem.runT P (Sem.bind (Go.shape r') _) wa es=_
   simp only [Go.shape,Sem.bind,Sem.runT,World.shape?,h2]
   show Sem.runT P (Sem.bind (Go.getObj r') _) wa es=_
   simp only [Go.getObj,Sem.bind,Sem.runT,h2]
   rfl
  rw [hl] at hr
  cases hr
  refine ⟨none,wa,_,R,ha,fun e he=>?_,hw,⟨le_refl R,fun _ _ h=>.inl h⟩,.refl R D wa,Nat.le_refl _,rfl,rfl⟩
  rcases Array.mem_push.1 he with h' | rfl
  ·exact .inl h'
  ·exact .inr ⟨rfl,r,h⟩
 ·cases o <;> first | (cases hch;done) | skip
  cases o' <;> first | (cases hch';done) | skip
  have hl:(Go.viewAt r).run P wl=.ok none wl:=by simp [Go.viewAt,Go.shape,Go.getObj,Sem.run,World.shape?,h1]
  have ha:(Go.viewAt r').runT P wa es=(.ok none wa,es.push ⟨.obj r',false,true⟩):=by
   unfold Go.viewAt
   show Sem.runT P (Sem.bind (Go.shape r') _) wa es=_
   simp only [Go.shape,Sem.bind,Sem.runT,World.shape?,h2]
   show Sem.runT P (Sem.bind (Go.getObj r') _) wa es=_
   simp only [Go.getObj,Sem.bind,Sem.runT,h2]
   rfl
  rw [hl] at hr
  cases hr
  refine ⟨none,wa,_,R,ha,fun e he=>?_,hw,⟨le_refl R,fun _ _ h=>.inl h⟩,.refl R D wa,Nat.le_refl _,rfl,rfl⟩
  rcases Array.mem_push.1 he with h' | rfl
  ·exact .inl h'
  ·exact .inr ⟨rfl,r,h⟩
theorem RunR.numberAt [Fns] {r r':Nat} (h:R r r'):RunR P D (fun R' a b=>(a=none∧b=none)∨∃ x x' l,a=some (x,l)∧b=some (x',l)∧AR R' x x') R (Go.numberAt r) (Go.numberAt r'):=by
 intro wl wa es hw x wl' hr
 obtain ⟨o,o',h1,h2,h3⟩:=hw.obj _ _ h
 rcases h3 with ⟨c,c',e,f,f',rfl,rfl,h4,_⟩ | ⟨a,a',l,rfl,rfl,h4,h5⟩ | ⟨_,hch,hch'⟩
 ·have hl:(Go.numberAt r).run P wl=.ok none wl:=by simp [Go.numberAt,Go.shape,Sem.run,World.shape?,h1]
  have ha:(Go.numberAt r').runT P wa es=(.ok none wa,es):=by
   unfold Go.numberAt
   show Sem.runT P (Sem.bind (Go.shape r') _) wa es=_
   simp only [Go.shape,Sem.bind,Sem.runT,World.shape?,h2]
   rfl
  rw [hl] at hr
  cases hr
  exact ⟨none,wa,es,R,ha,fun e he=>.inl he,hw,⟨le_refl R,fun _ _ h=>.inl h⟩,.refl R D wa,Nat.le_refl _,.inl ⟨rfl,rfl⟩⟩
 ·have hl:(Go.numberAt r).run P wl=.ok (some (a,l)) wl:=by simp [Go.numberAt,Go.shape,Go.getObj,Sem.run,World.shape?,h1]
  have ha:(Go.numberAt r').runT P wa es=(.ok (some (a',l)) wa,es.push ⟨.obj r',false,false⟩):=by
   unfold Go.numberAt
   show Sem.runT P (Sem.bind (Go.shape r') _) wa es=_
   simp only [Go.shape,Sem.bind,Sem.runT,World.shape?,h2]
   show Sem.runT P (Sem.bind (Go.getObj r') _) wa es=_
   simp only [Go.getObj,Sem.bind,Sem.runT,h2]
   rfl
  rw [hl] at hr
  cases hr
  refine ⟨_,wa,_,R,ha,fun e he=>?_,hw,⟨le_refl R,fun _ _ h=>.inl h⟩,.refl R D wa,Nat.le_refl _,.inr ⟨a,a',l,rfl,rfl,h4⟩⟩
  rcases Array.mem_push.1 he with h' | rfl
  ·exact .inl h'
  ·exact .inr ⟨rfl,r,h⟩
 ·cases o <;> first | (cases hch;done) | skip
  cases o' <;> first | (cases hch';done) | skip
  have hl:(Go.numberAt r).run P wl=.ok none wl:=by simp [Go.numberAt,Go.shape,Go.getObj,Sem.run,World.shape?,h1]
  have ha:(Go.numberAt r').runT P wa es=(.ok none wa,es.push ⟨.obj r',false,true⟩):=by
   unfold Go.numberAt
   show Sem.runT P (Sem.bind (Go.shape r') _) wa es=_
   simp only [Go.shape,Sem.bind,Sem.runT,World.shape?,h2]
   show Sem.runT P (Sem.bind (Go.getObj r') _) wa es=_
   simp only [Go.getObj,Sem.bind,Sem.runT,h2]
   rfl
  rw [hl] at hr
  cases hr
  refine ⟨none,wa,_,R,ha,fun e he=>?_,hw,⟨le_refl R,fun _ _ h=>.inl h⟩,.refl R D wa,Nat.le_refl _,.inl ⟨rfl,rfl⟩⟩
  rcases Array.mem_push.1 he with h' | rfl
  ·exact .inl h'
  ·exact .inr ⟨rfl,r,h⟩
theorem RunR.behindNumber [Fns] {a a':Addr} (h:AR R a a'):RunR P D (fun R' x y=>AR R' x.1 y.1∧x.2=y.2) R (Go.behindNumber a) (Go.behindNumber a'):=by
 unfold Go.behindNumber
 refine RunR.bind (RunR.numberAt h.1) fun R1 h1 x y hxy=>?_
 rcases hxy with ⟨rfl,rfl⟩ | ⟨x,y,l,rfl,rfl,hxy⟩
 ·exact RunR.pure ⟨h.mono h1,rfl⟩
 ·exact RunR.pure ⟨hxy,rfl⟩
theorem RunR.asNumber [Fns] {a a':Addr} {l:Bool} (h:AR R a a'):RunR P D VR R (Go.asNumber a l) (Go.asNumber a' l):=by
 unfold Go.asNumber
 refine RunR.bind (RunR.newObj (D:=D) (o:=.number a l) (o':=.number a' l) fun R' hR=>.inr (.inl ⟨a,a',l,rfl,rfl,h.mono hR,id⟩)) fun R1 _ n n' hn=>?_
 exact RunR.pure (.base (.base (.ptr ⟨hn,rfl,rfl⟩)))
theorem RunR.noView [Fns] {a a':Addr} (h:AR R a a'):RunR P D (fun _ _ _=>True) R (Go.noView a) (Go.noView a'):=by
 unfold Go.noView
 refine RunR.bind (RunR.viewAt h.1) fun R1 h1 x y hxy=>?_
 obtain ⟨rfl,rfl⟩:=hxy
 exact RunR.pure trivial
theorem RunR.byteOf [Fns] {a a':Addr} (h:AR R a a'):RunR P D (fun _ x y=>x=y) R (Go.byteOf a) (Go.byteOf a'):=by
 unfold Go.byteOf
 rw [h.2.2]
 cases a.spot with
 | some s=>exact RunR.pure rfl
 | none =>
  refine RunR.bind RunR.program fun R1 h1 p q hpq=>?_
  obtain ⟨rfl,rfl⟩:=hpq
  refine RunR.bind (RunR.noView (h.mono h1)) fun R2 h2 _ _ _=>?_
  refine RunR.bind (RunR.shape ((h.mono (le_trans h1 h2)).1)) fun R3 h3 x y hxy=>?_
  subst hxy
  cases x with
  | none=>exact RunR.halt
  | some en =>
   dsimp only
   rw [h.2.1]
   split
   ·exact RunR.pure rfl
   ·split
    ·exact RunR.pure rfl
    ·exact RunR.halt
theorem RunR.partAt [Fns] {a a':Addr} {c b:Nat} (h:AR R a a'):RunR P D (fun R'=>AR R') R (Go.partAt a c b) (Go.partAt a' c b):=by
 unfold Go.partAt
 refine RunR.bind (RunR.byteOf h) fun R1 h1 x y hxy=>?_
 subst hxy
 dsimp only
 have hp:AR R1 { block:=a.block,off:=a.off+c } { block:=a'.block,off:=a'.off+c }:=⟨h1 _ _ h.1,by show a'.off+c=a.off+c;rw [h.2.1],rfl⟩
 refine RunR.bind (RunR.byteOf hp) fun R2 h2 u v huv=>?_
 subst huv
 refine RunR.pure ?_
 split
 ·exact hp.mono h2
 ·exact ⟨(hp.mono h2).1,(hp.mono h2).2.1,rfl⟩
theorem RunR.fieldPlace [Fns] {a a':Addr} {f:Field} (h:AR R a a'):RunR P D (fun R'=>AR R') R (Go.fieldPlace a f) (Go.fieldPlace a' f):=by
 unfold Go.fieldPlace
 refine RunR.then fun R1 h1 n=>?_
 split
 ·exact RunR.partAt (h.mono h1)
 ·exact RunR.pure ((h.mono h1).add _)
theorem RunR.fieldAt [Fns] {s:TypeId} {v v':Value} {f:Nat} (h:VR R v v'):RunR P D VR R (Instr.fieldAt s v f) (Instr.fieldAt s v' f):=by
 unfold Instr.fieldAt
 refine RunR.then fun R1 h1 d=>?_
 cases d <;> first | exact RunR.halt | skip
 rename_i fields
 dsimp only
 cases fields[f]? with
 | none=>exact RunR.halt
 | some fd =>
  refine RunR.bind (RunR.sureAddr (h.mono h1)) fun R2 _ a a' ha=>?_
  exact RunR.bind (RunR.fieldPlace ha) fun R3 _ a a' ha=>RunR.pure (.base (.base (.ptr ha)))
theorem VR.asIntOf [Fns] {v v':Value} (h:VR R v v'):RunR P D (fun _ x y=>x=y) R (Go.asIntOf v) (Go.asIntOf v'):=by
 cases h with
 | agg _=>exact RunR.halt
 | base h =>
  cases h with
  | func _ _=>exact RunR.halt
  | base h =>
   cases h with
   | flat hf=>exact RunR.dryA
   | _=>exact RunR.halt
theorem VR.asBool [Fns] {v v':Value} (h:VR R v v'):RunR P D (fun _ x y=>x=y) R (Go.asBool v) (Go.asBool v'):=by
 cases h with
 | agg _=>exact RunR.halt
 | base h =>
  cases h with
  | func _ _=>exact RunR.halt
  | base h =>
   cases h with
   | flat hf=>exact RunR.dryA
   | _=>exact RunR.halt
theorem boundsPanic_no {k:IntKind} {x y:Int} {c:BoundsCode} {w w':World} {a:α}:(boundsPanic k x y c:Sem α).run P w≠.ok a w':=by
 unfold boundsPanic
 dsimp only
 have key:∀ (s:Sem Bool),(s >>= fun s=>(runtimePanic (.bounds (IntKind.i64.wrap x) y s c):Sem α)).run P w≠.ok a w':=by
  intro s
  rw [Sem.run_bind]
  cases s.run P w with
  | ok s w=>intro h;simp [runtimePanic,Sem.run_bind,goPanic,Sem.run] at h
  | halt _ _=>intro h;cases h
 split
 ·exact key _
 ·exact key _
theorem RunR.bounds [Fns] {Φ:BR→α→β→Prop} {k:IntKind} {x y:Int} {c:BoundsCode} {s':Sem β}:RunR P D Φ R (boundsPanic k x y c:Sem α) s':=fun _ _ _ _ _ _ hr=>(boundsPanic_no hr).elim
theorem RunR.indexAt [Fns] {t:TypeId} {x x' i i':Value} (hx:VR R x x') (hi:VR R i i'):RunR P D VR R (Instr.indexAt t x i) (Instr.indexAt t x' i'):=by
 unfold Instr.indexAt
 refine RunR.bind (VR.asIntOf hi) fun R1 h1 k k' hk=>?_
 subst hk
 obtain ⟨k,n⟩:=k
 dsimp only
 have rest:∀ (R2:BR) (b b':Option Addr) (len:Nat) (elem:TypeId),((b=none∧b'=none)∨∃ a a',b=some a∧b'=some a'∧AR R2 a a') →
   RunR P D VR R2
    (do
     let d ← Go.underlying t
     match b with
     | some a=>if 0≤n∧n < len then do Pure.pure (.pointer (some (a.add (n.toNat * (← sizeOf elem))))) else if (decide (len≤1) && (match d with | .array .. => true | _=>false))=true then unsupported (.noEntry "op/indexAddr.an index out of range at an array of length 0 or 1 (ledger 616)") else boundsPanic k n len .index
     | none=>boundsPanic k n 0 .index:Sem Value)
    (do
     let d ← Go.underlying t
     match b' with
     | some a=>if 0≤n∧n < len then do Pure.pure (.pointer (some (a.add (n.toNat * (← sizeOf elem))))) else if (decide (len≤1) && (match d with | .array .. => true | _=>false))=true then unsupported (.noEntry "op/indexAddr.an index out of range at an array of length 0 or 1 (ledger 616)") else boundsPanic k n len .index
     | none=>boundsPanic k n 0 .index:Sem Value):=by
  intro R2 b b' len elem hb
  refine RunR.then fun R3 h3 d=>?_
  rcases hb with ⟨rfl,rfl⟩ | ⟨a,a',rfl,rfl,ha⟩
  ·exact RunR.bounds
  ·dsimp only
   split
   ·refine RunR.then fun R4 h4 m=>?_
    exact RunR.pure (.base (.base (.ptr ((ha.mono (le_trans h3 h4)).add _))))
   ·cases d <;> (dsimp only;split <;> first | exact RunR.halt | exact RunR.bounds)
 refine RunR.then fun R2 h2 d=>?_
 have hx2:=hx.mono (le_trans h1 h2)
 cases d <;> try exact RunR.halt
 case array len elem =>
  dsimp only
  refine RunR.bind (RunR.sureAddr hx2) fun R3 _ a a' ha=>?_
  exact rest R3 (some a) (some a') len elem (.inr ⟨a,a',rfl,rfl,ha⟩)
 case slice elem =>
  cases hx2 with
  | agg _=>exact RunR.halt
  | base h =>
   cases h with
   | func _ _=>exact RunR.halt
   | base h =>
    cases h with
    | ptr _=>exact RunR.halt
    | chan _=>exact RunR.halt
    | slice h=>exact rest R2 (some _) (some _) _ elem (.inr ⟨_,_,rfl,rfl,h⟩)
    | flat hf =>
     cases x <;> try exact RunR.halt
     rename_i b l c
     cases b with
     | none=>exact rest R2 none none l elem (.inl ⟨rfl,rfl⟩)
     | some _=>cases hf
theorem fill_alike [Fns] {place:Nat→Option (Nat × Nat)}:∀ (l l':List (Nat × Value)) (c c':Array Value),AF (VR1 R) c c'→l'.length=l.length→(∀ (j i:Nat) (v:Value),l[j]? = some (i,v)→∃ v':Value,l'[j]? = some (i,v')∧VR R v v') →
  (Instr.fill place c l=none∧Instr.fill place c' l'=none)∨∃ r r',Instr.fill place c l=some r∧Instr.fill place c' l'=some r'∧AF (VR1 R) r r':=by
 intro l
 induction l with
 | nil =>
  intro l' c c' hc hl _
  cases l' with
  | nil=>exact .inr ⟨c,c',rfl,rfl,hc⟩
  | cons _ _=>simp at hl
 | cons x l ih =>
  intro l' c c' hc hl h
  obtain ⟨i,v⟩:=x
  cases l' with
  | nil=>simp at hl
  | cons x' l' =>
   obtain ⟨v',hx,hv⟩:=h 0 i v rfl
   cases hx
   unfold Instr.fill
   cases place i with
   | none=>exact .inl ⟨rfl,rfl⟩
   | some p =>
    obtain ⟨off,size⟩:=p
    have hcc:=hv.cells
    dsimp only
    rw [hcc.1,hc.1]
    split
    ·exact .inl ⟨rfl,rfl⟩
    ·refine ih l' _ _ ?_ (by simpa using hl) fun j i' y hy=>?_
     ·rw [← Array.foldl_toList,← Array.foldl_toList]
      have key:∀ (n m:Nat) (d d':Array Value),AF (VR1 R) d d'→v.cells.size - m=n →
        AF (VR1 R) (((v.cells.zipIdx).toList.drop m).foldl (fun cs (x:Value × Nat)=>cs.setIfInBounds (off+x.2) x.1) d) (((v'.cells.zipIdx).toList.drop m).foldl (fun cs (x:Value × Nat)=>cs.setIfInBounds (off+x.2) x.1) d'):=by
       intro n
       induction n with
       | zero =>
        intro m d d' hd hm
        have e1:(v.cells.zipIdx).toList.drop m=[]:=List.drop_eq_nil_of_le (by simp;omega)
        have e2:(v'.cells.zipIdx).toList.drop m=[]:=List.drop_eq_nil_of_le (by simp [hcc.1];omega)
        rw [e1,e2];exact hd
       | succ n ihn =>
        intro m d d' hd hm
        have hlt:m < v.cells.size:=by omega
        have hlt':m < v'.cells.size:=by rw [hcc.1];exact hlt
        rw [List.drop_eq_getElem_cons (i:=m) (by simpa using hlt),List.drop_eq_getElem_cons (i:=m) (l:=(v'.cells.zipIdx).toList) (by simpa using hlt')]
        rw [List.foldl_cons,List.foldl_cons]
        refine ihn (m+1) _ _ ?_ (by omega)
        simp only [Array.getElem_toList,Array.getElem_zipIdx]
        refine hd.set ?_
        obtain ⟨y',h1,h2⟩:=hcc.2 m v.cells[m] (Array.getElem?_eq_getElem hlt)
        rw [Array.getElem?_eq_getElem hlt'] at h1
        cases h1
        exact h2
      have:=key _ 0 c c' hc rfl
      simpa using this
     ·obtain ⟨y',h1,h2⟩:=h (j+1) i' y (by simpa using hy)
      exact ⟨y',by simpa using h1,h2⟩
theorem RunR.build [Fns] {t:TypeId} (hz:zeroT P t=true) {ps:Array (Nat × Operand)} {ρ ρ':Operand→Value} (h:∀ p∈ps,VR R (ρ p.2) (ρ' p.2)) :
  RunR P D VR R (Instr.build t (ps.map fun (i,x)=>(i,ρ x))) (Instr.build t (ps.map fun (i,x)=>(i,ρ' x))):=by
 have hl:∀ {R':BR},le R R'→∀ (j i:Nat) (v:Value),(ps.map fun (i,x)=>(i,ρ x)).toList[j]? = some (i,v)→∃ v':Value,(ps.map fun (i,x)=>(i,ρ' x)).toList[j]? = some (i,v')∧VR R' v v':=by
  intro R' hR j i v hj
  simp only [Array.toList_map,List.getElem?_map] at hj ⊢
  obtain ⟨p,hp,he⟩:=Option.map_eq_some_iff.1 hj
  obtain ⟨i0,x⟩:=p
  cases he
  refine ⟨ρ' x,by rw [hp];rfl,(h _ ?_).mono hR⟩
  have:=List.mem_of_getElem? hp
  simpa using this
 unfold Instr.build
 refine RunR.bind (RunR.zeroValue hz) fun R1 h1 z z' hzz=>?_
 dsimp only
 refine RunR.then fun R2 h2 d=>?_
 cases d <;> try exact RunR.halt
 case struct fields =>
  dsimp only
  refine RunR.bind (Φ:=fun _ a b=>a=b) ?_ fun R3 h3 pl pl' hpl=>?_
  ·have:Sr.DryA (fields.mapM fun f=>do Pure.pure (f.offset,← sizeOf f.type):Sem (Array (Nat × Nat))):=by
    rw [Array.mapM_eq_foldlM,← Array.foldlM_toList]
    have key:∀ (l:List Field) (acc:Array (Nat × Nat)),Sr.DryA (l.foldlM (fun bs a=>bs.push <$> (do Pure.pure (a.offset,← sizeOf a.type):Sem (Nat × Nat))) acc:Sem (Array (Nat × Nat))):=by
     intro l
     induction l with
     | nil=>intro acc;rw [List.foldlM_nil];infer_instance
     | cons x l ih=>intro acc;rw [List.foldlM_cons];exact dryA_bind inferInstance fun b=>ih b
    exact key _ _
   exact RunR.dryA
  ·subst hpl
   rcases fill_alike (R:=R3) (place:=(pl[·]?)) _ _ z.cells z'.cells ((hzz.mono (le_trans h2 h3)).cells) (by simp) (hl (le_trans h1 (le_trans h2 h3))) with ⟨e1,e2⟩ | ⟨r,r',e1,e2,hr⟩
   ·rw [e1];exact RunR.halt
   ·rw [e1,e2];exact RunR.pure (.ofAgg hr)
 case array n elem =>
  dsimp only
  refine RunR.then fun R3 h3 m=>?_
  rcases fill_alike (R:=R3) (place:=fun i=>some (i * m,m)) _ _ z.cells z'.cells ((hzz.mono (le_trans h2 h3)).cells) (by simp) (hl (le_trans h1 (le_trans h2 h3))) with ⟨e1,e2⟩ | ⟨r,r',e1,e2,hr⟩
  ·rw [e1];exact RunR.halt
  ·rw [e1,e2];exact RunR.pure (.ofAgg hr)
theorem RunR.unsafeAdd [Fns] {t:TypeId} {a a':Addr} {y y':Value} (h:AR R a a') (hy:VR R y y'):RunR P D (fun R' x x'=>∃ b b',x=.pointer (some b)∧x'=.pointer (some b')∧AR R' b b') R (Builtin.unsafeAdd_ #[] t #[.pointer (some a),y]) (Builtin.unsafeAdd_ #[] t #[.pointer (some a'),y']):=by
 show RunR P D _ R (Go.asInt y >>= _) (Go.asInt y' >>= _)
 have hai:RunR P D (fun _ x y=>x=y) R (Go.asInt y) (Go.asInt y'):=by
  unfold Go.asInt
  exact RunR.bind (VR.asIntOf hy) fun R1 _ x y hxy=>by subst hxy;exact RunR.pure rfl
 refine RunR.bind hai fun R1 h1 n n' hn=>?_
 subst hn
 have hmove:∀ (R2:BR),le R1 R2→RunR P D (fun R' x x'=>∃ b b',x=.pointer (some b)∧x'=.pointer (some b')∧AR R' b b') R2
   (do
    let some (e,cells) ← Go.shape a.block | unsupported (.unsafePointer "Add")
    let p ← Go.program
    match cellAtBytes p p.depth e (cells / p.cellsOf e) a.off n with
    | some off=>Pure.pure (.pointer (some { a with off }))
    | none=>unsupported (.unsafePointer "Add"):Sem Value)
   (do
    let some (e,cells) ← Go.shape a'.block | unsupported (.unsafePointer "Add")
    let p ← Go.program
    match cellAtBytes p p.depth e (cells / p.cellsOf e) a'.off n with
    | some off=>Pure.pure (.pointer (some { a' with off }))
    | none=>unsupported (.unsafePointer "Add"):Sem Value):=by
  intro R2 h2
  refine RunR.bind (RunR.shape ((h.mono (le_trans h1 h2)).1)) fun R3 h3 x y hxy=>?_
  subst hxy
  cases x with
  | none=>exact RunR.halt
  | some en =>
   obtain ⟨e,cells⟩:=en
   dsimp only
   refine RunR.bind RunR.program fun R4 h4 p q hpq=>?_
   obtain ⟨rfl,rfl⟩:=hpq
   rw [h.2.1]
   split
   ·exact RunR.pure ⟨_,_,rfl,rfl,(h.mono (le_trans h1 (le_trans h2 (le_trans h3 h4)))).1,rfl,h.2.2⟩
   ·exact RunR.halt
 by_cases h0:n=0
 ·simp only [h0,if_true]
  refine RunR.bind (RunR.viewAt (h1 _ _ h.1)) fun R2 h2 x y hxy=>?_
  obtain ⟨rfl,rfl⟩:=hxy
  exact RunR.pure ⟨a,a',rfl,rfl,h.mono (le_trans h1 h2)⟩
 ·simp only [h0,if_false]
  by_cases hn:n < 0
  ·simp only [hn,if_true]
   exact RunR.halt
  ·simp only [hn,if_false]
   exact hmove R1 (le_refl _)
def IsInt (P:Program) (t:TypeId):Prop:=∃ k,P.underlying t=some (.int k)
theorem RunR.movedNumber [Fns] {t:TypeId} (ht:IsInt P t) {a a':Addr} {y y':Value} (h:AR R a a') (hy:VR R y y'):RunR P D VR R (Go.movedNumber t (.pointer (some a)) y) (Go.movedNumber t (.pointer (some a')) y'):=by
 obtain ⟨k,hk⟩:=ht
 unfold Go.movedNumber
 refine RunR.thenU fun R1 h1 d hd=>?_
 rw [hk] at hd
 cases hd
 refine RunR.bind (RunR.behindNumber (h.mono h1)) fun R2 h2 x x' hx=>?_
 obtain ⟨b,l⟩:=x
 obtain ⟨b',l'⟩:=x'
 obtain ⟨hb,hl⟩:=hx
 cases hl
 refine RunR.bind (RunR.unsafeAdd hb (hy.mono (le_trans h1 h2))) fun R3 h3 x x' hx=>?_
 obtain ⟨c,c',rfl,rfl,hc⟩:=hx
 exact RunR.asNumber hc
theorem RunR.twoPlaces [Fns] {Φ:BR→Nat × Nat→Nat × Nat→Prop} {a b:Addr} {a':Addr} (h:AR R a a') {s':Sem (Nat × Nat)}:RunR P D Φ R (Op.twoPlaces a b) s':=by
 intro wl wa es hw x wl' hr
 exfalso
 have hg:=(hw.new _ _ h.1).1
 unfold Op.twoPlaces at hr
 rw [Sem.run_bind] at hr
 have:(Go.program).run P wl=.ok P wl:=rfl
 rw [this] at hr
 have hc:(a.block != b.block || decide (a.block ≥ P.globals.size))=true:=by simp [hg]
 simp only [Result.andThen,hc,if_true] at hr
 cases hr
theorem RunR.addrMod [Fns] {k:IntKind} {n:Int} {a a':Addr} (h:AR R a a'):RunR P D VR R (Op.addrMod k a n) (Op.addrMod k a' n):=by
 unfold Op.addrMod
 refine RunR.bind (RunR.shape h.1) fun R1 h1 x y hxy=>?_
 subst hxy
 cases x with
 | none=>exact RunR.halt
 | some en =>
  obtain ⟨e,cells⟩:=en
  dsimp only
  refine RunR.then fun R2 h2 i=>?_
  split
  ·exact RunR.halt
  ·refine RunR.bind (RunR.byteOf (h.mono (le_trans h1 h2))) fun R3 _ x y hxy=>?_
   subst hxy
   exact RunR.pure VR.int
def isNum:Value→Bool
 | .int .. | .pointer (some _)=>true
 | _=>false
theorem VR.num [Fns] {x x':Value} (h:VR R x x') (hn:isNum x=true):(∃ k n,x=.int k n∧x'=.int k n)∨∃ a a',x=.pointer (some a)∧x'=.pointer (some a')∧AR R a a':=by
 cases h with
 | agg _=>cases hn
 | base h =>
  cases h with
  | func _ _=>cases hn
  | base h =>
   cases h with
   | slice _=>cases hn
   | chan _=>cases hn
   | ptr ha=>exact .inr ⟨_,_,rfl,rfl,ha⟩
   | flat hf =>
    cases x <;> first | exact .inl ⟨_,_,rfl,rfl⟩ | (cases hn;done) | skip
    case pointer p =>
     cases p with
     | none=>cases hn
     | some _=>cases hf
def okBin:BinOp→Bool
 | .add | .sub | .and | .or | .shl | .shr | .lss | .leq | .eql=>true
 | _=>false
theorem RunR.equalInt [Fns] {t:TypeId} (ht:IsInt P t) {x x' y y':Value} (hx:VR R x x') (hy:VR R y y'):RunR P D (fun _ a b=>a=b) R (Op.equal t x y) (Op.equal t x' y'):=by
 obtain ⟨k,hk⟩:=ht
 unfold Op.equal
 show RunR P D _ R (Op.equalIn (9999+1) t x y) (Op.equalIn (9999+1) t x' y')
 unfold Op.equalIn
 refine RunR.thenU fun R1 h1 d hd=>?_
 rw [hk] at hd
 cases hd
 have ptrptr:∀ {a a' b b':Addr},AR R a a'→AR R b b'→RunR P D (fun _ a b=>a=b) R1
   (do
    let (a,b):=((← Go.behindNumber a).1,(← Go.behindNumber b).1)
    if a.block == b.block && a.block < (← Go.program).globals.size then return (← Go.byteOf a) == (← Go.byteOf b)
    let .named "sync.copyChecker" _:=(← typeInfo t).desc | unsupported .addressObserved
    if a == b then Pure.pure true else unsupported .addressObserved:Sem Bool)
   (do
    let (a,b):=((← Go.behindNumber a').1,(← Go.behindNumber b').1)
    if a.block == b.block && a.block < (← Go.program).globals.size then return (← Go.byteOf a) == (← Go.byteOf b)
    let .named "sync.copyChecker" _:=(← typeInfo t).desc | unsupported .addressObserved
    if a == b then Pure.pure true else unsupported .addressObserved:Sem Bool):=by
  intro a a' b b' ha hb
  refine RunR.bind (RunR.behindNumber (ha.mono h1)) fun R2 h2 x x' hx=>?_
  refine RunR.bind (RunR.behindNumber (hb.mono (le_trans h1 h2))) fun R3 h3 y y' hy=>?_
  dsimp only
  refine RunR.bind RunR.program fun R4 h4 p q hpq=>?_
  rw [hpq.1,hpq.2]
  have hxa:=(hx.1).mono (le_trans h3 h4)
  have hya:=(hy.1).mono h4
  intro wl wa es hw r wl' hr
  have g1:=hw.new _ _ hxa.1
  have e1:(x.1.block == y.1.block && decide (x.1.block < P.globals.size))=false:=by simp;omega
  have e2:(x'.1.block == y'.1.block && decide (x'.1.block < P.globals.size))=false:=by simp;omega
  simp only [e1,Bool.false_eq_true,if_false] at hr
  simp only [e2,Bool.false_eq_true,if_false]
  refine RunR.bind (P:=P) (D:=D) (Φ:=fun _ a b=>a=b) (s:=typeInfo t) (s':=typeInfo t) RunR.dryA (fun R5 h5 i i' hi=>?_) wl wa es hw r wl' hr
  subst hi
  split
  ·intro wl wa es hw r wl' hr
   by_cases he:x.1=y.1
   ·have he':x'.1=y'.1:=by
     have hb1:=hw.fn _ _ _ (h5 _ _ hxa.1) (he ▸ h5 _ _ hya.1)
     have o1:=hxa.2;have o2:=hya.2
     rw [he] at o1
     cases hx1:x'.1;cases hy1:y'.1
     rw [hx1,hy1] at hb1
     rw [hx1] at o1;rw [hy1] at o2
     simp_all
    rw [if_pos (by simpa using he)] at hr
    rw [if_pos (by simpa using he')]
    exact RunR.pure (P:=P) (D:=D) (Φ:=fun _ a b=>a=b) rfl wl wa es hw r wl' hr
   ·rw [if_neg (by simpa using he)] at hr
    cases hr
  ·exact RunR.halt
 by_cases hxn:isNum x=true
 ·by_cases hyn:isNum y=true
  ·have hx':=VR.num hx hxn
   have hy':=VR.num hy hyn
   rcases hx' with ⟨k1,n,rfl,rfl⟩ | ⟨a,a',rfl,rfl,ha⟩
   ·rcases hy' with ⟨k2,m,rfl,rfl⟩ | ⟨b,b',rfl,rfl,hb⟩
    ·show RunR P D _ R1 (if k1=k2 then Pure.pure (n == m) else stuck _) (if k1=k2 then Pure.pure (n == m) else stuck _)
     split
     ·exact RunR.pure rfl
     ·exact RunR.halt
    ·by_cases hn:n=0
     ·subst hn;exact RunR.pure rfl
     ·split <;> first | exact RunR.halt | contradiction | (simp_all;done)
   ·rcases hy' with ⟨k2,m,rfl,rfl⟩ | ⟨b,b',rfl,rfl,hb⟩
    ·by_cases hn:m=0
     ·subst hn;exact RunR.pure rfl
     ·split <;> first | exact RunR.halt | contradiction | (simp_all;done)
    ·exact ptrptr ha hb
  ·clear hy hx ptrptr
   cases x <;> first | (cases hxn;done) | skip
   case int k1 n =>
    cases y <;> first | exact (hyn rfl).elim | (split <;> first | exact RunR.halt | contradiction) | skip
    case pointer p =>
     cases p with
     | some b=>exact (hyn rfl).elim
     | none=>split <;> first | exact RunR.halt | contradiction | (simp_all;done)
   case pointer p =>
    cases p with
    | none=>cases hxn
    | some a=>cases y <;> first | exact RunR.halt | exact (hyn rfl).elim | (rename_i b;cases b <;> first | exact RunR.halt | exact (hyn rfl).elim)
 ·clear hy hx ptrptr
  cases x <;> first | exact (hxn rfl).elim | (cases y <;> first | exact RunR.halt | (rename_i b;cases b <;> exact RunR.halt)) | skip
  case pointer p =>
   cases p with
   | some a=>exact (hxn rfl).elim
   | none=>cases y <;> first | exact RunR.halt | (rename_i b;cases b <;> exact RunR.halt)
end
end Go.Sr
namespace Go.Sr
open Go
open Go.Tm
section
variable {P:Program} {D:Nat→Prop} {α β:Type} {R:BR}
theorem RunR.haltL [Fns] {Φ:BR→α→β→Prop} {s:Sem α} {s':Sem β} (h:∀ w a w',s.run P w≠.ok a w'):RunR P D Φ R s s':=fun _ _ _ _ _ _ hr=>(h _ _ _ hr).elim
theorem DryS.mono {Q Q':α→Prop} (h:∀ a,Q a→Q' a) {s:Sem α} (x:DryS P Q s):DryS P Q' s:=by
 have:=DryS.bind (f:=fun a=>(Pure.pure a:Sem α)) (Q':=Q') (fun a ha=>h a ha) x
 have e:∀ s:Sem α,s >>= (fun a=>(Pure.pure a:Sem α))=s:=by
  intro s
  show Sem.bind s (fun a=>Sem.pure a)=s
  induction s with
  | pure a=>rfl
  | halt _=>rfl
  | load m a k ih=>simp only [Sem.bind,ih]
  | store m a v k ih=>simp only [Sem.bind,ih]
  | new o k ih=>simp only [Sem.bind,ih]
  | shape r k ih=>simp only [Sem.bind,ih]
  | freeze a n k ih=>simp only [Sem.bind,ih]
  | frozen a k ih=>simp only [Sem.bind,ih]
  | getObj r k ih=>simp only [Sem.bind,ih]
  | setObj r o k ih=>simp only [Sem.bind,ih]
  | choose q k ih=>simp only [Sem.bind,ih]
  | sys c k ih=>simp only [Sem.bind,ih]
  | program k ih=>simp only [Sem.bind,ih]
  | mark m k ih=>simp only [Sem.bind,ih]
 rw [e] at this
 exact this
theorem dryA_of_V {s:Sem Value} (h:DryV s):DryA s:=⟨fun P=>DryS.mono (fun _ _=>trivial) (h.t P)⟩
instance {o:BinOp} {k:FloatKind} {x y:Nat}:DryA (Op.Complex.arith o k x y):=by
 unfold Op.Complex.arith
 refine dryA_bind (dryA_of_V inferInstance) fun v=>?_
 split <;> infer_instance
instance {o:BinOp} {k:FloatKind} {x y:Nat}:DryA (Op.Complex.cmp o k x y):=by
 unfold Op.Complex.cmp
 exact dryA_bind (dryA_of_V inferInstance) fun v=>inferInstance
instance {m:String}:DryV (runtimePanic (.error m):Sem Value):=⟨fun _=>trivial⟩
instance {o:BinOp} {k k':IntKind} {x y:Int}:DryV (Op.shift o k x k' y):=by
 unfold Op.shift
 split
 ·infer_instance
 ·dsimp only
  split <;> infer_instance
theorem unsafe_none {t:TypeId} {y:Value} {w w':World} {a:Value}:(Builtin.unsafeAdd_ #[] t #[.pointer none,y]).run P w≠.ok a w':=by
 intro hr
 change ((Go.asInt y) >>= _).run P w=_ at hr
 rw [Sem.run_bind] at hr
 cases ha:(Go.asInt y).run P w with
 | halt h w1=>rw [ha] at hr;cases hr
 | ok n w1 =>
  rw [ha] at hr
  simp only [Result.andThen_ok] at hr
  by_cases h0:n=0
  ·simp only [h0,if_true] at hr
   cases hr
  ·simp only [h0,if_false] at hr
   by_cases h1:n < 0
   ·simp only [h1,if_true] at hr
    cases hr
   ·simp only [h1,if_false] at hr
    cases hr
theorem moved_none_run [Fns] {t:TypeId} (ht:IsInt P t) {y:Value} {w w':World} {a:Value}:(Go.movedNumber t (.pointer none) y).run P w≠.ok a w':=by
 obtain ⟨k,hk⟩:=ht
 intro hr
 unfold Go.movedNumber Go.underlying at hr
 simp only [Sem.run_bind,run_program,Result.andThen_ok,hk,Sem.run_pure,Bool.false_eq_true,if_false] at hr
 exact unsafe_none hr
theorem moved_none [Fns] {t:TypeId} (ht:IsInt P t) {y:Value} {Φ:BR→Value→β→Prop} {s':Sem β}:RunR P D Φ R (Go.movedNumber t (.pointer none) y) s':=RunR.haltL fun _ _ _=>moved_none_run ht
theorem add_none [Fns] {t:TypeId} (ht:IsInt P t) {y:Value} {Φ:BR→Value→β→Prop} {s':Sem β}:RunR P D Φ R (do if (← Go.underlying t) matches .unsafePointer then Go.movedPointer t (.pointer none) y else Go.movedNumber t (.pointer none) y) s':=by
 have ht':=ht
 obtain ⟨k,hk⟩:=ht
 refine RunR.haltL fun w a w' hr=>?_
 unfold Go.underlying at hr
 simp only [Sem.run_bind,run_program,Result.andThen_ok,hk,Sem.run_pure,Bool.false_eq_true,if_false] at hr
 exact moved_none_run ht' hr
theorem VR.flat_eq [Fns] {v v':Value} (h:VR R v v') (hf:flat v=true):v'=v:=by
 cases h with
 | agg _=>cases hf
 | base h =>
  cases h with
  | func _ _=>cases hf
  | base h =>
   cases h with
   | flat _=>rfl
   | ptr _=>cases hf
   | slice _=>cases hf
   | chan _=>cases hf
def other:Value→Value→Bool
 | .int ..,.int .. | .float ..,.float .. | .complex ..,.complex .. | .string _,.string _=>false
 | _,_=>true
theorem binOp_eql {t:TypeId} {x y:Value} (h:other x y=true):Go.binOp .eql t x y=(do Pure.pure (.bool (← Op.equal t x y)):Sem Value):=by
 cases x <;> cases y <;> first | rfl | cases h
theorem VR.other [Fns] {x x' y y':Value} (hx:VR R x x') (hy:VR R y y'):Sr.other x' y'=Sr.other x y:=by
 have key:∀ {v v':Value},VR R v v'→v'=v∨((∀ z,Sr.other v z=true)∧(∀ z,Sr.other v' z=true)∧(∀ z,Sr.other z v=true)∧(∀ z,Sr.other z v'=true)):=by
  intro v v' h
  cases h with
  | agg _=>exact .inr ⟨fun z=>by cases z <;> rfl,fun z=>by cases z <;> rfl,fun z=>by cases z <;> rfl,fun z=>by cases z <;> rfl⟩
  | base h =>
   cases h with
   | func _ _=>exact .inr ⟨fun z=>by cases z <;> rfl,fun z=>by cases z <;> rfl,fun z=>by cases z <;> rfl,fun z=>by cases z <;> rfl⟩
   | base h =>
    cases h with
    | flat _=>exact .inl rfl
    | ptr _=>exact .inr ⟨fun z=>by cases z <;> rfl,fun z=>by cases z <;> rfl,fun z=>by cases z <;> rfl,fun z=>by cases z <;> rfl⟩
    | slice _=>exact .inr ⟨fun z=>by cases z <;> rfl,fun z=>by cases z <;> rfl,fun z=>by cases z <;> rfl,fun z=>by cases z <;> rfl⟩
    | chan _=>exact .inr ⟨fun z=>by cases z <;> rfl,fun z=>by cases z <;> rfl,fun z=>by cases z <;> rfl,fun z=>by cases z <;> rfl⟩
 rcases key hx with rfl | ⟨h1,h2,h3,h4⟩
 ·rcases key hy with rfl | ⟨k1,k2,k3,k4⟩
  ·rfl
  ·rw [k3,k4]
 ·rw [h1,h2]
theorem bin_dry [Fns] {t:TypeId} {o:BinOp} (ho:okBin o=true) {x y:Value} (h:Sr.other x y=false):DryV (Go.binOp o t x y):=by
 cases x <;> cases y <;> first | (cases h;done) | skip
 all_goals (unfold Go.binOp;cases o <;> first | (cases ho;done) | skip)
 all_goals dsimp only
 all_goals first
  | infer_instance
  | exact dryV_ite2 inferInstance inferInstance
  | (refine dryV_ite2 inferInstance ?_;unfold Op.complexOp;dsimp only;infer_instance)
theorem RunR.binOp_rest [Fns] {t:TypeId} (ht:IsInt P t) {o:BinOp} (ho:okBin o=true) (hoe:o≠.eql) {x y:Value} {s':Sem Value}
  (hn:¬ (isNum x=true∧isNum y=true)) (hot:Sr.other x y=true):RunR P D VR R (Go.binOp o t x y) s':=by
 unfold Go.binOp
 cases o <;> first | (cases ho;done) | exact (hoe rfl).elim | skip
 all_goals
  cases x
  case pointer p =>
   cases p <;> cases y <;> first | exact RunR.halt | exact (hn ⟨rfl,rfl⟩).elim | exact moved_none ht | exact add_none ht | (rename_i q;cases q <;> first | exact RunR.halt | exact (hn ⟨rfl,rfl⟩).elim | exact moved_none ht | exact add_none ht)
  all_goals (cases y <;> first | exact RunR.halt | (cases hot;done) | exact moved_none ht | exact add_none ht | (rename_i q;cases q <;> first | exact RunR.halt | exact (hn ⟨rfl,rfl⟩).elim | exact moved_none ht | exact add_none ht))
theorem RunR.binOp [Fns] {t:TypeId} (ht:IsInt P t) {o:BinOp} (ho:okBin o=true) {x x' y y':Value} (hx:VR R x x') (hy:VR R y y'):RunR P D VR R (Go.binOp o t x y) (Go.binOp o t x' y'):=by
 have heq:∀ {a a' b b':Value},VR R a a'→VR R b b'→RunR P D VR R (do Pure.pure (.bool (← Op.equal t a b)):Sem Value) (do Pure.pure (.bool (← Op.equal t a' b')):Sem Value):=by
  intro a a' b b' ha hb
  refine RunR.bind (RunR.equalInt ht ha hb) fun R1 _ u v huv=>?_
  subst huv
  exact RunR.pure VR.bool
 by_cases hot:Sr.other x y=true
 rotate_left
 ·have hot:Sr.other x y=false:=by simpa using hot
  have hxy:x'=x∧y'=y:=by
   cases x <;> cases y <;> first | (cases hot;done) | exact ⟨hx.flat_eq rfl,hy.flat_eq rfl⟩
  rw [hxy.1,hxy.2]
  exact RunR.dryV (h:=bin_dry ho hot)
 by_cases hoe:o=.eql
 ·subst hoe
  rw [binOp_eql hot,binOp_eql (by rw [hx.other hy];exact hot)]
  exact heq hx hy
 by_cases hxn:isNum x=true
 ·by_cases hyn:isNum y=true
  ·rcases VR.num hx hxn with ⟨k1,n,rfl,rfl⟩ | ⟨a,a',rfl,rfl,ha⟩
   ·rcases VR.num hy hyn with ⟨k2,m,rfl,rfl⟩ | ⟨b,b',rfl,rfl,hb⟩
    ·unfold Go.binOp
     cases o <;> first | (cases ho;done) | skip
     all_goals dsimp only
     all_goals first | exact RunR.dryV | ((try dsimp only);split <;> first | exact RunR.halt | exact RunR.dryV | (unfold Op.complexOp;dsimp only;exact RunR.dryV))
    ·unfold Go.binOp
     cases o <;> first | (cases ho;done) | exact RunR.halt | exact heq hx hy | skip
     case add=>exact RunR.movedNumber ht hb VR.int
     case and=>exact RunR.bind (RunR.behindNumber hb) fun R1 _ u v huv=>RunR.addrMod huv.1
   ·rcases VR.num hy hyn with ⟨k2,m,rfl,rfl⟩ | ⟨b,b',rfl,rfl,hb⟩
    ·unfold Go.binOp
     cases o <;> first | (cases ho;done) | exact RunR.halt | exact heq hx hy | skip
     case add =>
      refine RunR.thenU fun R1 h1 d hd=>?_
      obtain ⟨k,hk⟩:=ht
      rw [hk] at hd
      cases hd
      exact RunR.movedNumber ⟨k,hk⟩ (ha.mono h1) VR.int
     case sub=>exact RunR.movedNumber ht ha VR.int
     case and=>exact RunR.bind (RunR.behindNumber ha) fun R1 _ u v huv=>RunR.addrMod huv.1
    ·unfold Go.binOp
     cases o <;> first | (cases ho;done) | exact RunR.halt | exact heq hx hy | skip
     case sub =>
      refine RunR.bind (RunR.behindNumber ha) fun R1 h1 u v huv=>?_
      refine RunR.bind (RunR.behindNumber (hb.mono h1)) fun R2 h2 u2 v2 huv2=>?_
      exact RunR.bind (Φ:=fun _ _ _=>False) (RunR.twoPlaces (huv.1.mono h2)) fun _ _ _ _ h=>h.elim
     case lss =>
      refine RunR.bind (RunR.behindNumber ha) fun R1 h1 u v huv=>?_
      refine RunR.bind (RunR.behindNumber (hb.mono h1)) fun R2 h2 u2 v2 huv2=>?_
      exact RunR.bind (Φ:=fun _ _ _=>False) (RunR.twoPlaces (huv.1.mono h2)) fun _ _ _ _ h=>h.elim
     case leq =>
      refine RunR.bind (RunR.behindNumber ha) fun R1 h1 u v huv=>?_
      refine RunR.bind (RunR.behindNumber (hb.mono h1)) fun R2 h2 u2 v2 huv2=>?_
      exact RunR.bind (Φ:=fun _ _ _=>False) (RunR.twoPlaces (huv.1.mono h2)) fun _ _ _ _ h=>h.elim
  ·exact RunR.binOp_rest ht ho hoe (fun h=>hyn h.2) hot
 ·exact RunR.binOp_rest ht ho hoe (fun h=>hxn h.1) hot
theorem RunR.iteP [Fns] {Φ:BR→α→β→Prop} {c:Prop} [Decidable c] {a b:Sem α} {a' b':Sem β} (h1:RunR P D Φ R a a') (h2:RunR P D Φ R b b'):RunR P D Φ R (if c then a else b) (if c then a' else b'):=by split <;> assumption
theorem guardIn_int [Fns] {t:TypeId} (ht:IsInt P t) {x x' y y':Value}:RunR P D (fun _ a b=>a=false∧b=false) R (Op.eqGuardIn Op.maxDepth t x y) (Op.eqGuardIn Op.maxDepth t x' y'):=by
 obtain ⟨k,hk⟩:=ht
 show RunR P D _ R (Op.eqGuardIn (9999+1) t x y) (Op.eqGuardIn (9999+1) t x' y')
 unfold Op.eqGuardIn
 refine RunR.thenU fun R1 h1 d hd=>?_
 rw [hk] at hd
 cases hd
 exact RunR.pure ⟨rfl,rfl⟩
def guarded:Value→Value→Bool
 | .nilIface,.nilIface | .agg _,.agg _=>true
 | _,_=>false
theorem eqGuard_no {t:TypeId} {o:BinOp} {x y:Operand} {a b:Value} (h:guarded a b=false):Go.eqGuard o t x y a b=Pure.pure ():=by
 unfold Go.eqGuard
 cases o <;> first | rfl | (cases a <;> cases b <;> first | rfl | cases h)
theorem RunR.eqGuard [Fns] {t:TypeId} (ht:IsInt P t) {o:BinOp} {x y:Operand} {a a' b b':Value} (ha:VR R a a') (hb:VR R b b'):RunR P D (fun _ _ _=>True) R (Go.eqGuard o t x y a b) (Go.eqGuard o t x y a' b'):=by
 have agg:∀ c d c' d',RunR P D (fun _ _ _=>True) R (Go.eqGuard o t x y (.agg c) (.agg d)) (Go.eqGuard o t x y (.agg c') (.agg d')):=by
  intro c d c' d'
  unfold Go.eqGuard
  cases o <;> first | exact RunR.pure trivial | skip
  all_goals
   simp only [Bool.not_true,Bool.false_eq_true,if_false]
   refine RunR.bind RunR.program fun R1 _ p q hpq=>?_
   refine RunR.bind RunR.program fun R1 _ p2 q2 hpq2=>?_
   rw [hpq.1,hpq.2,hpq2.1,hpq2.2]
   split
   ·exact RunR.pure trivial
   ·refine RunR.bind (guardIn_int ht) fun R2 _ u v huv=>?_
    obtain ⟨rfl,rfl⟩:=huv
    exact RunR.pure trivial
 by_cases hg:guarded a b=true
 ·cases a <;> cases b <;> first | (cases hg;done) | skip
  case agg c d =>
   cases ha with
   | agg _ =>
    cases hb with
    | agg _=>exact agg _ _ _ _
    | base h=>cases h with | base h=>cases h with | flat h=>cases h
   | base h=>cases h with | base h=>cases h with | flat h=>cases h
  case nilIface =>
   rw [ha.flat_eq rfl,hb.flat_eq rfl]
   unfold Go.eqGuard
   cases o <;> first | exact RunR.pure trivial | skip
   all_goals
    simp only [Bool.not_true,Bool.false_eq_true,if_false]
    refine RunR.iteP (RunR.pure trivial) ?_
    refine RunR.bind (guardIn_int ht) fun R2 _ u v huv=>?_
    obtain ⟨rfl,rfl⟩:=huv
    exact RunR.pure trivial
 ·have hg:guarded a b=false:=by simpa using hg
  have hg':guarded a' b'=false:=by
   have key:∀ {v v':Value},VR R v v'→(v'=v)∨((∃ c c',v=.agg c∧v'=.agg c')∨((∀ z,guarded v z=false)∧(∀ z,guarded v' z=false)∧(∀ z,guarded z v=false)∧(∀ z,guarded z v'=false))):=by
    intro v v' h
    cases h with
    | agg _=>exact .inr (.inl ⟨_,_,rfl,rfl⟩)
    | base h =>
     cases h with
     | func _ _=>exact .inr (.inr ⟨fun z=>by cases z <;> rfl,fun z=>by cases z <;> rfl,fun z=>by cases z <;> rfl,fun z=>by cases z <;> rfl⟩)
     | base h =>
      cases h with
      | flat _=>exact .inl rfl
      | ptr _=>exact .inr (.inr ⟨fun z=>by cases z <;> rfl,fun z=>by cases z <;> rfl,fun z=>by cases z <;> rfl,fun z=>by cases z <;> rfl⟩)
      | slice _=>exact .inr (.inr ⟨fun z=>by cases z <;> rfl,fun z=>by cases z <;> rfl,fun z=>by cases z <;> rfl,fun z=>by cases z <;> rfl⟩)
      | chan _=>exact .inr (.inr ⟨fun z=>by cases z <;> rfl,fun z=>by cases z <;> rfl,fun z=>by cases z <;> rfl,fun z=>by cases z <;> rfl⟩)
   rcases key ha with rfl | ⟨c,c',rfl,rfl⟩ | ⟨h1,h2,h3,h4⟩
   ·rcases key hb with rfl | ⟨c,c',rfl,rfl⟩ | ⟨k1,k2,k3,k4⟩
    ·exact hg
    ·cases a' <;> first | rfl | cases hg
    ·exact k4 _
   ·rcases key hb with rfl | ⟨d,d',rfl,rfl⟩ | ⟨k1,k2,k3,k4⟩
    ·cases b' <;> first | rfl | cases hg
    ·cases hg
    ·exact k4 _
   ·exact h2 _
  rw [eqGuard_no hg,eqGuard_no hg']
  exact RunR.pure trivial
theorem RunR.unary [Fns] {o:UnOp} {x x':Value} (h:VR R x x'):RunR P D VR R (Op.unary o x) (Op.unary o x'):=by
 by_cases hf:flat x=true
 ·rw [h.flat_eq hf]
  refine RunR.dryV (h:=?_)
  unfold Op.unary
  cases o <;> cases x <;> first | infer_instance | (rename_i p;cases p <;> infer_instance)
 ·unfold Op.unary
  cases o <;> cases x <;> first | exact RunR.halt | exact (hf rfl).elim | (rename_i p;cases p <;> first | exact RunR.halt | exact (hf rfl).elim)
theorem RunR.len [Fns] {ats:Array TypeId} {t:TypeId} {args args':Array Value} (ht:∀ ty,ats[0]? = some ty→∃ e,P.underlying ty=some (.slice e)) (h:AF (VR R) args args'):RunR P D VR R (Builtin.len_ ats t args) (Builtin.len_ ats t args'):=by
 unfold Builtin.len_
 cases hty:ats[0]? with
 | none=>exact RunR.halt
 | some ty =>
  rcases h.get? 0 with ⟨e1,e2⟩ | ⟨x,x',e1,e2,hx⟩
  ·rw [e1];exact RunR.halt
  ·rw [e1,e2]
   refine RunR.thenU fun R1 h1 d hd=>?_
   obtain ⟨e,he⟩:=ht ty hty
   rw [he] at hd
   cases hd
   cases hx with
   | agg _=>exact RunR.halt
   | base h =>
    cases h with
    | func _ _=>exact RunR.halt
    | base h =>
     cases h with
     | ptr _=>exact RunR.halt
     | chan _=>exact RunR.halt
     | slice _=>exact RunR.pure VR.int
     | flat hf=>cases x <;> first | exact RunR.halt | exact RunR.pure VR.int
theorem RunR.min2 [Fns] {x x' y y':Value} (hx:VR R x x') (hy:VR R y y'):RunR P D VR R (Builtin.min2 x y) (Builtin.min2 x' y'):=by
 by_cases hot:Sr.other x y=false
 ·have hxy:x'=x∧y'=y:=by
   cases x <;> cases y <;> first | (cases hot;done) | exact ⟨hx.flat_eq rfl,hy.flat_eq rfl⟩
  rw [hxy.1,hxy.2]
  refine RunR.dryV (h:=?_)
  cases x <;> cases y <;> first | (cases hot;done) | skip
  all_goals unfold Builtin.min2;dsimp only
  all_goals first | infer_instance | skip
  ·split <;> infer_instance
  ·exact dryV_bind (dryA_of_V inferInstance) fun v=>dryV_bind inferInstance fun b=>inferInstance
 ·unfold Builtin.min2
  cases x
  case pointer p=>cases p <;> cases y <;> first | exact RunR.halt | (rename_i q;cases q <;> exact RunR.halt)
  all_goals (cases y <;> first | exact RunR.halt | exact (hot rfl).elim | (rename_i q;cases q <;> first | exact RunR.halt | exact (hot rfl).elim))
theorem RunR.max2 [Fns] {x x' y y':Value} (hx:VR R x x') (hy:VR R y y'):RunR P D VR R (Builtin.max2 x y) (Builtin.max2 x' y'):=by
 by_cases hot:Sr.other x y=false
 ·have hxy:x'=x∧y'=y:=by
   cases x <;> cases y <;> first | (cases hot;done) | exact ⟨hx.flat_eq rfl,hy.flat_eq rfl⟩
  rw [hxy.1,hxy.2]
  refine RunR.dryV (h:=?_)
  cases x <;> cases y <;> first | (cases hot;done) | skip
  all_goals unfold Builtin.max2;dsimp only
  all_goals first | infer_instance | skip
  ·split <;> infer_instance
  ·exact dryV_bind (dryA_of_V inferInstance) fun v=>dryV_bind inferInstance fun b=>inferInstance
 ·unfold Builtin.max2
  cases x
  case pointer p=>cases p <;> cases y <;> first | exact RunR.halt | (rename_i q;cases q <;> exact RunR.halt)
  all_goals (cases y <;> first | exact RunR.halt | exact (hot rfl).elim | (rename_i q;cases q <;> first | exact RunR.halt | exact (hot rfl).elim))
theorem RunR.fold [Fns] {f:Value→Value→Sem Value} (hf:∀ {R:BR} {x x' y y':Value},VR R x x'→VR R y y'→RunR P D VR R (f x y) (f x' y')):∀ (l l':List Value) {R:BR} (x x':Value),VR R x x'→l'.length=l.length→(∀ (j:Nat) (v:Value),l[j]? = some v→∃ v':Value,l'[j]? = some v'∧VR R v v')→RunR P D VR R (l.foldlM f x) (l'.foldlM f x')
 | [],l',R,x,x',hx,hl,_=>by
  cases l' with
  | nil=>rw [List.foldlM_nil,List.foldlM_nil];exact RunR.pure hx
  | cons _ _=>simp at hl
 | v :: l,l',R,x,x',hx,hl,h=>by
  cases l' with
  | nil=>simp at hl
  | cons v' l' =>
   rw [List.foldlM_cons,List.foldlM_cons]
   obtain ⟨y,h1,h2⟩:=h 0 v rfl
   cases h1
   refine RunR.bind (hf hx h2) fun R1 hR z z' hz=>?_
   refine RunR.fold hf l l' z z' hz (by simpa using hl) fun j u hu=>?_
   obtain ⟨u',h3,h4⟩:=h (j+1) u (by simpa using hu)
   exact ⟨u',by simpa using h3,h4.mono hR⟩
theorem AF.list [Fns] {c c':Array Value} (h:AF (VR R) c c'):(c.toList=[]∧c'.toList=[])∨∃ x x' l l',c.toList=x :: l∧c'.toList=x' :: l'∧VR R x x'∧l'.length=l.length∧(∀ (j:Nat) (v:Value),l[j]? = some v→∃ v':Value,l'[j]? = some v'∧VR R v v'):=by
 obtain ⟨c⟩:=c
 obtain ⟨c'⟩:=c'
 have hs:c'.length=c.length:=by simpa using h.1
 cases c with
 | nil=>cases c' with
  | nil=>exact .inl ⟨rfl,rfl⟩
  | cons _ _=>simp at hs
 | cons x l=>cases c' with
  | nil=>simp at hs
  | cons x' l' =>
   refine .inr ⟨x,x',l,l',rfl,rfl,?_,by simpa using hs,fun j v hv=>?_⟩
   ·obtain ⟨y,h1,h2⟩:=h.2 0 x (by simp)
    simp at h1
    subst h1
    exact h2
   ·obtain ⟨y,h1,h2⟩:=h.2 (j+1) v (by simpa using hv)
    exact ⟨y,by simpa using h1,h2⟩
theorem RunR.min [Fns] {ats:Array TypeId} {t:TypeId} {args args':Array Value} (h:AF (VR R) args args'):RunR P D VR R (Builtin.min_ ats t args) (Builtin.min_ ats t args'):=by
 unfold Builtin.min_
 rcases h.list with ⟨e1,e2⟩ | ⟨x,x',l,l',e1,e2,h1,h2,h3⟩
 ·rw [e1];exact RunR.halt
 ·rw [e1,e2];exact RunR.fold RunR.min2 l l' x x' h1 h2 h3
theorem RunR.max [Fns] {ats:Array TypeId} {t:TypeId} {args args':Array Value} (h:AF (VR R) args args'):RunR P D VR R (Builtin.max_ ats t args) (Builtin.max_ ats t args'):=by
 unfold Builtin.max_
 rcases h.list with ⟨e1,e2⟩ | ⟨x,x',l,l',e1,e2,h1,h2,h3⟩
 ·rw [e1];exact RunR.halt
 ·rw [e1,e2];exact RunR.fold RunR.max2 l l' x x' h1 h2 h3
end
end Go.Sr
namespace Go.Sr
open Go
open Go.Tm
def okOpd [Fns]:Operand→Bool
 | .tmp _=>true
 | .func f=>Fns.ok f
 | .const v=>flat v
 | .global _=>false
def isIntB (P:Program) (t:TypeId):Bool :=
 match P.underlying t with
 | some (.int _)=>true
 | _=>false
def isSliceB (P:Program) (t:TypeId):Bool :=
 match P.underlying t with
 | some (.slice _)=>true
 | _=>false
def okWCall [Fns] (P:Program) (c:Call):Bool :=
 c.args.all okOpd && match c.callee with
 | .builtin .len=>(c.argTypes[0]?).all (isSliceB P)
 | .builtin .min | .builtin .max=>true
 | .value f=>okOpd f
 | _=>false
def okW [Fns] (P:Program):Op→Bool
 | .move x | .assign x | .box _ x | .load _ x | .nilCheck x | .unOp _ _ x | .fieldAddr _ x _=>okOpd x
 | .pick c a b=>okOpd c && okOpd a && okOpd b
 | .alloc t=>zeroT P t
 | .build t ps=>zeroT P t && ps.all fun p=>okOpd p.2
 | .store _ a x=>okOpd a && okOpd x
 | .binOp o t x y _=>okBin o && isIntB P t && okOpd x && okOpd y
 | .makeFunc (.func f) a c=>Fns.ok f && (a.all okOpd && c.all okOpd)
 | .indexAddr _ x i=>okOpd x && okOpd i
 | .call c=>okWCall P c
 | _=>false
inductive NR [Fns] (R:BR):Next→Next→Prop
 | value {v v':Value}:VR R v v'→NR R (.value v) (.value v')
 | skip:NR R .skip .skip
 | enter {f:FuncId} {a a':Array Value}:Fns.ok f=true→AF (VR R) a a'→NR R (.enter f a) (.enter f a')
def SokW [Fns] (P:Program):Prop:=∀ f,Fns.ok f=true→∃ fn,P.funcs[f]? = some fn∧fn.body.isSome=true∧(fn.name == "runtime.NumGoroutine")=false
section
variable {P:Program} {D:Nat→Prop} {α β:Type} {R:BR}
theorem RunR.value [Fns] {s s':Sem Value} (h:RunR P D VR R s s'):RunR P D NR R (do Pure.pure (.value (← s)):Sem Next) (do Pure.pure (.value (← s')):Sem Next) :=
 RunR.bind h fun _ _ _ _ hv=>RunR.pure (.value hv)
theorem RunR.skip [Fns] {Φ:BR→Unit→Unit→Prop} {s s':Sem Unit} (h:RunR P D Φ R s s'):RunR P D NR R (do s;Pure.pure .skip:Sem Next) (do s';Pure.pure .skip:Sem Next) :=
 RunR.bind h fun _ _ _ _ _=>RunR.pure .skip
theorem isInt_of {t:TypeId} (h:isIntB P t=true):IsInt P t:=by
 unfold isIntB at h
 split at h
 ·exact ⟨_,by assumption⟩
 ·cases h
def EnvR [Fns] (R:BR) (ρ ρ':Operand→Value):Prop:=∀ x,okOpd x=true→VR R (ρ x) (ρ' x)
theorem AF.mapOpd [Fns] {ρ ρ':Operand→Value} (he:EnvR R ρ ρ') {l:Array Operand} (h:l.all okOpd=true):AF (VR R) (l.map ρ) (l.map ρ'):=by
 rw [Array.all_eq_true] at h
 exact AF.map l fun x hx=>by
  obtain ⟨i,hi,rfl⟩:=Array.mem_iff_getElem.1 hx
  exact he _ (h i hi)
theorem RunR.callFunc [Fns] (hS:SokW P) {f:FuncId} (hf:Fns.ok f=true) {a a':Array Value} (h:AF (VR R) a a'):RunR P D NR R (Go.callFunc f a) (Go.callFunc f a'):=by
 obtain ⟨fn,h1,h2,h3⟩:=hS f hf
 unfold Go.callFunc
 refine RunR.bind RunR.program fun R1 hR p q hpq=>?_
 rw [hpq.1,hpq.2,h1]
 dsimp only
 rw [h3]
 have h4:fn.body.isNone=false:=by cases hb:fn.body <;> simp_all
 simp only [h4,Bool.false_eq_true,if_false]
 exact RunR.pure (.enter hf (h.mono fun _ _=>VR.mono hR))
theorem RunR.makeFunc [Fns] {f:FuncId} (hf:Fns.ok f=true) {a a' c c':Array Value} (ha:AF (VR R) a a') (hc:AF (VR R) c c'):RunR P D VR R (Instr.makeFunc (.func f) a c) (Instr.makeFunc (.func f) a' c') :=
 RunR.pure (.base (.ofFunc hf ha hc))
def nilChk (v:Value):Sem Next :=
 match v with
 | .pointer none | .nilIface | .nilFunc=>runtimePanic .nilDeref
 | .func (.method name) first captured =>
  match (first[0]? : Option Value) with
  | some .nilIface=>runtimePanic .nilDeref
  | some (.iface t w)=>do
   if (← nilAhead ((← Go.program).types.size+Made.depth) t w name) != some false then
    unsupported (.noEntry "op/nilCheck.the method's receiver behind this interface value is a nil pointer, or cannot be seen to be none, and the arguments act or may panic (ledger 612)")
   Pure.pure (.value (.func (.method name) first captured))
  | _=>Pure.pure (.value (.func (.method name) first captured))
 | x=>Pure.pure (.value x)
theorem RunR.nilCheck [Fns] {v v':Value} (h:VR R v v'):RunR P D NR R (nilChk v) (nilChk v'):=by
 have pan:∀ {s':Sem Next},RunR P D NR R (runtimePanic .nilDeref:Sem Next) s':=by
  intro s'
  refine RunR.haltL fun w a w' hr=>?_
  unfold runtimePanic at hr
  simp [Sem.run_bind,goPanic,Sem.run] at hr
 cases h with
 | agg h h'=>exact RunR.pure (.value (.agg h h'))
 | base h =>
  cases h with
  | func h0 h1 h2 h3 h4=>exact RunR.pure (.value (.base (.func h0 h1 h2 h3 h4)))
  | base h =>
   cases h with
   | ptr h=>exact RunR.pure (.value (.base (.base (.ptr h))))
   | slice h=>exact RunR.pure (.value (.base (.base (.slice h))))
   | chan h=>exact RunR.pure (.value (.base (.base (.chan h))))
   | flat hf =>
    cases v <;> first | exact pan | exact RunR.pure (.value (.of_flat hf)) | (cases hf;done) | skip
    all_goals (rename_i p;cases p <;> first | exact pan | (cases hf;done))
theorem TgtCall [Fns] (hS:SokW P) {ρ ρ':Operand→Value} (he:EnvR R ρ ρ') {c:Call} {t:TypeId} {f:Operand} (hc:c.callee=.value f) (hf:okOpd f=true) (ha:c.args.all okOpd=true):RunR P D NR R (do let d ← resolve ρ c t;invoke d.target d.args) (do let d ← resolve ρ' c t;invoke d.target d.args):=by
 have haf:=AF.mapOpd he ha
 have hv:=he f hf
 unfold resolve
 rw [hc]
 dsimp only
 generalize hρ:ρ f=v at hv
 generalize hρ':ρ' f=v' at hv
 have pan:∀ {s':Sem Next},RunR P D NR R (runtimePanic .nilDeref:Sem Next) s':=by
  intro s'
  refine RunR.haltL fun w a w' hr=>?_
  unfold runtimePanic at hr
  simp [Sem.run_bind,goPanic,Sem.run] at hr
 cases hv with
 | agg _ _=>exact RunR.halt
 | base h =>
  cases h with
  | @func g a a' cc cc' h0 h1 h2 h3 h4 =>
   have r1:AF (VR R) a a':=AF.of_raw h1 h2
   have r2:AF (VR R) cc cc':=AF.of_raw h3 h4
   exact RunR.callFunc hS h0 ((r1.append haf).append r2)
  | base h =>
   cases h with
   | ptr _=>exact RunR.halt
   | slice _=>exact RunR.halt
   | chan _=>exact RunR.halt
   | flat hf =>
    cases v <;> first | exact RunR.halt | exact pan | (cases hf;done)
theorem RunR.execOp [Fns] (hS:SokW P) {ρ ρ':Operand→Value} (he:EnvR R ρ ρ') {o:Oper} (ho:okW P o.op=true) :
  RunR P D NR R (Go.execOp ρ o) (Go.execOp ρ' o):=by
 unfold Go.execOp
 cases hop:o.op <;> rw [hop] at ho <;> dsimp only [okW] at ho <;> first | (cases ho;done) | skip
 case move x=>exact RunR.pure (.value (he x ho))
 case assign x=>exact RunR.pure (.value (he x ho))
 case pick c a b =>
  simp only [Bool.and_eq_true] at ho
  refine RunR.bind (VR.asBool (he c ho.1.1)) fun R1 h1 u v huv=>?_
  subst huv
  cases u with
  | true=>exact RunR.pure (.value ((he a ho.1.2).mono h1))
  | false=>exact RunR.pure (.value ((he b ho.2).mono h1))
 case alloc t=>exact RunR.value (RunR.alloc ho)
 case box t x=>exact RunR.value (RunR.box (he x ho))
 case build t ps =>
  rw [Bool.and_eq_true,Array.all_eq_true] at ho
  exact RunR.value (RunR.build ho.1 fun p hp=>by
   obtain ⟨i,hi,rfl⟩:=Array.mem_iff_getElem.1 hp
   exact he _ (ho.2 i hi))
 case load t a=>exact RunR.value (RunR.loadAt (he a ho))
 case store t a x =>
  simp only [Bool.and_eq_true] at ho
  exact RunR.skip (RunR.storeAt (he a ho.1) (he x ho.2))
 case nilCheck x=>exact RunR.nilCheck (he x ho)
 case binOp op t x y pos =>
  simp only [Bool.and_eq_true] at ho
  refine RunR.value (RunR.bind (RunR.eqGuard (isInt_of ho.1.1.2) (he x ho.1.2) (he y ho.2)) fun R1 h1 _ _ _=>?_)
  exact RunR.binOp (isInt_of ho.1.1.2) ho.1.1.1 ((he x ho.1.2).mono h1) ((he y ho.2).mono h1)
 case unOp op t x=>exact RunR.value (RunR.unary (he x ho))
 case makeFunc fn a c =>
  cases fn <;> first | (cases ho;done) | skip
  case func f =>
   simp only [Bool.and_eq_true] at ho
   exact RunR.value (RunR.makeFunc ho.1 (AF.mapOpd he ho.2.1) (AF.mapOpd he ho.2.2))
 case fieldAddr s x f=>exact RunR.value (RunR.fieldAt (he x ho))
 case indexAddr t x i =>
  simp only [Bool.and_eq_true] at ho
  exact RunR.value (RunR.indexAt (he x ho.1) (he i ho.2))
 case call c =>
  unfold okWCall at ho
  simp only [Bool.and_eq_true] at ho
  obtain ⟨ha,hc⟩:=ho
  have haf:=AF.mapOpd he ha
  cases hcc:c.callee with
  | invoke x n=>rw [hcc] at hc;cases hc
  | value f =>
   rw [hcc] at hc
   exact TgtCall hS he hcc hc ha
  | builtin b =>
   rw [hcc] at hc
   show RunR P D NR R (do let d ← resolve ρ c o.type;invoke d.target d.args) (do let d ← resolve ρ' c o.type;invoke d.target d.args)
   unfold resolve
   rw [hcc]
   cases b <;> first | (cases hc;done) | skip
   case len =>
    refine RunR.value (RunR.len (fun ty hty=>?_) haf)
    rw [hty] at hc
    have hc':isSliceB P ty=true:=hc
    unfold isSliceB at hc'
    split at hc'
    ·exact ⟨_,by assumption⟩
    ·cases hc'
   case max=>exact RunR.value (RunR.max haf)
   case min=>exact RunR.value (RunR.min haf)
theorem mapM_alike [Fns] {α:Type} (f f':α→Sem Value) (h:∀ {R':BR},le R R'→∀ x,RunR P D VR R' (f x) (f' x)) (l:Array α):RunR P D (fun R' a b=>AF (VR R') a b∧a.size=l.size) R (l.mapM f) (l.mapM f'):=by
 rw [Array.mapM_eq_foldlM,Array.mapM_eq_foldlM,← Array.foldlM_toList,← Array.foldlM_toList]
 have key:∀ (l:List α) (R':BR) (acc acc':Array Value),le R R'→AF (VR R') acc acc'→RunR P D (fun R' a b=>AF (VR R') a b∧a.size=acc.size+l.length) R' (l.foldlM (fun bs a=>bs.push <$> f a) acc) (l.foldlM (fun bs a=>bs.push <$> f' a) acc'):=by
  intro l
  induction l with
  | nil=>intro R' acc acc' _ ha;rw [List.foldlM_nil,List.foldlM_nil];exact RunR.pure ⟨ha,rfl⟩
  | cons x l ih =>
   intro R' acc acc' hR ha
   rw [List.foldlM_cons,List.foldlM_cons]
   refine RunR.bind (Φ:=fun R' a b=>AF (VR R') a b∧a.size=acc.size+1) ?_ fun R1 h1 b b' hb=>(ih R1 b b' (le_trans hR h1) hb.1).mono fun R2 u v huv=>⟨huv.1,by rw [huv.2,hb.2,List.length_cons];omega⟩
   show RunR P D (fun R' a b=>AF (VR R') a b∧a.size=acc.size+1) R' (f x >>= fun a=>Pure.pure (acc.push a)) (f' x >>= fun a=>Pure.pure (acc'.push a))
   exact RunR.bind (h hR x) fun R1 h1 v v' hv=>RunR.pure ⟨(ha.mono fun _ _=>VR.mono h1).push hv,by simp⟩
 exact (key _ R #[] #[] (le_refl R) AF.empty).mono fun R2 u v huv=>⟨huv.1,by rw [huv.2];simp⟩
theorem RunR.results [Fns] {fn:Func} (hsz:fn.results.size≤1) {tmps tmps':Array Value} (h:AF (VR R) tmps tmps'):RunR P D VR R (Go.results fn tmps) (Go.results fn tmps'):=by
 have hu:∀ {R':BR},VR R' undef undef:=.of_flat rfl
 unfold Go.results
 refine RunR.bind (Φ:=fun R' a b=>AF (VR R') a b∧a.size≤1) ?_ fun R1 h1 vs vs' hv=>?_
 ·intro wl wa es hw x wl' hr
  have hm:=mapM_alike (P:=P) (D:=D) (R:=R) (fun | ResultVar.tmp t=>Pure.pure (tmps.getD t undef) | ResultVar.cell a t=>do Go.loadVar t (← asAddr (tmps.getD a undef))) (fun | ResultVar.tmp t=>Pure.pure (tmps'.getD t undef) | ResultVar.cell a t=>do Go.loadVar t (← asAddr (tmps'.getD a undef))) (by
   intro R' hR r
   cases r with
   | tmp t=>exact RunR.pure ((h.get hu t).mono hR)
   | cell a t =>
    dsimp only
    have hv:=(h.get hu a).mono hR
    generalize tmps.getD a undef=v at hv
    generalize tmps'.getD a undef=v' at hv
    refine RunR.bind (Φ:=fun R'=>AR R') ?_ fun R1 _ a a' ha=>RunR.loadVar ha
    unfold asAddr
    have pan:∀ {s':Sem Addr},RunR P D (fun R'=>AR R') R' (runtimePanic .nilDeref:Sem Addr) s':=by
     intro s'
     refine RunR.haltL fun w a w' hr=>?_
     unfold runtimePanic at hr
     simp [Sem.run_bind,goPanic,Sem.run] at hr
    cases hv with
    | agg _ _=>exact RunR.halt
    | base h =>
     cases h with
     | func _ _ _ _=>exact RunR.halt
     | base h =>
      cases h with
      | ptr h=>exact RunR.pure h
      | slice _=>exact RunR.halt
      | chan _=>exact RunR.halt
      | flat hf=>cases v <;> first | exact RunR.halt | exact pan | (rename_i p;cases p <;> first | exact pan | (cases hf;done))) fn.results wl wa es hw x wl' hr
  obtain ⟨a',wa',es',R',k1,k2,k3,k4,k5,k6,k7⟩:=hm
  exact ⟨a',wa',es',R',k1,k2,k3,k4,k5,k6,k7.1,by rw [k7.2];exact hsz⟩
 ·obtain ⟨hv,hs⟩:=hv
  refine RunR.pure ?_
  by_cases h1:vs.size=1
  ·have h2:vs'.size=1:=by rw [hv.1];exact h1
   simp only [h1,h2,dif_pos]
   exact hv.raw 0 _ _ (Array.getElem?_eq_getElem (by omega)) (Array.getElem?_eq_getElem (by omega))
  ·have h2:vs'.size≠1:=by rw [hv.1];exact h1
   simp only [h1,h2,dif_neg,not_false_eq_true]
   have e1:vs=#[]:=Array.eq_empty_of_size_eq_zero (by omega)
   have e2:vs'=#[]:=Array.eq_empty_of_size_eq_zero (by rw [hv.1];omega)
   rw [e1,e2]
   exact .of_flat rfl
end
end Go.Sr
namespace Go.Sr
open Go
open Go.Tm
open Go.Conc (G)
def isSend:Op→Bool
 | .send .. | .recv .. | .go _=>true
 | _=>false
section
variable {P:Program}
theorem bad_of_run {s:Sem Next} {fr:Frame} {cs:List Frame} {w:World} (hk:(fr.kind == CallKind.early)=false) (hh:HeapOk OC w)
  (h:(∃ c sh,s.run P w=.ok (.comm #[c] true sh) w)∨(∃ d,s.run P w=.ok (.spawn d) w)∨(∃ m w',s.run P w=.halt (.stuck m) w')∨∃ u w',(∀ g,u≠.initOrder g)∧s.run P w=.halt (.unsupported u) w'):GBad (stepG.apply P true fr cs none s w):=by
 unfold stepG.apply
 rcases h with ⟨c,sh,h⟩ | ⟨d,h⟩ | ⟨m,w',h⟩ | ⟨u,w',hu,h⟩
 ·simp only [if_true,Sem.runT_eq,h,hk,Bool.false_eq_true,if_false]
  exact bad_after ⟨⟨rfl,_,rfl⟩,hh⟩
 ·simp only [if_true,Sem.runT_eq,h,hk,Bool.false_eq_true,if_false]
  refine bad_after (bad_ite ?_ ?_)
  ·exact ⟨rfl,_,rfl,rfl,rfl⟩
  ·trivial
 ·simp only [if_true,Sem.runT_eq,h,hk,Bool.false_eq_true,if_false]
  exact bad_after trivial
 ·simp only [if_true,Sem.runT_eq,h,hk,Bool.false_eq_true,if_false]
  cases u with
  | initOrder g=>exact (hu g rfl).elim
  | _=>exact bad_after trivial
theorem run_recv_bad (ρ:Operand→Value) {o:Oper} {t:TypeId} {ch:Operand} {f:Bool} (ho:o.op=.recv t ch f) (w:World) :
  (∃ c sh,(execOp ρ o).run P w=.ok (.comm #[c] true sh) w)∨(∃ d,(execOp ρ o).run P w=.ok (.spawn d) w)∨(∃ m w',(execOp ρ o).run P w=.halt (.stuck m) w')∨∃ u w',(∀ g,u≠.initOrder g)∧(execOp ρ o).run P w=.halt (.unsupported u) w':=by
 unfold execOp
 simp only [ho]
 cases hu:P.underlying t with
 | none=>exact .inr (.inr (.inl ⟨ "no such type", w,by simp [Go.underlying,hu]⟩))
 | some d =>
  cases d with
  | chan dir e =>
   cases hi:P.info? e with
   | none=>exact .inr (.inr (.inl ⟨ "no such type", w,by simp [Go.underlying,hu,Go.zeroValue,Go.typeInfo,hi]⟩))
   | some i =>
    cases hz:i.zero with
    | none=>exact .inr (.inr (.inr ⟨.resourceLimit "a value of more than 2^22 cells", w,(fun g h=>nomatch h),by simp [Go.underlying,hu,Go.zeroValue,Go.typeInfo,hi,hz]⟩))
    | some z=>exact .inl ⟨{ chan:=ρ ch,send:=none,zero:=z },.recv f,by simp [Go.underlying,hu,Go.zeroValue,Go.typeInfo,hi,hz]⟩
  | _=>exact .inr (.inr (.inl ⟨ "receive: channel type expected", w,by simp [Go.underlying,hu]⟩))
theorem run_go_bad (ρ:Operand→Value) {o:Oper} {c:Call} (ho:o.op=.go c) (w:World) :
  (∃ c sh,(execOp ρ o).run P w=.ok (.comm #[c] true sh) w)∨(∃ d,(execOp ρ o).run P w=.ok (.spawn d) w)∨(∃ m w',(execOp ρ o).run P w=.halt (.stuck m) w')∨∃ u w',(∀ g,u≠.initOrder g)∧(execOp ρ o).run P w=.halt (.unsupported u) w':=by
 unfold execOp
 simp only [ho,resolve]
 cases c.callee with
 | builtin b=>exact .inr (.inl ⟨_,rfl⟩)
 | invoke recv name=>exact .inr (.inl ⟨_,rfl⟩)
 | value f =>
  simp only
  cases ρ f <;> first | exact .inr (.inl ⟨_,rfl⟩) | exact .inr (.inr (.inl ⟨_,_,rfl⟩))
end
def okWs [Fns] (P:Program) (o:Op):Bool:=okW P o || isSend o
def okWC [Fns] (P:Program):Code→Bool
 | .region _ ops _=>ops.all fun o=>okWs P o.op
 | .seq a b=>okWC P a && okWC P b
 | .cond c a b=>okOpd c && (okWC P a && okWC P b)
 | .block _ c | .loop c=>okWC P c
 | .skip | .label _ | .ret | .exit _=>true
 | _=>false
def ItemW [Fns] (P:Program):Item→Prop
 | .code c | .inLoop c=>okWC P c=true
 | .inRegion ops _=>(ops.all fun o=>okWs P o.op)=true
 | .inBlock _=>True
 | _=>False
structure FrR [Fns] (P:Program) (R:BR) (fr fr':Frame):Prop where
 fn:fr'.fn=fr.fn
 tmps:AF (VR R) fr.tmps fr'.tmps
 todo:fr'.todo=fr.todo
 items:∀ x∈fr.todo,ItemW P x
 defers:fr.defers=[]
 defers':fr'.defers=[]
 mode:fr'.mode=fr.mode
 runs:fr.mode=.run∨fr.mode=.returning
 kind:fr'.kind=.normal∨fr'.kind=.deferred
 kinds:fr.kind=.normal∨fr.kind=.deferred
 round:fr.roundOf=none
 round':fr'.roundOf=none
 res:∀ fn,P.funcs[fr.fn]? = some fn→fn.results.size≤1
def StkR [Fns] (P:Program) (K:CallKind) (R:BR):Frame→List Frame→Frame→List Frame→Prop
 | fr,[],fr',[]=>FrR P R fr fr'∧fr'.kind=K
 | fr,c :: cs,fr',c' :: cs'=>FrR P R fr fr'∧(fr.kind=.normal∧fr'.kind=.normal)∧StkR P K R c cs c' cs'
 | _,_,_,_=>False
def NoWay [Fns] (P:Program) (csl:List Frame) (g:GStep):Prop :=
 GBad g∨∃ fr cs w es,g=.go (G fr (cs ++ csl)) w es∧(∃ ch,fr.mode=.panicking ch)∧∀ c∈fr :: cs,c.defers=[]∧∀ x∈c.todo,ItemW P x
section
variable {P:Program} {K:CallKind} {D:Nat→Prop} {R:BR} {csl:List Frame}
theorem FrR.mono [Fns] {R':BR} (h:le R R') {fr fr':Frame} (x:FrR P R fr fr'):FrR P R' fr fr' :=
 ⟨x.fn,x.tmps.mono fun _ _=>VR.mono h,x.todo,x.items,x.defers,x.defers',x.mode,x.runs,x.kind,x.kinds,x.round,x.round',x.res⟩
theorem StkR.mono [Fns] {R':BR} (h:le R R'):∀ {fr fr':Frame} {mine mine':List Frame},StkR P K R fr mine fr' mine'→StkR P K R' fr mine fr' mine'
 | _,_,[],[],x=>⟨FrR.mono h x.1,x.2⟩
 | _,_,_ :: _,_ :: _,x=>⟨x.1.mono h,x.2.1,StkR.mono h x.2.2⟩
theorem StkR.top [Fns] {fr fr':Frame} {mine mine':List Frame} (h:StkR P K R fr mine fr' mine'):FrR P R fr fr':=by
 cases mine <;> cases mine' <;> first | exact h.1 | exact h.elim
theorem StkR.set [Fns] {fr fr' g g':Frame} {mine mine':List Frame} (h:StkR P K R fr mine fr' mine') (x:FrR P R g g') (hk:g.kind=fr.kind∧g'.kind=fr'.kind):StkR P K R g mine g' mine':=by
 cases mine <;> cases mine' <;> first | exact ⟨x,hk.2.trans h.2⟩ | exact ⟨x,⟨hk.1.trans h.2.1.1,hk.2.trans h.2.1.2⟩,h.2.2⟩ | exact h.elim
theorem FrR.eval [Fns] {fr fr':Frame} (h:FrR P R fr fr'):EnvR R fr.eval fr'.eval:=by
 intro x hx
 cases x with
 | tmp t=>exact h.tmps.get (.of_flat rfl) t
 | const v=>exact .of_flat hx
 | global g=>cases hx
 | func f=>exact .base (.ofFunc hx AF.empty AF.empty)
theorem frR_finish [Fns] {fr fr':Frame} (h:FrR P R fr fr') {v v':Value} (hv:VR R v v'):FrR P R (fr.finish v) (fr'.finish v')∧((fr.finish v).kind=fr.kind∧(fr'.finish v').kind=fr'.kind):=by
 unfold Frame.finish
 rw [h.todo]
 split
 ·rename_i ops i rest k hk
  have hit:∀ x∈Item.inRegion ops rest :: k,ItemW P x:=by
   intro x hx
   have:=h.items
   rw [hk] at this
   rcases List.mem_cons.1 hx with rfl | hx
   ·exact this (.inRegion ops (i :: rest)) (by simp)
   ·exact this x (by simp [hx])
  refine ⟨⟨h.fn,?_,rfl,hit,h.defers,h.defers',h.mode,h.runs,h.kind,h.kinds,h.round,h.round',h.res⟩,⟨rfl,rfl⟩⟩
  cases (ops[i]?).bind (·.dst) with
  | none=>exact h.tmps
  | some d=>exact h.tmps.set hv
 ·rename_i l k hk
  have:=h.items
  rw [hk] at this
  exact (this (.inRangeFunc l) (by simp)).elim
 ·rename_i k hk
  have:=h.items
  rw [hk] at this
  exact (this .beginRound (by simp)).elim
 ·rename_i d wr rs sv k hk
  have:=h.items
  rw [hk] at this
  exact (this (.call d wr rs sv) (by simp)).elim
 ·rename_i row args k hk
  have:=h.items
  rw [hk] at this
  exact (this (.extern row args) (by simp)).elim
 ·exact ⟨h,⟨rfl,rfl⟩⟩
def SokC [Fns] (P:Program):Prop:=∀ f,Fns.ok f=true→∃ fn c,P.funcs[f]? = some fn∧fn.body=some c∧okWC P c=true∧fn.results.size≤1∧(fn.name == "runtime.NumGoroutine")=false
theorem SokC.w [Fns] (h:SokC P):SokW P:=fun f hf=>by
 obtain ⟨fn,c,h1,h2,_,_,h5⟩:=h f hf
 exact ⟨fn,h1,by rw [h2];rfl,h5⟩
theorem frR_enter [Fns] (hS:SokC P) {f:FuncId} (hf:Fns.ok f=true) {a a':Array Value} (h:AF (VR R) a a'):FrR P R (Frame.enter P f a .normal) (Frame.enter P f a' .normal):=by
 obtain ⟨fn,c,h1,h2,h3,h4,_⟩:=hS f hf
 refine ⟨rfl,?_,rfl,?_,rfl,rfl,rfl,.inl rfl,.inl rfl,.inl rfl,rfl,rfl,fun fn' hfn=>?_⟩
 ·simp only [Frame.enter]
  rw [h.1]
  exact h.append (AF.replicate (.of_flat rfl))
 ·intro x hx
  simp only [Frame.enter,h1,h2,Option.bind_some,Option.getD_some,List.mem_singleton] at hx
  subst hx
  exact h3
 ·simp only [Frame.enter] at hfn
  rw [h1] at hfn
  cases hfn
  exact h4
def Sim [Fns] (P:Program) (K:CallKind) (csl:List Frame) (D:Nat→Prop) (R:BR) (wl wa:World) (fl:GStep) (fa:Bool→List Frame→GStep):Prop :=
 (∃ fr1 mine1 wl1 es fr1' mine1' wa1 es' R1,fl=.go (G fr1 (mine1 ++ csl)) wl1 es∧(∀ main cs,fa main cs=.go (G fr1' (mine1' ++ cs)) wa1 es') ∧
  StkR P K R1 fr1 mine1 fr1' mine1'∧WR P.globals.size R1 D wl1 wa1∧Grow R R1 D wl wa∧Guar R D wa wa1∧(∀ e∈es',EvR R1 D e)∧wl.heap.size≤wl1.heap.size)∨NoWay P csl fl
theorem sim_to [Fns] {wl wa:World} {fl:GStep} {fa:Bool→List Frame→GStep} {fr1 fr1':Frame} {mine1 mine1':List Frame} (hw:WR P.globals.size R D wl wa) (h:StkR P K R fr1 mine1 fr1' mine1')
  (hl:fl=.go (G fr1 (mine1 ++ csl)) wl #[]) (ha:∀ main cs,fa main cs=.go (G fr1' (mine1' ++ cs)) wa #[]):Sim P K csl D R wl wa fl fa :=
 .inl ⟨fr1,mine1,wl,#[],fr1',mine1',wa,#[],R,hl,ha,h,hw,⟨le_refl R,fun _ _ h=>.inl h⟩,.refl R D wa,by simp,Nat.le_refl _⟩
theorem StkR.all [Fns]:∀ {fr fr':Frame} {mine mine':List Frame},StkR P K R fr mine fr' mine'→∀ c∈fr :: mine,c.defers=[]∧∀ x∈c.todo,ItemW P x
 | _,_,[],[],h,c,hc=>by
  simp only [List.mem_singleton] at hc
  subst hc
  exact ⟨h.1.defers,h.1.items⟩
 | _,_,c1 :: l1,c2 :: l2,h,c,hc=>by
  rcases List.mem_cons.1 hc with rfl | hc
  ·exact ⟨h.1.defers,h.1.items⟩
  ·exact StkR.all h.2.2 c hc
theorem sim_apply [Fns] (hS:SokC P) {wl wa:World} {fr fr':Frame} {mine mine':List Frame} {s s':Sem Next} (h:StkR P K R fr mine fr' mine') (hw:WR P.globals.size R D wl wa) (hs:RunR P D NR R s s')
  (hok:∀ hh w',s.run P wl=.halt hh w'→OkHalt hh) :
  Sim P K csl D R wl wa (stepG.apply P true fr (mine ++ csl) none s wl) (fun _ cs=>stepG.apply P true fr' (mine' ++ cs) none s' wa):=by
 have ht:=h.top
 have hearly:(fr.kind == CallKind.early)=false:=by rcases ht.kinds with h | h <;> rw [h] <;> rfl
 have hearly':(fr'.kind == CallKind.early)=false:=by rcases ht.kind with h | h <;> rw [h] <;> rfl
 cases hr:s.run P wl with
 | ok x w' =>
  obtain ⟨x',wa1,es',R1,k1,k2,k3,k4,k5,k6,k7⟩:=hs wl wa #[] hw x w' hr
  have hev:∀ e∈seen P fr'.fn es',EvR R1 D e:=fun e he=>(k2 e (mem_seen he)).elim (fun h=>by simp at h) id
  have h1:=h.mono k4.le
  cases k7 with
  | @value v v' hv =>
   have hf:=frR_finish h1.top hv
   refine .inl ⟨fr.finish v,mine,w',seen P fr.fn (s.events P wl #[]),fr'.finish v',mine',wa1,seen P fr'.fn es',R1,?_,fun main cs=>?_,h1.set hf.1 hf.2,k3,k4,k5,hev,k6⟩
   ·unfold stepG.apply
    simp only [if_true,Sem.runT_eq,hr,hearly,Bool.false_eq_true,if_false,GStep.after,Array.append_empty,G]
   ·unfold stepG.apply
    simp only [if_true,k1,hearly',Bool.false_eq_true,if_false,GStep.after,Array.append_empty,G]
  | skip =>
   have hf:=frR_finish h1.top (.of_flat rfl:VR R1 undef undef)
   refine .inl ⟨fr.finish undef,mine,w',seen P fr.fn (s.events P wl #[]),fr'.finish undef,mine',wa1,seen P fr'.fn es',R1,?_,fun main cs=>?_,h1.set hf.1 hf.2,k3,k4,k5,hev,k6⟩
   ·unfold stepG.apply
    simp only [if_true,Sem.runT_eq,hr,hearly,Bool.false_eq_true,if_false,GStep.after,Array.append_empty,G]
   ·unfold stepG.apply
    simp only [if_true,k1,hearly',Bool.false_eq_true,if_false,GStep.after,Array.append_empty,G]
  | @enter f a a' hf ha =>
   have hk:∀ {g:Frame},(∀ x∈g.todo,ItemW P x)→∀ d r sv k,g.todo=.call d true r sv :: k→False:=fun hi d r sv k hg=>by
    rw [hg] at hi
    exact hi (.call d true r sv) (by simp)
   refine .inl ⟨Frame.enter P f a .normal,fr :: mine,w',seen P fr.fn (s.events P wl #[]),Frame.enter P f a' .normal,fr' :: mine',wa1,seen P fr'.fn es',R1,?_,fun main cs=>?_,⟨frR_enter hS hf ha,⟨rfl,rfl⟩,h1⟩,k3,k4,k5,hev,k6⟩
   ·unfold stepG.apply
    simp only [if_true,Sem.runT_eq,hr,hearly,Bool.false_eq_true,if_false,GStep.after,Array.append_empty,G]
    split
    ·rename_i hg;exact (hk ht.items _ _ _ _ hg).elim
    ·rfl
   ·unfold stepG.apply
    simp only [if_true,k1,hearly',Bool.false_eq_true,if_false,GStep.after,Array.append_empty,G,List.cons_append]
    split
    ·rename_i hg;exact (hk ht.items _ _ _ _ (ht.todo ▸ hg)).elim
    ·rfl
 | halt hh w' =>
  have hall:=h.all
  have hgo:∀ l,stepG.apply P true fr (mine ++ csl) none s wl=.go (G (fr.raise l) (mine ++ csl)) w' (seen P fr.fn (s.events P wl #[]))→NoWay P csl (stepG.apply P true fr (mine ++ csl) none s wl):=by
   intro l hl
   refine .inr ⟨fr.raise l,mine,w',_,hl,?_,fun c hc=>?_⟩
   ·rcases ht.runs with hm | hm <;> exact ⟨l,by simp [Frame.raise,hm]⟩
   ·rcases List.mem_cons.1 hc with rfl | hc
    ·have:=hall fr (by simp)
     unfold Frame.raise
     split <;> exact this
    ·exact hall c (by simp [hc])
  refine .inr ?_
  have hx:=hok _ _ hr
  cases hh <;> first | exact hx.elim | skip
  case panic v =>
   refine hgo [{ v,recovered:=false }] ?_
   unfold stepG.apply
   simp only [if_true,Sem.runT_eq,hr,hearly,Bool.false_eq_true,if_false,GStep.after,Array.append_empty,G]
  case goexit =>
   refine hgo [goexitEntry] ?_
   unfold stepG.apply
   simp only [if_true,Sem.runT_eq,hr,hearly,Bool.false_eq_true,if_false,GStep.after,Array.append_empty,G]
  all_goals
   refine .inl ?_
   unfold stepG.apply
   simp only [if_true,Sem.runT_eq,hr,hearly,Bool.false_eq_true,if_false]
  case exit c=>exact bad_after trivial
  case fatal m=>exact bad_after (bad_endFatal _ _ _ _ _)
  case throw m=>exact bad_after ⟨rfl,_,rfl,rfl,rfl⟩
  case unsupported u=>cases u <;> first | exact hx.elim | exact bad_after trivial
  case stuck m=>exact bad_after trivial
theorem okW_okOp [Fns] {o:Op} {r:Bool} (h:okW P o=true):okOp r o=true:=by
 cases o <;> first | rfl | (cases h;done) | skip
 case call c =>
  have h':okWCall P c=true:=h
  unfold okWCall at h'
  show okCall r c=true
  unfold okCall
  cases hc:c.callee with
  | builtin b =>
   rw [hc] at h'
   cases b <;> first | (simp at h';done) | simp [okBuiltin,isRecover]
  | _=>rfl
theorem mem_items [Fns] {fr:Frame} {x:Item} {k:List Item} (h:∀ y∈fr.todo,ItemW P y) (hk:fr.todo=x :: k):ItemW P x∧∀ y∈k,ItemW P y:=by
 rw [hk] at h
 exact ⟨h x (by simp),fun y hy=>h y (by simp [hy])⟩
theorem frR_todo [Fns] {fr fr':Frame} (h:FrR P R fr fr') {todo:List Item} (ht:∀ x∈todo,ItemW P x):FrR P R { fr with todo } { fr' with todo } :=
 ⟨h.fn,h.tmps,rfl,ht,h.defers,h.defers',h.mode,h.runs,h.kind,h.kinds,h.round,h.round',h.res⟩
theorem frR_ret [Fns] {fr fr':Frame} (h:FrR P R fr fr'):FrR P R { fr with mode:=.returning } { fr' with mode:=.returning } :=
 ⟨h.fn,h.tmps,h.todo,h.items,h.defers,h.defers',rfl,.inr rfl,h.kind,h.kinds,h.round,h.round',h.res⟩
theorem okW_exitTo [Fns] {id:Nat}:∀ {k k':List Item},exitTo id k=some k'→(∀ y∈k,ItemW P y)→∀ y∈k',ItemW P y:=by
 intro k
 induction k with
 | nil=>intro k' h;simp [exitTo] at h
 | cons x k ih =>
  intro k' h hk
  have hk':∀ y∈k,ItemW P y:=fun y hy=>hk y (by simp [hy])
  cases x <;> simp only [exitTo] at h <;> first
   | exact ih h hk'
   | (split at h
      ·cases h;exact hk'
      ·exact ih h hk')
theorem VR.bool_iff [Fns] {v v':Value} (h:VR R v v') (b:Bool):v=.bool b↔v'=.bool b:=by
 cases h with
 | agg _ _=>simp
 | base h =>
  cases h with
  | func _ _ _ _=>simp
  | base h =>
   cases h with
   | flat _=>rfl
   | ptr _=>simp
   | slice _=>simp
   | chan _=>simp
theorem yielded_eq [Fns] {ops:Array Oper} {t t':Array Value} (h:AF (VR R) t t'):yielded ops t'=yielded ops t:=by
 funext j
 unfold yielded
 cases (ops[j]?).bind (·.dst) with
 | none=>rfl
 | some d =>
  rcases h.get? d with ⟨e1,e2⟩ | ⟨v,v',e1,e2,hv⟩
  ·simp only [Option.bind_some,e1,e2]
  ·simp only [Option.bind_some,e1,e2]
   cases v with
   | bool b=>rw [(hv.bool_iff b).1 rfl]
   | _ =>
    cases v' with
    | bool b=>cases (hv.bool_iff b).2 rfl
    | _=>rfl
theorem sim_exec [Fns] (hS:SokC P) (hT:Sok P fun _=>True) {wl wa:World} {fr fr':Frame} {mine mine':List Frame} (h:StkR P K R fr mine fr' mine') (hw:WR P.globals.size R D wl wa) (hh:HeapOk OC wl) (hm:fr.mode=.run) :
  Sim P K csl D R wl wa (stepG P true (G fr (mine ++ csl)) wl) (fun main cs=>stepG P main (G fr' (mine' ++ cs)) wa):=by
 have ht:=h.top
 have hm':fr'.mode=.run:=ht.mode.trans hm
 have e1:stepG P true (G fr (mine ++ csl)) wl=stepG.exec P true true fr (mine ++ csl) none wl:=by simp only [stepG,G,hm]
 have e2:∀ main cs,stepG P main (G fr' (mine' ++ cs)) wa=stepG.exec P main true fr' (mine' ++ cs) none wa:=fun main cs=>by simp only [stepG,G,hm']
 rw [e1]
 simp only [e2]
 cases htd:fr.todo with
 | nil =>
  have htd':fr'.todo=[]:=ht.todo.trans htd
  exact sim_to hw (h.set (frR_ret ht) ⟨rfl,rfl⟩) (by simp only [stepG.exec,htd,ht.round];rfl) (fun main cs=>by simp only [stepG.exec,htd',ht.round'];rfl)
 | cons x k =>
  have htd':fr'.todo=x :: k:=ht.todo.trans htd
  obtain ⟨hx,hkk⟩:=mem_items ht.items htd
  cases x with
  | inBlock id=>exact sim_to hw (h.set (frR_todo ht hkk) ⟨rfl,rfl⟩) (by simp only [stepG.exec,htd,G]) (fun main cs=>by simp only [stepG.exec,htd',G])
  | inLoop body =>
   have hi:∀ y∈Item.code body :: .inLoop body :: k,ItemW P y:=by
    intro y hy
    rcases List.mem_cons.1 hy with rfl | hy
    ·exact hx
    ·rcases List.mem_cons.1 hy with rfl | hy
     ·exact hx
     ·exact hkk y hy
   exact sim_to hw (h.set (frR_todo ht hi) ⟨rfl,rfl⟩) (by simp only [stepG.exec,htd,G]) (fun main cs=>by simp only [stepG.exec,htd',G])
  | inRegion ops todo =>
   cases todo with
   | nil=>exact sim_to hw (h.set (frR_todo ht hkk) ⟨rfl,rfl⟩) (by simp only [stepG.exec,htd,G]) (fun main cs=>by simp only [stepG.exec,htd',G])
   | cons i rest =>
    have hy:=yielded_eq (ops:=ops) ht.tmps
    by_cases hwt:(((ops[i]?).map (Region.wanted · (yielded ops fr.tmps))).getD false)=true
    ·have hwt':(((ops[i]?).map (Region.wanted · (yielded ops fr'.tmps))).getD false)=true:=by rw [hy];exact hwt
     cases hop:ops[i]? with
     | none=>rw [hop] at hwt;cases hwt
     | some o =>
      have hos:okWs P o.op=true:=by
       have hx':(ops.all fun o=>okWs P o.op)=true:=hx
       rw [Array.all_eq_true] at hx'
       obtain ⟨hi,rfl⟩:=Array.getElem?_eq_some_iff.1 hop
       exact hx' i hi
      have hfo:fr.oper? = some o:=by unfold Frame.oper?;rw [htd];exact hop
      by_cases hsd:isSend o.op=true
      ·refine .inr (.inl ?_)
       have l1:stepG.exec P true true fr (mine ++ csl) none wl=stepG.apply P true fr (mine ++ csl) none (execOp fr.eval o) wl:=by
        simp only [stepG.exec,htd,hwt,if_true,stepG.oper,hfo,ht.round]
       rw [l1]
       have hearly:(fr.kind == CallKind.early)=false:=by rcases ht.kinds with h | h <;> rw [h] <;> rfl
       refine bad_of_run hearly hh ?_
       cases ho:o.op <;> rw [ho] at hsd <;> first | (cases hsd;done) | skip
       case send ch x =>
        exact .inl ⟨{ chan:=fr.eval ch,send:=some (fr.eval x),zero:=.tuple #[] },.send,by unfold execOp;simp [ho]⟩
       case recv t ch f=>exact run_recv_bad fr.eval ho wl
       case go c=>exact run_go_bad fr.eval ho wl
      have hoo:okW P o.op=true:=by
       unfold okWs at hos
       cases hw1:okW P o.op with
       | true=>rfl
       | false=>rw [hw1] at hos;exact (hsd (by simpa using hos)).elim
      have hfo':fr'.oper? = some o:=by unfold Frame.oper?;rw [htd'];exact hop
      have hfine:=(fine_execOp (ρ:=fr.eval) hT (fun _=>rfl) (okW_okOp (r:=true) hoo) hh (fun _ _=>trivial) (es:=#[])).facts
      rw [Sem.runT_eq] at hfine
      have l1:stepG.exec P true true fr (mine ++ csl) none wl=stepG.apply P true fr (mine ++ csl) none (execOp fr.eval o) wl:=by
       simp only [stepG.exec,htd,hwt,if_true,stepG.oper,hfo,ht.round]
      have l2:∀ main cs,stepG.exec P main true fr' (mine' ++ cs) none wa=stepG.apply P true fr' (mine' ++ cs) none (execOp fr'.eval o) wa:=fun main cs=>by
       simp only [stepG.exec,htd',hwt',if_true,stepG.oper,hfo',ht.round']
      rw [l1]
      simp only [l2]
      refine sim_apply hS h hw (RunR.execOp hS.w ht.eval hoo) (fun h' w' hr=>?_)
      have:=hfine.leaf
      rw [hr] at this
      exact this
    ·have hwt':¬ (((ops[i]?).map (Region.wanted · (yielded ops fr'.tmps))).getD false)=true:=by rw [hy];exact hwt
     have hf:=frR_finish ht (.of_flat rfl:VR R undef undef)
     exact sim_to hw (h.set hf.1 hf.2) (by simp only [stepG.exec,htd,hwt,G];rfl) (fun main cs=>by simp only [stepG.exec,htd',hwt',G];rfl)
  | code c =>
   have hc:okWC P c=true:=hx
   have two:∀ {a b:Item},ItemW P a→ItemW P b→∀ y∈a :: b :: k,ItemW P y:=by
    intro a b ha hb y hy
    rcases List.mem_cons.1 hy with rfl | hy
    ·exact ha
    ·rcases List.mem_cons.1 hy with rfl | hy
     ·exact hb
     ·exact hkk y hy
   cases c with
   | ret=>exact sim_to hw (h.set (frR_ret ht) ⟨rfl,rfl⟩) (by simp only [stepG.exec,htd,ht.round];rfl) (fun main cs=>by simp only [stepG.exec,htd',ht.round'];rfl)
   | skip=>exact sim_to hw (h.set (frR_todo ht hkk) ⟨rfl,rfl⟩) (by simp only [stepG.exec,htd,G]) (fun main cs=>by simp only [stepG.exec,htd',G])
   | label l=>exact sim_to hw (h.set (frR_todo ht hkk) ⟨rfl,rfl⟩) (by simp only [stepG.exec,htd,G]) (fun main cs=>by simp only [stepG.exec,htd',G])
   | seq a b =>
    simp only [okWC,Bool.and_eq_true] at hc
    exact sim_to hw (h.set (frR_todo ht (two (a:=.code a) (b:=.code b) hc.1 hc.2)) ⟨rfl,rfl⟩) (by simp only [stepG.exec,htd,G]) (fun main cs=>by simp only [stepG.exec,htd',G])
   | block id body=>exact sim_to hw (h.set (frR_todo ht (two (a:=.code body) (b:=.inBlock id) hc trivial)) ⟨rfl,rfl⟩) (by simp only [stepG.exec,htd,G]) (fun main cs=>by simp only [stepG.exec,htd',G])
   | loop body=>exact sim_to hw (h.set (frR_todo ht (two (a:=.code body) (b:=.inLoop body) hc hc)) ⟨rfl,rfl⟩) (by simp only [stepG.exec,htd,G]) (fun main cs=>by simp only [stepG.exec,htd',G])
   | scope body=>cases hc
   | goto l=>cases hc
   | refuse w=>cases hc
   | rangeFunc f ps a b=>cases hc
   | exit id =>
    cases he:exitTo id k with
    | some k'=>exact sim_to hw (h.set (frR_todo ht (okW_exitTo he hkk)) ⟨rfl,rfl⟩) (by simp only [stepG.exec,htd,he,Option.elim_some,G]) (fun main cs=>by simp only [stepG.exec,htd',he,Option.elim_some,G])
    | none=>exact .inr (.inl (by simp only [stepG.exec,htd,he,Option.elim_none,ht.round];trivial))
   | cond e a b =>
    simp only [okWC,Bool.and_eq_true] at hc
    have hv:=ht.eval e hc.1
    by_cases hb:∃ t,fr.eval e=.bool t
    ·obtain ⟨t,htt⟩:=hb
     have htt':fr'.eval e=.bool t:=(hv.bool_iff t).1 htt
     have hi:∀ y∈Item.code (if t then a else b) :: k,ItemW P y:=by
      intro y hy
      rcases List.mem_cons.1 hy with rfl | hy
      ·show okWC P _=true
       cases t
       ·exact hc.2.2
       ·exact hc.2.1
      ·exact hkk y hy
     exact sim_to hw (h.set (frR_todo ht hi) ⟨rfl,rfl⟩) (by simp only [stepG.exec,htd,htt,G]) (fun main cs=>by simp only [stepG.exec,htd',htt',G])
    ·refine .inr (.inl ?_)
     simp only [stepG.exec,htd]
     split
     ·rename_i b' h';exact (hb ⟨b',h'⟩).elim
     ·trivial
   | region id ops draw =>
    have hops:(ops.all fun o=>okWs P o.op)=true:=hc
    have hi:∀ l,∀ y∈Item.inRegion ops l :: k,ItemW P y:=by
     intro l y hy
     rcases List.mem_cons.1 hy with rfl | hy
     ·exact hops
     ·exact hkk y hy
    cases draw with
    | false=>exact sim_to hw (h.set (frR_todo ht (hi (List.range ops.size))) ⟨rfl,rfl⟩) (by simp only [stepG.exec,htd,G];rfl) (fun main cs=>by simp only [stepG.exec,htd',G];rfl)
    | true =>
     refine .inl ⟨{ fr with todo:=.inRegion ops (Region.schedule (P.follows .mixedOrders) ops (wl.tape wl.drawn (.order fr.fn id))) :: k },mine,{ wl with drawn:=wl.drawn+1 },#[],{ fr' with todo:=.inRegion ops (Region.schedule (P.follows .mixedOrders) ops (wl.tape wl.drawn (.order fr.fn id))) :: k },mine',{ wa with drawn:=wa.drawn+1 },#[],R,?_,fun main cs=>?_,h.set (frR_todo ht (hi _)) ⟨rfl,rfl⟩,?_,⟨le_refl R,fun _ _ h=>.inl h⟩,⟨Nat.le_refl _,fun _ _ _=>rfl,rfl,rfl,rfl,fun _ h=>h⟩,by simp,Nat.le_refl _⟩
     ·simp only [stepG.exec,htd,G,choose,Sem.run,Question.forced,Question.cut,Bool.not_true,Bool.false_eq_true,if_false]
     ·simp only [stepG.exec,htd',G,choose,Sem.run,Question.forced,Question.cut,Bool.not_true,Bool.false_eq_true,if_false,hw.tape,hw.drawn,ht.fn]
     ·exact ⟨hw.obj,hw.fn,hw.inj,hw.old,hw.new,hw.tape,by show wa.drawn+1=wl.drawn+1;rw [hw.drawn],hw.dom,hw.gl,hw.ga⟩
  | _=>exact hx.elim
end
end Go.Sr
