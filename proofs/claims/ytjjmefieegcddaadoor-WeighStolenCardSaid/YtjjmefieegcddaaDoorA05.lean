/- A part of the proof: T9. -/
import Derived.Test.YtjjmefieegcddaaDoorA04
set_option linter.unusedVariables false
set_option linter.unusedSimpArgs false
namespace Go.Sr
open Go
open Go.Tm
def DryS (P:Program) {α:Type} (Q:α→Prop):Sem α→Prop
 | .pure a=>Q a
 | .halt _=>True
 | .choose _ k=>∀ n,DryS P Q (k n)
 | .program k=>DryS P Q (k P)
 | .mark m k=>m=.noRoom∧DryS P Q k
 | _=>False
section
variable {P:Program} {D:Nat→Prop} {α β:Type} {R:BR}
theorem DryS.bind {Q:α→Prop} {Q':β→Prop} {f:α→Sem β} (hf:∀ a,Q a→DryS P Q' (f a)) {s:Sem α} (h:DryS P Q s):DryS P Q' (s >>= f):=by
 show DryS P Q' (s.bind f)
 induction s with
 | pure a=>exact hf a h
 | halt _=>trivial
 | choose q k ih=>exact fun n=>ih n (h n)
 | program k ih=>exact ih P h
 | mark m k ih=>exact ⟨h.1,ih h.2⟩
 | load _ _ _ _=>exact h.elim
 | store _ _ _ _ _=>exact h.elim
 | new _ _ _=>exact h.elim
 | shape _ _ _=>exact h.elim
 | freeze _ _ _ _=>exact h.elim
 | frozen _ _ _=>exact h.elim
 | getObj _ _ _=>exact h.elim
 | setObj _ _ _ _=>exact h.elim
 | sys _ _ _=>exact h.elim
theorem RunR.dry [Fns] {Q:α→Prop} {s:Sem α} (h:DryS P Q s):RunR P D (fun _ a b=>a=b∧Q a) R s s:=by
 induction s generalizing R with
 | pure a=>exact RunR.pure ⟨rfl,h⟩
 | halt _=>exact RunR.halt
 | choose q k ih =>
  show RunR P D _ R (Go.choose q >>= k) (Go.choose q >>= k)
  exact RunR.bind RunR.choose fun R' _ a b hab=>by subst hab;exact ih a (h a)
 | program k ih =>
  show RunR P D _ R (Go.program >>= k) (Go.program >>= k)
  exact RunR.bind RunR.program fun R' _ a b hab=>by obtain ⟨rfl,rfl⟩:=hab;exact ih _ h
 | mark m k ih =>
  obtain ⟨rfl,h⟩:=h
  show RunR P D _ R (Go.mark .noRoom >>= fun _=>k) (Go.mark .noRoom >>= fun _=>k)
  exact RunR.bind RunR.noRoom fun R' _ a b _=>ih h
 | load _ _ _ _=>exact h.elim
 | store _ _ _ _ _=>exact h.elim
 | new _ _ _=>exact h.elim
 | shape _ _ _=>exact h.elim
 | freeze _ _ _ _=>exact h.elim
 | frozen _ _ _=>exact h.elim
 | getObj _ _ _=>exact h.elim
 | setObj _ _ _ _=>exact h.elim
 | sys _ _ _=>exact h.elim
class DryA {α:Type} (s:Sem α):Prop where
 t:∀ P,DryS P (fun _=>True) s
class DryV (s:Sem Value):Prop where
 t:∀ P,DryS P (fun v=>flat v=true) s
theorem dryA_bind {s:Sem α} {f:α→Sem β} (h:DryA s) (hf:∀ a,DryA (f a)):DryA (s >>= f):=⟨fun P=>DryS.bind (fun a _=>(hf a).t P) (h.t P)⟩
instance {s:Sem α} {f:α→Sem β} [h:DryA s] [hf:∀ a,DryA (f a)]:DryA (s >>= f):=dryA_bind h hf
theorem dryV_bind {s:Sem α} {f:α→Sem Value} (h:DryA s) (hf:∀ a,DryV (f a)):DryV (s >>= f):=⟨fun P=>DryS.bind (fun a _=>(hf a).t P) (h.t P)⟩
instance {s:Sem α} {f:α→Sem Value} [h:DryA s] [hf:∀ a,DryV (f a)]:DryV (s >>= f):=dryV_bind h hf
instance {s:Sem α} {f:α→β} [h:DryA s]:DryA (f <$> s):=(dryA_bind h (fun a=>(⟨fun _=>trivial⟩:DryA (pure (f a):Sem β))):DryA (s >>= fun a=>pure (f a)))
instance {a:α}:DryA (pure a:Sem α):=⟨fun _=>trivial⟩
instance {b:Bool}:DryV (pure (.bool b):Sem Value):=⟨fun _=>rfl⟩
instance {k:IntKind} {n:Int}:DryV (pure (.int k n):Sem Value):=⟨fun _=>rfl⟩
instance {k:FloatKind} {n:Nat}:DryV (pure (.float k n):Sem Value):=⟨fun _=>rfl⟩
instance {k:FloatKind} {n m:Nat}:DryV (pure (.complex k n m):Sem Value):=⟨fun _=>rfl⟩
instance {s:ByteArray}:DryV (pure (.string s):Sem Value):=⟨fun _=>rfl⟩
instance {s:String}:DryA (stuck s:Sem α):=⟨fun _=>trivial⟩
instance {s:Unsupported}:DryA (unsupported s:Sem α):=⟨fun _=>trivial⟩
instance {v:Value}:DryA (goPanic v:Sem α):=⟨fun _=>trivial⟩
instance {s:String}:DryV (stuck s:Sem Value):=⟨fun _=>trivial⟩
instance {s:Unsupported}:DryV (unsupported s:Sem Value):=⟨fun _=>trivial⟩
instance {v:Value}:DryV (goPanic v:Sem Value):=⟨fun _=>trivial⟩
instance:DryA program:=⟨fun _=>trivial⟩
instance {q:Question}:DryA (choose q):=⟨fun _ _=>trivial⟩
instance:DryA (mark .noRoom):=⟨fun _=>⟨rfl,trivial⟩⟩
instance dryA_ite {c:Prop} [Decidable c] {a b:Sem α} [DryA a] [DryA b]:DryA (if c then a else b):=by split <;> infer_instance
theorem dryA_ite2 {c:Prop} [Decidable c] {a b:Sem α} (ha:DryA a) (hb:DryA b):DryA (if c then a else b):=by split <;> assumption
theorem dryV_ite2 {c:Prop} [Decidable c] {a b:Sem Value} (ha:DryV a) (hb:DryV b):DryV (if c then a else b):=by split <;> assumption
end
section
instance {t:TypeId}:DryA (typeInfo t):=by unfold typeInfo;repeat' (first | infer_instance | apply dryA_ite2 | apply dryV_ite2 | apply dryA_bind | apply dryV_bind | intro _ | dsimp only | split)
instance {t:TypeId}:DryA (underlying t):=by unfold underlying;repeat' (first | infer_instance | apply dryA_ite2 | apply dryV_ite2 | apply dryA_bind | apply dryV_bind | intro _ | dsimp only | split)
instance {t:TypeId}:DryA (zeroValue t):=by unfold zeroValue;repeat' (first | infer_instance | apply dryA_ite2 | apply dryV_ite2 | apply dryA_bind | apply dryV_bind | intro _ | dsimp only | split)
instance {t:TypeId}:DryA (sizeOf t):=by unfold sizeOf;repeat' (first | infer_instance | apply dryA_ite2 | apply dryV_ite2 | apply dryA_bind | apply dryV_bind | intro _ | dsimp only | split)
instance {t:TypeId}:DryA (isAgg t):=by unfold isAgg;repeat' (first | infer_instance | apply dryA_ite2 | apply dryV_ite2 | apply dryA_bind | apply dryV_bind | intro _ | dsimp only | split)
instance {n:Nat}:DryA (askRoom n):=by unfold askRoom;repeat' (first | infer_instance | apply dryA_ite2 | apply dryV_ite2 | apply dryA_bind | apply dryV_bind | intro _ | dsimp only | split)
instance {o:BinOp} {k:IntKind} {x y:Int}:DryV (Op.intArith o k x y):=by unfold Op.intArith;repeat' (first | infer_instance | apply dryA_ite2 | apply dryV_ite2 | apply dryA_bind | apply dryV_bind | intro _ | dsimp only | split)
instance {o:BinOp} {k:IntKind} {x y:Int}:DryV (Op.intBits o k x y):=by unfold Op.intBits;repeat' (first | infer_instance | apply dryA_ite2 | apply dryV_ite2 | apply dryA_bind | apply dryV_bind | intro _ | dsimp only | split)
instance {o:BinOp} {x y:Int}:DryV (Op.intCmp o x y):=by unfold Op.intCmp;repeat' (first | infer_instance | apply dryA_ite2 | apply dryV_ite2 | apply dryA_bind | apply dryV_bind | intro _ | dsimp only | split)
instance {o:BinOp} {x y:ByteArray}:DryV (Op.stringOp o x y):=by unfold Op.stringOp;repeat' (first | infer_instance | apply dryA_ite2 | apply dryV_ite2 | apply dryA_bind | apply dryV_bind | intro _ | dsimp only | split)
instance {o:BinOp} {k:FloatKind} {x y:Nat}:DryV (Op.floatArith o k x y):=by unfold Op.floatArith;repeat' (first | infer_instance | apply dryA_ite2 | apply dryV_ite2 | apply dryA_bind | apply dryV_bind | intro _ | dsimp only | split)
instance {o:BinOp} {k:FloatKind} {x y:Nat}:DryV (Op.floatCmp o k x y):=by unfold Op.floatCmp;repeat' (first | infer_instance | apply dryA_ite2 | apply dryV_ite2 | apply dryA_bind | apply dryV_bind | intro _ | dsimp only | split)
instance {v:Value}:DryA (asBool v):=by unfold asBool;repeat' (first | infer_instance | apply dryA_ite2 | apply dryV_ite2 | apply dryA_bind | apply dryV_bind | intro _ | dsimp only | split)
instance {v:Value}:DryA (asIntOf v):=by unfold asIntOf;repeat' (first | infer_instance | apply dryA_ite2 | apply dryV_ite2 | apply dryA_bind | apply dryV_bind | intro _ | dsimp only | split)
instance {v:Value}:DryA (asInt v):=by unfold asInt;repeat' (first | infer_instance | apply dryA_ite2 | apply dryV_ite2 | apply dryA_bind | apply dryV_bind | intro _ | dsimp only | split)
end
section
variable {P:Program} {D:Nat→Prop} {α β:Type} {R:BR}
theorem RunR.dryA [Fns] {s:Sem α} [h:DryA s]:RunR P D (fun _ a b=>a=b) R s s:=(RunR.dry (h.t P)).mono fun _ _ _ h=>h.1
theorem RunR.dryV [Fns] {s:Sem Value} [h:DryV s]:RunR P D VR R s s:=(RunR.dry (h.t P)).mono fun _ a b h=>by obtain ⟨rfl,h⟩:=h;exact .of_flat h
theorem RunR.then [Fns] {γ δ:Type} {Ψ:BR→γ→δ→Prop} {s:Sem α} [DryA s] {f:α→Sem γ} {f':α→Sem δ} (hf:∀ R',le R R'→∀ a,RunR P D Ψ R' (f a) (f' a)):RunR P D Ψ R (s >>= f) (s >>= f') :=
 RunR.bind RunR.dryA fun R' hR a b hab=>by subst hab;exact hf R' hR a
theorem RunR.underlying [Fns] {t:TypeId}:RunR P D (fun _ a b=>a=b∧P.underlying t=some a) R (Go.underlying t) (Go.underlying t):=by
 unfold Go.underlying
 refine RunR.bind RunR.program fun R' _ a b hab=>?_
 obtain ⟨rfl,rfl⟩:=hab
 cases h:b.underlying t with
 | none=>exact RunR.halt
 | some d=>exact RunR.pure ⟨rfl,rfl⟩
theorem RunR.thenU [Fns] {γ δ:Type} {Ψ:BR→γ→δ→Prop} {t:TypeId} {f:TypeDesc→Sem γ} {f':TypeDesc→Sem δ} (hf:∀ R',le R R'→∀ a,P.underlying t=some a→RunR P D Ψ R' (f a) (f' a)):RunR P D Ψ R (Go.underlying t >>= f) (Go.underlying t >>= f') :=
 RunR.bind RunR.underlying fun R' hR a b hab=>by obtain ⟨rfl,h⟩:=hab;exact hf R' hR a h
theorem AR.add {a a':Addr} (h:AR R a a') (n:Nat):AR R (a.add n) (a'.add n):=by
 unfold Addr.add
 split
 ·exact h
 ·exact ⟨h.1,by show a'.off+n=a.off+n;rw [h.2.1],rfl⟩
theorem RunR.loadCellsFrom [Fns] {a a':Addr}:∀ (n i:Nat) {R:BR} (acc acc':Array Value),AR R a a'→AF (VR1 R) acc acc'→RunR P D (fun R'=>AF (VR1 R')) R (Go.loadCellsFrom a i n acc) (Go.loadCellsFrom a' i n acc')
 | 0,i,R,acc,acc',_,h=>by unfold Go.loadCellsFrom;exact RunR.pure h
 | n+1,i,R,acc,acc',ha,h=>by
  unfold Go.loadCellsFrom
  refine RunR.bind (RunR.load (ha.add i)) fun R' hR v v' hv=>?_
  exact RunR.loadCellsFrom n _ _ _ (ha.mono hR) ((h.mono fun _ _=>VR1.mono hR).push hv)
theorem RunR.storeCells [Fns] {a a':Addr}:∀ (vs vs':List Value) (i:Nat) {R:BR},AR R a a'→vs'.length=vs.length→(∀ (j:Nat) (v:Value),vs[j]? = some v→∃ v':Value,vs'[j]? = some v'∧VR1 R v v')→RunR P D (fun _ _ _=>True) R (Go.storeCells a vs i) (Go.storeCells a' vs' i)
 | [],vs',i,R,_,hl,h=>by
  cases vs' with
  | nil=>unfold Go.storeCells;exact RunR.pure trivial
  | cons v l=>simp at hl
 | v :: vs,vs',i,R,ha,hl,h=>by
  cases vs' with
  | nil=>simp at hl
  | cons v' vs' =>
   unfold Go.storeCells
   obtain ⟨x,hx,hv⟩:=h 0 v rfl
   cases hx
   refine RunR.bind (RunR.store (ha.add i) hv) fun R' hR _ _ _=>?_
   refine RunR.storeCells vs vs' _ (ha.mono hR) (by simpa using hl) fun j y hy=>?_
   obtain ⟨y',h1,h2⟩:=h (j+1) y (by simpa using hy)
   exact ⟨y',by simpa using h1,h2.mono hR⟩
theorem RunR.loadVar [Fns] {t:TypeId} {a a':Addr} (h:AR R a a'):RunR P D VR R (Go.loadVar t a) (Go.loadVar t a'):=by
 unfold Go.loadVar
 refine RunR.then fun R1 h1 b=>?_
 cases b with
 | true =>
  refine RunR.then fun R2 h2 n=>?_
  refine RunR.bind (RunR.loadCellsFrom n 0 #[] #[] (h.mono (le_trans h1 h2)) AF.empty) fun R3 _ c c' hc=>?_
  exact RunR.pure (.ofAgg hc)
 | false=>exact (RunR.load (h.mono h1)).mono fun _ _ _ h=>.base h
theorem RunR.storeVar [Fns] {t:TypeId} {a a':Addr} (h:AR R a a') {v v':Value} (hv:VR R v v'):RunR P D (fun _ _ _=>True) R (Go.storeVar t a v) (Go.storeVar t a' v'):=by
 unfold Go.storeVar
 refine RunR.then fun R1 h1 n=>?_
 have hc:=(hv.mono h1).cells
 rw [hc.1]
 have hst:RunR P D (fun _ _ _=>True) R1 (Go.storeCells a v.cells.toList) (Go.storeCells a' v'.cells.toList):=by
  refine RunR.storeCells _ _ _ (h.mono h1) (by simpa using hc.1) fun j x hx=>?_
  obtain ⟨x',h2,h3⟩:=hc.2 j x (by simpa using hx)
  exact ⟨x',by simpa using h2,h3⟩
 dsimp only
 split
 ·exact RunR.halt
 ·exact hst
theorem RunR.newRow [Fns] {t:TypeId} {c c':Array Value} (h:AF (VR1 R) c c'):RunR P D (fun R'=>AR R') R (Go.newRow t c) (Go.newRow t c'):=by
 unfold Go.newRow
 refine RunR.bind (RunR.newObj (D:=D) (o:=.cells c t) (o':=.cells c' t) fun R' hR=>.inl ⟨c,c',t,(0,0),(0,0),rfl,rfl,h.mono fun _ _=>VR1.mono hR,fun h=>h.elim,fun _=>⟨rfl,rfl⟩⟩) fun R' _ n n' hn=>?_
 exact RunR.pure ⟨hn,rfl,rfl⟩
theorem RunR.newVar [Fns] {t:TypeId} {v v':Value} (h:VR R v v'):RunR P D (fun R'=>AR R') R (Go.newVar t v) (Go.newVar t v'):=RunR.newRow h.cells
def flatAgg:Value→Bool
 | .agg c=>c.all flat
 | v=>flat v
theorem flatAgg_vr [Fns] {v:Value} (h:flatAgg v=true):VR R v v:=by
 unfold flatAgg at h
 split at h
 ·rw [Array.all_eq_true] at h
  exact .ofAgg (AF.self fun v hv=>by
   obtain ⟨i,hi,rfl⟩:=Array.mem_iff_getElem.1 hv
   exact .base (.flat (h i hi)))
 ·exact .of_flat h
def zeroT (P:Program) (t:TypeId):Bool:=((P.info? t).bind (·.zero)).all flatAgg
theorem RunR.zeroValue [Fns] {t:TypeId} (hz:zeroT P t=true):RunR P D VR R (Go.zeroValue t) (Go.zeroValue t):=by
 unfold Go.zeroValue
 unfold Go.typeInfo
 refine RunR.bind (Φ:=fun _ a b=>a=b∧P.info? t=some a) ?_ fun R1 _ a b hab=>?_
 ·refine RunR.bind RunR.program fun R1 _ a b hab=>?_
  obtain ⟨rfl,rfl⟩:=hab
  cases h:b.info? t with
  | none=>exact RunR.halt
  | some i=>exact RunR.pure ⟨rfl,rfl⟩
 ·obtain ⟨rfl,h⟩:=hab
  cases hv:a.zero with
  | none=>exact RunR.halt
  | some v=>exact RunR.pure (flatAgg_vr (by unfold zeroT at hz;rw [h] at hz;simpa [hv] using hz))
theorem RunR.alloc [Fns] {t:TypeId} (hz:zeroT P t=true):RunR P D VR R (Instr.alloc t true (.tuple #[])) (Instr.alloc t true (.tuple #[])):=by
 unfold Instr.alloc
 refine RunR.bind (RunR.zeroValue hz) fun R1 _ v v' hv=>?_
 exact RunR.bind (RunR.newVar hv) fun R2 _ a a' ha=>RunR.pure (.base (.base (.ptr ha)))
theorem RunR.box [Fns] {t:TypeId} {v v':Value} (h:VR R v v'):RunR P D VR R (Instr.box t v) (Instr.box t v'):=by
 unfold Instr.box
 exact RunR.bind (RunR.newVar h) fun R2 _ a a' ha=>RunR.pure (.base (.base (.ptr ha)))
theorem RunR.sureAddr [Fns] {v v':Value} (h:VR R v v'):RunR P D (fun R'=>AR R') R (Instr.sureAddr v) (Instr.sureAddr v'):=by
 unfold Instr.sureAddr
 cases h with
 | agg _=>exact RunR.halt
 | base h =>
  cases h with
  | func _ _=>exact RunR.halt
  | base h =>
   cases h with
   | ptr h=>exact RunR.pure h
   | slice _=>exact RunR.halt
   | chan _=>exact RunR.halt
   | flat hf=>cases v <;> first | exact RunR.halt | (rename_i a;cases a <;> first | exact RunR.halt | cases hf)
theorem RunR.loadAt [Fns] {t:TypeId} {v v':Value} (h:VR R v v'):RunR P D VR R (Instr.loadAt t v) (Instr.loadAt t v'):=by
 unfold Instr.loadAt
 exact RunR.bind (RunR.sureAddr h) fun R1 _ a a' ha=>RunR.loadVar ha
theorem RunR.storeAt [Fns] {t:TypeId} {v v' x x':Value} (h:VR R v v') (hx:VR R x x'):RunR P D (fun _ _ _=>True) R (Instr.storeAt t v x) (Instr.storeAt t v' x'):=by
 unfold Instr.storeAt
 exact RunR.bind (RunR.sureAddr h) fun R1 h1 a a' ha=>RunR.storeVar ha (hx.mono h1)
theorem RunR.viewAt [Fns] {r r':Nat} (h:R r r'):RunR P D (fun _ a b=>a=none∧b=none) R (Go.viewAt r) (Go.viewAt r'):=by
 intro wl wa es hw x wl' hr
 obtain ⟨o,o',h1,h2,h3⟩:=hw.obj _ _ h
 rcases h3 with ⟨c,c',e,f,f',rfl,rfl,h4,_⟩ | ⟨a,a',l,rfl,rfl,h4,h5⟩ | ⟨_,hch,hch'⟩
 ·have hl:(Go.viewAt r).run P wl=.ok none wl:=by simp [Go.viewAt,Go.shape,Sem.run,World.shape?,h1]
  have ha:(Go.viewAt r').runT P wa es=(.ok none wa,es):=by
   unfold Go.viewAt
   show Sem.runT P (Sem.bind (Go.shape r') _) wa es=_
   simp only [Go.shape,Sem.bind,Sem.runT,World.shape?,h2]
   rfl
  rw [hl] at hr
  cases hr
  exact ⟨none,wa,es,R,ha,fun e he=>.inl he,hw,⟨le_refl R,fun _ _ h=>.inl h⟩,.refl R D wa,Nat.le_refl _,rfl,rfl⟩
 ·have hl:(Go.viewAt r).run P wl=.ok none wl:=by simp [Go.viewAt,Go.shape,Go.getObj,Sem.run,World.shape?,h1]
  have ha:(Go.viewAt r').runT P wa es=(.ok none wa,es.push ⟨.obj r',false,false⟩):=by
   unfold Go.viewAt
   show Sem.runT P (Sem.bind (Go.shape r') _) wa es=_
   simp only [Go.shape,Sem.bind,Sem.runT,World.shape?,h2]
   show Sem.runT P (Sem.bind (Go.getObj r') _) wa es=_
   simp only [Go.getObj,Sem.bind,Sem.runT,h2]
   rfl
  rw [hl] at hr
  cases hr
  refine ⟨none,wa,_,R,ha,fun e he=>?_,hw,⟨le_refl R,fun _ _ h=>.inl h⟩,.refl R D wa,Nat.le_refl _,rfl,rfl⟩
  rcases Array.mem_push.1 he with h' | rfl
  ·exact .inl h'
  ·exact .inr ⟨rfl,r,h⟩
 ·cases o <;> first | (cases hch;done) | skip
  cases o' <;> first | (cases hch';done) | skip
  have hl:(Go.viewAt r).run P wl=.ok none wl:=by simp [Go.viewAt,Go.shape,Go.getObj,Sem.run,World.shape?,h1]
  have ha:(Go.viewAt r').runT P wa es=(.ok none wa,es.push ⟨.obj r',false,true⟩):=by
   unfold Go.viewAt
   show Sem.runT P (Sem.bind (Go.shape r') _) wa es=_
   simp only [Go.shape,Sem.bind,Sem.runT,World.shape?,h2]
   show Sem.runT P (Sem.bind (Go.getObj r') _) wa es=_
   simp only [Go.getObj,Sem.bind,Sem.runT,h2]
   rfl
  rw [hl] at hr
  cases hr
  refine ⟨none,wa,_,R,ha,fun e he=>?_,hw,⟨le_refl R,fun _ _ h=>.inl h⟩,.refl R D wa,Nat.le_refl _,rfl,rfl⟩
  rcases Array.mem_push.1 he with h' | rfl
  ·exact .inl h'
  ·exact .inr ⟨rfl,r,h⟩
theorem RunR.numberAt [Fns] {r r':Nat} (h:R r r'):RunR P D (fun R' a b=>(a=none∧b=none)∨∃ x x' l,a=some (x,l)∧b=some (x',l)∧AR R' x x') R (Go.numberAt r) (Go.numberAt r'):=by
 intro wl wa es hw x wl' hr
 obtain ⟨o,o',h1,h2,h3⟩:=hw.obj _ _ h
 rcases h3 with ⟨c,c',e,f,f',rfl,rfl,h4,_⟩ | ⟨a,a',l,rfl,rfl,h4,h5⟩ | ⟨_,hch,hch'⟩
 ·have hl:(Go.numberAt r).run P wl=.ok none wl:=by simp [Go.numberAt,Go.shape,Sem.run,World.shape?,h1]
  have ha:(Go.numberAt r').runT P wa es=(.ok none wa,es):=by
   unfold Go.numberAt
   show Sem.runT P (Sem.bind (Go.shape r') _) wa es=_
   simp only [Go.shape,Sem.bind,Sem.runT,World.shape?,h2]
   rfl
  rw [hl] at hr
  cases hr
  exact ⟨none,wa,es,R,ha,fun e he=>.inl he,hw,⟨le_refl R,fun _ _ h=>.inl h⟩,.refl R D wa,Nat.le_refl _,.inl ⟨rfl,rfl⟩⟩
 ·have hl:(Go.numberAt r).run P wl=.ok (some (a,l)) wl:=by simp [Go.numberAt,Go.shape,Go.getObj,Sem.run,World.shape?,h1]
  have ha:(Go.numberAt r').runT P wa es=(.ok (some (a',l)) wa,es.push ⟨.obj r',false,false⟩):=by
   unfold Go.numberAt
   show Sem.runT P (Sem.bind (Go.shape r') _) wa es=_
   simp only [Go.shape,Sem.bind,Sem.runT,World.shape?,h2]
   show Sem.runT P (Sem.bind (Go.getObj r') _) wa es=_
   simp only [Go.getObj,Sem.bind,Sem.runT,h2]
   rfl
  rw [hl] at hr
  cases hr
  refine ⟨_,wa,_,R,ha,fun e he=>?_,hw,⟨le_refl R,fun _ _ h=>.inl h⟩,.refl R D wa,Nat.le_refl _,.inr ⟨a,a',l,rfl,rfl,h4⟩⟩
  rcases Array.mem_push.1 he with h' | rfl
  ·exact .inl h'
  ·exact .inr ⟨rfl,r,h⟩
 ·cases o <;> first | (cases hch;done) | skip
  cases o' <;> first | (cases hch';done) | skip
  have hl:(Go.numberAt r).run P wl=.ok none wl:=by simp [Go.numberAt,Go.shape,Go.getObj,Sem.run,World.shape?,h1]
  have ha:(Go.numberAt r').runT P wa es=(.ok none wa,es.push ⟨.obj r',false,true⟩):=by
   unfold Go.numberAt
   show Sem.runT P (Sem.bind (Go.shape r') _) wa es=_
   simp only [Go.shape,Sem.bind,Sem.runT,World.shape?,h2]
   show Sem.runT P (Sem.bind (Go.getObj r') _) wa es=_
   simp only [Go.getObj,Sem.bind,Sem.runT,h2]
   rfl
  rw [hl] at hr
  cases hr
  refine ⟨none,wa,_,R,ha,fun e he=>?_,hw,⟨le_refl R,fun _ _ h=>.inl h⟩,.refl R D wa,Nat.le_refl _,.inl ⟨rfl,rfl⟩⟩
  rcases Array.mem_push.1 he with h' | rfl
  ·exact .inl h'
  ·exact .inr ⟨rfl,r,h⟩
theorem RunR.behindNumber [Fns] {a a':Addr} (h:AR R a a'):RunR P D (fun R' x y=>AR R' x.1 y.1∧x.2=y.2) R (Go.behindNumber a) (Go.behindNumber a'):=by
 unfold Go.behindNumber
 refine RunR.bind (RunR.numberAt h.1) fun R1 h1 x y hxy=>?_
 rcases hxy with ⟨rfl,rfl⟩ | ⟨x,y,l,rfl,rfl,hxy⟩
 ·exact RunR.pure ⟨h.mono h1,rfl⟩
 ·exact RunR.pure ⟨hxy,rfl⟩
theorem RunR.asNumber [Fns] {a a':Addr} {l:Bool} (h:AR R a a'):RunR P D VR R (Go.asNumber a l) (Go.asNumber a' l):=by
 unfold Go.asNumber
 refine RunR.bind (RunR.newObj (D:=D) (o:=.number a l) (o':=.number a' l) fun R' hR=>.inr (.inl ⟨a,a',l,rfl,rfl,h.mono hR,id⟩)) fun R1 _ n n' hn=>?_
 exact RunR.pure (.base (.base (.ptr ⟨hn,rfl,rfl⟩)))
theorem RunR.noView [Fns] {a a':Addr} (h:AR R a a'):RunR P D (fun _ _ _=>True) R (Go.noView a) (Go.noView a'):=by
 unfold Go.noView
 refine RunR.bind (RunR.viewAt h.1) fun R1 h1 x y hxy=>?_
 obtain ⟨rfl,rfl⟩:=hxy
 exact RunR.pure trivial
theorem RunR.byteOf [Fns] {a a':Addr} (h:AR R a a'):RunR P D (fun _ x y=>x=y) R (Go.byteOf a) (Go.byteOf a'):=by
 unfold Go.byteOf
 rw [h.2.2]
 cases a.spot with
 | some s=>exact RunR.pure rfl
 | none =>
  refine RunR.bind RunR.program fun R1 h1 p q hpq=>?_
  obtain ⟨rfl,rfl⟩:=hpq
  refine RunR.bind (RunR.noView (h.mono h1)) fun R2 h2 _ _ _=>?_
  refine RunR.bind (RunR.shape ((h.mono (le_trans h1 h2)).1)) fun R3 h3 x y hxy=>?_
  subst hxy
  cases x with
  | none=>exact RunR.halt
  | some en =>
   dsimp only
   rw [h.2.1]
   split
   ·exact RunR.pure rfl
   ·split
    ·exact RunR.pure rfl
    ·exact RunR.halt
theorem RunR.partAt [Fns] {a a':Addr} {c b:Nat} (h:AR R a a'):RunR P D (fun R'=>AR R') R (Go.partAt a c b) (Go.partAt a' c b):=by
 unfold Go.partAt
 refine RunR.bind (RunR.byteOf h) fun R1 h1 x y hxy=>?_
 subst hxy
 dsimp only
 have hp:AR R1 { block:=a.block,off:=a.off+c } { block:=a'.block,off:=a'.off+c }:=⟨h1 _ _ h.1,by show a'.off+c=a.off+c;rw [h.2.1],rfl⟩
 refine RunR.bind (RunR.byteOf hp) fun R2 h2 u v huv=>?_
 subst huv
 refine RunR.pure ?_
 split
 ·exact hp.mono h2
 ·exact ⟨(hp.mono h2).1,(hp.mono h2).2.1,rfl⟩
theorem RunR.fieldPlace [Fns] {a a':Addr} {f:Field} (h:AR R a a'):RunR P D (fun R'=>AR R') R (Go.fieldPlace a f) (Go.fieldPlace a' f):=by
 unfold Go.fieldPlace
 refine RunR.then fun R1 h1 n=>?_
 split
 ·exact RunR.partAt (h.mono h1)
 ·exact RunR.pure ((h.mono h1).add _)
theorem RunR.fieldAt [Fns] {s:TypeId} {v v':Value} {f:Nat} (h:VR R v v'):RunR P D VR R (Instr.fieldAt s v f) (Instr.fieldAt s v' f):=by
 unfold Instr.fieldAt
 refine RunR.then fun R1 h1 d=>?_
 cases d <;> first | exact RunR.halt | skip
 rename_i fields
 dsimp only
 cases fields[f]? with
 | none=>exact RunR.halt
 | some fd =>
  refine RunR.bind (RunR.sureAddr (h.mono h1)) fun R2 _ a a' ha=>?_
  exact RunR.bind (RunR.fieldPlace ha) fun R3 _ a a' ha=>RunR.pure (.base (.base (.ptr ha)))
theorem VR.asIntOf [Fns] {v v':Value} (h:VR R v v'):RunR P D (fun _ x y=>x=y) R (Go.asIntOf v) (Go.asIntOf v'):=by
 cases h with
 | agg _=>exact RunR.halt
 | base h =>
  cases h with
  | func _ _=>exact RunR.halt
  | base h =>
   cases h with
   | flat hf=>exact RunR.dryA
   | _=>exact RunR.halt
theorem VR.asBool [Fns] {v v':Value} (h:VR R v v'):RunR P D (fun _ x y=>x=y) R (Go.asBool v) (Go.asBool v'):=by
 cases h with
 | agg _=>exact RunR.halt
 | base h =>
  cases h with
  | func _ _=>exact RunR.halt
  | base h =>
   cases h with
   | flat hf=>exact RunR.dryA
   | _=>exact RunR.halt
theorem boundsPanic_no {k:IntKind} {x y:Int} {c:BoundsCode} {w w':World} {a:α}:(boundsPanic k x y c:Sem α).run P w≠.ok a w':=by
 unfold boundsPanic
 dsimp only
 have key:∀ (s:Sem Bool),(s >>= fun s=>(runtimePanic (.bounds (IntKind.i64.wrap x) y s c):Sem α)).run P w≠.ok a w':=by
  intro s
  rw [Sem.run_bind]
  cases s.run P w with
  | ok s w=>intro h;simp [runtimePanic,Sem.run_bind,goPanic,Sem.run] at h
  | halt _ _=>intro h;cases h
 split
 ·exact key _
 ·exact key _
theorem RunR.bounds [Fns] {Φ:BR→α→β→Prop} {k:IntKind} {x y:Int} {c:BoundsCode} {s':Sem β}:RunR P D Φ R (boundsPanic k x y c:Sem α) s':=fun _ _ _ _ _ _ hr=>(boundsPanic_no hr).elim
theorem RunR.indexAt [Fns] {t:TypeId} {x x' i i':Value} (hx:VR R x x') (hi:VR R i i'):RunR P D VR R (Instr.indexAt t x i) (Instr.indexAt t x' i'):=by
 unfold Instr.indexAt
 refine RunR.bind (VR.asIntOf hi) fun R1 h1 k k' hk=>?_
 subst hk
 obtain ⟨k,n⟩:=k
 dsimp only
 have rest:∀ (R2:BR) (b b':Option Addr) (len:Nat) (elem:TypeId),((b=none∧b'=none)∨∃ a a',b=some a∧b'=some a'∧AR R2 a a') →
   RunR P D VR R2
    (do
     let d ← Go.underlying t
     match b with
     | some a=>if 0≤n∧n < len then do Pure.pure (.pointer (some (a.add (n.toNat * (← sizeOf elem))))) else if (decide (len≤1) && (match d with | .array .. => true | _=>false))=true then unsupported (.noEntry "op/indexAddr.an index out of range at an array of length 0 or 1 (ledger 616)") else boundsPanic k n len .index
     | none=>boundsPanic k n 0 .index:Sem Value)
    (do
     let d ← Go.underlying t
     match b' with
     | some a=>if 0≤n∧n < len then do Pure.pure (.pointer (some (a.add (n.toNat * (← sizeOf elem))))) else if (decide (len≤1) && (match d with | .array .. => true | _=>false))=true then unsupported (.noEntry "op/indexAddr.an index out of range at an array of length 0 or 1 (ledger 616)") else boundsPanic k n len .index
     | none=>boundsPanic k n 0 .index:Sem Value):=by
  intro R2 b b' len elem hb
  refine RunR.then fun R3 h3 d=>?_
  rcases hb with ⟨rfl,rfl⟩ | ⟨a,a',rfl,rfl,ha⟩
  ·exact RunR.bounds
  ·dsimp only
   split
   ·refine RunR.then fun R4 h4 m=>?_
    exact RunR.pure (.base (.base (.ptr ((ha.mono (le_trans h3 h4)).add _))))
   ·cases d <;> (dsimp only;split <;> first | exact RunR.halt | exact RunR.bounds)
 refine RunR.then fun R2 h2 d=>?_
 have hx2:=hx.mono (le_trans h1 h2)
 cases d <;> try exact RunR.halt
 case array len elem =>
  dsimp only
  refine RunR.bind (RunR.sureAddr hx2) fun R3 _ a a' ha=>?_
  exact rest R3 (some a) (some a') len elem (.inr ⟨a,a',rfl,rfl,ha⟩)
 case slice elem =>
  cases hx2 with
  | agg _=>exact RunR.halt
  | base h =>
   cases h with
   | func _ _=>exact RunR.halt
   | base h =>
    cases h with
    | ptr _=>exact RunR.halt
    | chan _=>exact RunR.halt
    | slice h=>exact rest R2 (some _) (some _) _ elem (.inr ⟨_,_,rfl,rfl,h⟩)
    | flat hf =>
     cases x <;> try exact RunR.halt
     rename_i b l c
     cases b with
     | none=>exact rest R2 none none l elem (.inl ⟨rfl,rfl⟩)
     | some _=>cases hf
theorem fill_alike [Fns] {place:Nat→Option (Nat × Nat)}:∀ (l l':List (Nat × Value)) (c c':Array Value),AF (VR1 R) c c'→l'.length=l.length→(∀ (j i:Nat) (v:Value),l[j]? = some (i,v)→∃ v':Value,l'[j]? = some (i,v')∧VR R v v') →
  (Instr.fill place c l=none∧Instr.fill place c' l'=none)∨∃ r r',Instr.fill place c l=some r∧Instr.fill place c' l'=some r'∧AF (VR1 R) r r':=by
 intro l
 induction l with
 | nil =>
  intro l' c c' hc hl _
  cases l' with
  | nil=>exact .inr ⟨c,c',rfl,rfl,hc⟩
  | cons _ _=>simp at hl
 | cons x l ih =>
  intro l' c c' hc hl h
  obtain ⟨i,v⟩:=x
  cases l' with
  | nil=>simp at hl
  | cons x' l' =>
   obtain ⟨v',hx,hv⟩:=h 0 i v rfl
   cases hx
   unfold Instr.fill
   cases place i with
   | none=>exact .inl ⟨rfl,rfl⟩
   | some p =>
    obtain ⟨off,size⟩:=p
    have hcc:=hv.cells
    dsimp only
    rw [hcc.1,hc.1]
    split
    ·exact .inl ⟨rfl,rfl⟩
    ·refine ih l' _ _ ?_ (by simpa using hl) fun j i' y hy=>?_
     ·rw [← Array.foldl_toList,← Array.foldl_toList]
      have key:∀ (n m:Nat) (d d':Array Value),AF (VR1 R) d d'→v.cells.size - m=n →
        AF (VR1 R) (((v.cells.zipIdx).toList.drop m).foldl (fun cs (x:Value × Nat)=>cs.setIfInBounds (off+x.2) x.1) d) (((v'.cells.zipIdx).toList.drop m).foldl (fun cs (x:Value × Nat)=>cs.setIfInBounds (off+x.2) x.1) d'):=by
       intro n
       induction n with
       | zero =>
        intro m d d' hd hm
        have e1:(v.cells.zipIdx).toList.drop m=[]:=List.drop_eq_nil_of_le (by simp;omega)
        have e2:(v'.cells.zipIdx).toList.drop m=[]:=List.drop_eq_nil_of_le (by simp [hcc.1];omega)
        rw [e1,e2];exact hd
       | succ n ihn =>
        intro m d d' hd hm
        have hlt:m < v.cells.size:=by omega
        have hlt':m < v'.cells.size:=by rw [hcc.1];exact hlt
        rw [List.drop_eq_getElem_cons (i:=m) (by simpa using hlt),List.drop_eq_getElem_cons (i:=m) (l:=(v'.cells.zipIdx).toList) (by simpa using hlt')]
        rw [List.foldl_cons,List.foldl_cons]
        refine ihn (m+1) _ _ ?_ (by omega)
        simp only [Array.getElem_toList,Array.getElem_zipIdx]
        refine hd.set ?_
        obtain ⟨y',h1,h2⟩:=hcc.2 m v.cells[m] (Array.getElem?_eq_getElem hlt)
        rw [Array.getElem?_eq_getElem hlt'] at h1
        cases h1
        exact h2
      have:=key _ 0 c c' hc rfl
      simpa using this
     ·obtain ⟨y',h1,h2⟩:=h (j+1) i' y (by simpa using hy)
      exact ⟨y',by simpa using h1,h2⟩
theorem RunR.build [Fns] {t:TypeId} (hz:zeroT P t=true) {ps:Array (Nat × Operand)} {ρ ρ':Operand→Value} (h:∀ p∈ps,VR R (ρ p.2) (ρ' p.2)) :
  RunR P D VR R (Instr.build t (ps.map fun (i,x)=>(i,ρ x))) (Instr.build t (ps.map fun (i,x)=>(i,ρ' x))):=by
 have hl:∀ {R':BR},le R R'→∀ (j i:Nat) (v:Value),(ps.map fun (i,x)=>(i,ρ x)).toList[j]? = some (i,v)→∃ v':Value,(ps.map fun (i,x)=>(i,ρ' x)).toList[j]? = some (i,v')∧VR R' v v':=by
  intro R' hR j i v hj
  simp only [Array.toList_map,List.getElem?_map] at hj ⊢
  obtain ⟨p,hp,he⟩:=Option.map_eq_some_iff.1 hj
  obtain ⟨i0,x⟩:=p
  cases he
  refine ⟨ρ' x,by rw [hp];rfl,(h _ ?_).mono hR⟩
  have:=List.mem_of_getElem? hp
  simpa using this
 unfold Instr.build
 refine RunR.bind (RunR.zeroValue hz) fun R1 h1 z z' hzz=>?_
 dsimp only
 refine RunR.then fun R2 h2 d=>?_
 cases d <;> try exact RunR.halt
 case struct fields =>
  dsimp only
  refine RunR.bind (Φ:=fun _ a b=>a=b) ?_ fun R3 h3 pl pl' hpl=>?_
  ·have:Sr.DryA (fields.mapM fun f=>do Pure.pure (f.offset,← sizeOf f.type):Sem (Array (Nat × Nat))):=by
    rw [Array.mapM_eq_foldlM,← Array.foldlM_toList]
    have key:∀ (l:List Field) (acc:Array (Nat × Nat)),Sr.DryA (l.foldlM (fun bs a=>bs.push <$> (do Pure.pure (a.offset,← sizeOf a.type):Sem (Nat × Nat))) acc:Sem (Array (Nat × Nat))):=by
     intro l
     induction l with
     | nil=>intro acc;rw [List.foldlM_nil];infer_instance
     | cons x l ih=>intro acc;rw [List.foldlM_cons];exact dryA_bind inferInstance fun b=>ih b
    exact key _ _
   exact RunR.dryA
  ·subst hpl
   rcases fill_alike (R:=R3) (place:=(pl[·]?)) _ _ z.cells z'.cells ((hzz.mono (le_trans h2 h3)).cells) (by simp) (hl (le_trans h1 (le_trans h2 h3))) with ⟨e1,e2⟩ | ⟨r,r',e1,e2,hr⟩
   ·rw [e1];exact RunR.halt
   ·rw [e1,e2];exact RunR.pure (.ofAgg hr)
 case array n elem =>
  dsimp only
  refine RunR.then fun R3 h3 m=>?_
  rcases fill_alike (R:=R3) (place:=fun i=>some (i * m,m)) _ _ z.cells z'.cells ((hzz.mono (le_trans h2 h3)).cells) (by simp) (hl (le_trans h1 (le_trans h2 h3))) with ⟨e1,e2⟩ | ⟨r,r',e1,e2,hr⟩
  ·rw [e1];exact RunR.halt
  ·rw [e1,e2];exact RunR.pure (.ofAgg hr)
theorem RunR.unsafeAdd [Fns] {t:TypeId} {a a':Addr} {y y':Value} (h:AR R a a') (hy:VR R y y'):RunR P D (fun R' x x'=>∃ b b',x=.pointer (some b)∧x'=.pointer (some b')∧AR R' b b') R (Builtin.unsafeAdd_ #[] t #[.pointer (some a),y]) (Builtin.unsafeAdd_ #[] t #[.pointer (some a'),y']):=by
 show RunR P D _ R (Go.asInt y >>= _) (Go.asInt y' >>= _)
 have hai:RunR P D (fun _ x y=>x=y) R (Go.asInt y) (Go.asInt y'):=by
  unfold Go.asInt
  exact RunR.bind (VR.asIntOf hy) fun R1 _ x y hxy=>by subst hxy;exact RunR.pure rfl
 refine RunR.bind hai fun R1 h1 n n' hn=>?_
 subst hn
 have hmove:∀ (R2:BR),le R1 R2→RunR P D (fun R' x x'=>∃ b b',x=.pointer (some b)∧x'=.pointer (some b')∧AR R' b b') R2
   (do
    let some (e,cells) ← Go.shape a.block | unsupported (.unsafePointer "Add")
    let p ← Go.program
    match cellAtBytes p p.depth e (cells / p.cellsOf e) a.off n with
    | some off=>Pure.pure (.pointer (some { a with off }))
    | none=>unsupported (.unsafePointer "Add"):Sem Value)
   (do
    let some (e,cells) ← Go.shape a'.block | unsupported (.unsafePointer "Add")
    let p ← Go.program
    match cellAtBytes p p.depth e (cells / p.cellsOf e) a'.off n with
    | some off=>Pure.pure (.pointer (some { a' with off }))
    | none=>unsupported (.unsafePointer "Add"):Sem Value):=by
  intro R2 h2
  refine RunR.bind (RunR.shape ((h.mono (le_trans h1 h2)).1)) fun R3 h3 x y hxy=>?_
  subst hxy
  cases x with
  | none=>exact RunR.halt
  | some en =>
   obtain ⟨e,cells⟩:=en
   dsimp only
   refine RunR.bind RunR.program fun R4 h4 p q hpq=>?_
   obtain ⟨rfl,rfl⟩:=hpq
   rw [h.2.1]
   split
   ·exact RunR.pure ⟨_,_,rfl,rfl,(h.mono (le_trans h1 (le_trans h2 (le_trans h3 h4)))).1,rfl,h.2.2⟩
   ·exact RunR.halt
 by_cases h0:n=0
 ·simp only [h0,if_true]
  refine RunR.bind (RunR.viewAt (h1 _ _ h.1)) fun R2 h2 x y hxy=>?_
  obtain ⟨rfl,rfl⟩:=hxy
  exact RunR.pure ⟨a,a',rfl,rfl,h.mono (le_trans h1 h2)⟩
 ·simp only [h0,if_false]
  by_cases hn:n < 0
  ·simp only [hn,if_true]
   exact RunR.halt
  ·simp only [hn,if_false]
   exact hmove R1 (le_refl _)
def IsInt (P:Program) (t:TypeId):Prop:=∃ k,P.underlying t=some (.int k)
theorem RunR.movedNumber [Fns] {t:TypeId} (ht:IsInt P t) {a a':Addr} {y y':Value} (h:AR R a a') (hy:VR R y y'):RunR P D VR R (Go.movedNumber t (.pointer (some a)) y) (Go.movedNumber t (.pointer (some a')) y'):=by
 obtain ⟨k,hk⟩:=ht
 unfold Go.movedNumber
 refine RunR.thenU fun R1 h1 d hd=>?_
 rw [hk] at hd
 cases hd
 refine RunR.bind (RunR.behindNumber (h.mono h1)) fun R2 h2 x x' hx=>?_
 obtain ⟨b,l⟩:=x
 obtain ⟨b',l'⟩:=x'
 obtain ⟨hb,hl⟩:=hx
 cases hl
 refine RunR.bind (RunR.unsafeAdd hb (hy.mono (le_trans h1 h2))) fun R3 h3 x x' hx=>?_
 obtain ⟨c,c',rfl,rfl,hc⟩:=hx
 exact RunR.asNumber hc
theorem RunR.twoPlaces [Fns] {Φ:BR→Nat × Nat→Nat × Nat→Prop} {a b:Addr} {a':Addr} (h:AR R a a') {s':Sem (Nat × Nat)}:RunR P D Φ R (Op.twoPlaces a b) s':=by
 intro wl wa es hw x wl' hr
 exfalso
 have hg:=(hw.new _ _ h.1).1
 unfold Op.twoPlaces at hr
 rw [Sem.run_bind] at hr
 have:(Go.program).run P wl=.ok P wl:=rfl
 rw [this] at hr
 have hc:(a.block != b.block || decide (a.block ≥ P.globals.size))=true:=by simp [hg]
 simp only [Result.andThen,hc,if_true] at hr
 cases hr
theorem RunR.addrMod [Fns] {k:IntKind} {n:Int} {a a':Addr} (h:AR R a a'):RunR P D VR R (Op.addrMod k a n) (Op.addrMod k a' n):=by
 unfold Op.addrMod
 refine RunR.bind (RunR.shape h.1) fun R1 h1 x y hxy=>?_
 subst hxy
 cases x with
 | none=>exact RunR.halt
 | some en =>
  obtain ⟨e,cells⟩:=en
  dsimp only
  refine RunR.then fun R2 h2 i=>?_
  split
  ·exact RunR.halt
  ·refine RunR.bind (RunR.byteOf (h.mono (le_trans h1 h2))) fun R3 _ x y hxy=>?_
   subst hxy
   exact RunR.pure VR.int
def isNum:Value→Bool
 | .int .. | .pointer (some _)=>true
 | _=>false
theorem VR.num [Fns] {x x':Value} (h:VR R x x') (hn:isNum x=true):(∃ k n,x=.int k n∧x'=.int k n)∨∃ a a',x=.pointer (some a)∧x'=.pointer (some a')∧AR R a a':=by
 cases h with
 | agg _=>cases hn
 | base h =>
  cases h with
  | func _ _=>cases hn
  | base h =>
   cases h with
   | slice _=>cases hn
   | chan _=>cases hn
   | ptr ha=>exact .inr ⟨_,_,rfl,rfl,ha⟩
   | flat hf =>
    cases x <;> first | exact .inl ⟨_,_,rfl,rfl⟩ | (cases hn;done) | skip
    case pointer p =>
     cases p with
     | none=>cases hn
     | some _=>cases hf
def okBin:BinOp→Bool
 | .add | .sub | .and | .or | .shl | .shr | .lss | .leq | .eql=>true
 | _=>false
theorem RunR.equalInt [Fns] {t:TypeId} (ht:IsInt P t) {x x' y y':Value} (hx:VR R x x') (hy:VR R y y'):RunR P D (fun _ a b=>a=b) R (Op.equal t x y) (Op.equal t x' y'):=by
 obtain ⟨k,hk⟩:=ht
 unfold Op.equal
 show RunR P D _ R (Op.equalIn (9999+1) t x y) (Op.equalIn (9999+1) t x' y')
 unfold Op.equalIn
 refine RunR.thenU fun R1 h1 d hd=>?_
 rw [hk] at hd
 cases hd
 have ptrptr:∀ {a a' b b':Addr},AR R a a'→AR R b b'→RunR P D (fun _ a b=>a=b) R1
   (do
    let (a,b):=((← Go.behindNumber a).1,(← Go.behindNumber b).1)
    if a.block == b.block && a.block < (← Go.program).globals.size then return (← Go.byteOf a) == (← Go.byteOf b)
    let .named "sync.copyChecker" _:=(← typeInfo t).desc | unsupported .addressObserved
    if a == b then Pure.pure true else unsupported .addressObserved:Sem Bool)
   (do
    let (a,b):=((← Go.behindNumber a').1,(← Go.behindNumber b').1)
    if a.block == b.block && a.block < (← Go.program).globals.size then return (← Go.byteOf a) == (← Go.byteOf b)
    let .named "sync.copyChecker" _:=(← typeInfo t).desc | unsupported .addressObserved
    if a == b then Pure.pure true else unsupported .addressObserved:Sem Bool):=by
  intro a a' b b' ha hb
  refine RunR.bind (RunR.behindNumber (ha.mono h1)) fun R2 h2 x x' hx=>?_
  refine RunR.bind (RunR.behindNumber (hb.mono (le_trans h1 h2))) fun R3 h3 y y' hy=>?_
  dsimp only
  refine RunR.bind RunR.program fun R4 h4 p q hpq=>?_
  rw [hpq.1,hpq.2]
  have hxa:=(hx.1).mono (le_trans h3 h4)
  have hya:=(hy.1).mono h4
  intro wl wa es hw r wl' hr
  have g1:=hw.new _ _ hxa.1
  have e1:(x.1.block == y.1.block && decide (x.1.block < P.globals.size))=false:=by simp;omega
  have e2:(x'.1.block == y'.1.block && decide (x'.1.block < P.globals.size))=false:=by simp;omega
  simp only [e1,Bool.false_eq_true,if_false] at hr
  simp only [e2,Bool.false_eq_true,if_false]
  refine RunR.bind (P:=P) (D:=D) (Φ:=fun _ a b=>a=b) (s:=typeInfo t) (s':=typeInfo t) RunR.dryA (fun R5 h5 i i' hi=>?_) wl wa es hw r wl' hr
  subst hi
  split
  ·intro wl wa es hw r wl' hr
   by_cases he:x.1=y.1
   ·have he':x'.1=y'.1:=by
     have hb1:=hw.fn _ _ _ (h5 _ _ hxa.1) (he ▸ h5 _ _ hya.1)
     have o1:=hxa.2;have o2:=hya.2
     rw [he] at o1
     cases hx1:x'.1;cases hy1:y'.1
     rw [hx1,hy1] at hb1
     rw [hx1] at o1;rw [hy1] at o2
     simp_all
    rw [if_pos (by simpa using he)] at hr
    rw [if_pos (by simpa using he')]
    exact RunR.pure (P:=P) (D:=D) (Φ:=fun _ a b=>a=b) rfl wl wa es hw r wl' hr
   ·rw [if_neg (by simpa using he)] at hr
    cases hr
  ·exact RunR.halt
 by_cases hxn:isNum x=true
 ·by_cases hyn:isNum y=true
  ·have hx':=VR.num hx hxn
   have hy':=VR.num hy hyn
   rcases hx' with ⟨k1,n,rfl,rfl⟩ | ⟨a,a',rfl,rfl,ha⟩
   ·rcases hy' with ⟨k2,m,rfl,rfl⟩ | ⟨b,b',rfl,rfl,hb⟩
    ·show RunR P D _ R1 (if k1=k2 then Pure.pure (n == m) else stuck _) (if k1=k2 then Pure.pure (n == m) else stuck _)
     split
     ·exact RunR.pure rfl
     ·exact RunR.halt
    ·by_cases hn:n=0
     ·subst hn;exact RunR.pure rfl
     ·split <;> first | exact RunR.halt | contradiction | (simp_all;done)
   ·rcases hy' with ⟨k2,m,rfl,rfl⟩ | ⟨b,b',rfl,rfl,hb⟩
    ·by_cases hn:m=0
     ·subst hn;exact RunR.pure rfl
     ·split <;> first | exact RunR.halt | contradiction | (simp_all;done)
    ·exact ptrptr ha hb
  ·clear hy hx ptrptr
   cases x <;> first | (cases hxn;done) | skip
   case int k1 n =>
    cases y <;> first | exact (hyn rfl).elim | (split <;> first | exact RunR.halt | contradiction) | skip
    case pointer p =>
     cases p with
     | some b=>exact (hyn rfl).elim
     | none=>split <;> first | exact RunR.halt | contradiction | (simp_all;done)
   case pointer p =>
    cases p with
    | none=>cases hxn
    | some a=>cases y <;> first | exact RunR.halt | exact (hyn rfl).elim | (rename_i b;cases b <;> first | exact RunR.halt | exact (hyn rfl).elim)
 ·clear hy hx ptrptr
  cases x <;> first | exact (hxn rfl).elim | (cases y <;> first | exact RunR.halt | (rename_i b;cases b <;> exact RunR.halt)) | skip
  case pointer p =>
   cases p with
   | some a=>exact (hxn rfl).elim
   | none=>cases y <;> first | exact RunR.halt | (rename_i b;cases b <;> exact RunR.halt)
end
end Go.Sr
