/- A part of the proof: T9, T10. -/
import Derived.Test.YtjjmefieegcddaaDoorC03
set_option linter.unusedVariables false
set_option linter.unusedSimpArgs false
set_option maxHeartbeats 8000000
namespace Go.Sr
open Go
open Go.Tm
def uH (P:Program) {α:Type} (Q:α→Prop):Sem α→Prop
 | .pure a=>Q a
 | .halt _=>True
 | .choose _ k=>∀ n,uH P Q (k n)
 | .program k=>uH P Q (k P)
 | .mark m k=>m=.noRoom∧uH P Q k
 | _=>False
section
variable {P:Program} {D:Nat→Prop} {α β:Type} {R:BR}
theorem uH.bind {Q:α→Prop} {Q':β→Prop} {f:α→Sem β} (hf:∀ a,Q a→uH P Q' (f a)) {s:Sem α} (h:uH P Q s):uH P Q' (s >>= f):=by
 show uH P Q' (s.bind f)
 induction s with
 | pure a=>exact hf a h
 | halt _=>trivial
 | choose q k ih=>exact fun n=>ih n (h n)
 | program k ih=>exact ih P h
 | mark m k ih=>exact ⟨h.1,ih h.2⟩
 | load _ _ _ _=>exact h.elim
 | store _ _ _ _ _=>exact h.elim
 | new _ _ _=>exact h.elim
 | shape _ _ _=>exact h.elim
 | freeze _ _ _ _=>exact h.elim
 | frozen _ _ _=>exact h.elim
 | getObj _ _ _=>exact h.elim
 | setObj _ _ _ _=>exact h.elim
 | sys _ _ _=>exact h.elim
theorem ah.dry [bT] {Q:α→Prop} {s:Sem α} (h:uH P Q s):ah P D (fun _ a b=>a=b∧Q a) R s s:=by
 induction s generalizing R with
 | pure a=>exact ah.pure ⟨rfl,h⟩
 | halt _=>exact ah.halt
 | choose q k ih =>
  show ah P D _ R (Go.choose q >>= k) (Go.choose q >>= k)
  exact ah.bind ah.choose fun R' _ a b hab=>by subst hab;exact ih a (h a)
 | program k ih =>
  show ah P D _ R (Go.program >>= k) (Go.program >>= k)
  exact ah.bind ah.program fun R' _ a b hab=>by obtain ⟨rfl,rfl⟩:=hab;exact ih _ h
 | mark m k ih =>
  obtain ⟨rfl,h⟩:=h
  show ah P D _ R (Go.mark .noRoom >>= fun _=>k) (Go.mark .noRoom >>= fun _=>k)
  exact ah.bind ah.noRoom fun R' _ a b _=>ih h
 | load _ _ _ _=>exact h.elim
 | store _ _ _ _ _=>exact h.elim
 | new _ _ _=>exact h.elim
 | shape _ _ _=>exact h.elim
 | freeze _ _ _ _=>exact h.elim
 | frozen _ _ _=>exact h.elim
 | getObj _ _ _=>exact h.elim
 | setObj _ _ _ _=>exact h.elim
 | sys _ _ _=>exact h.elim
class iE {α:Type} (s:Sem α):Prop where
 t:∀ P,uH P (fun _=>True) s
class nM (s:Sem Value):Prop where
 t:∀ P,uH P (fun v=>flat v=true) s
theorem dB {s:Sem α} {f:α→Sem β} (h:iE s) (hf:∀ a,iE (f a)):iE (s >>= f):=⟨fun P=>uH.bind (fun a _=>(hf a).t P) (h.t P)⟩
instance {s:Sem α} {f:α→Sem β} [h:iE s] [hf:∀ a,iE (f a)]:iE (s >>= f):=dB h hf
theorem dD {s:Sem α} {f:α→Sem Value} (h:iE s) (hf:∀ a,nM (f a)):nM (s >>= f):=⟨fun P=>uH.bind (fun a _=>(hf a).t P) (h.t P)⟩
instance {s:Sem α} {f:α→Sem Value} [h:iE s] [hf:∀ a,nM (f a)]:nM (s >>= f):=dD h hf
instance {s:Sem α} {f:α→β} [h:iE s]:iE (f <$> s):=(dB h (fun a=>(⟨fun _=>trivial⟩:iE (pure (f a):Sem β))):iE (s >>= fun a=>pure (f a)))
instance {a:α}:iE (pure a:Sem α):=⟨fun _=>trivial⟩
instance {b:Bool}:nM (pure (.bool b):Sem Value):=⟨fun _=>rfl⟩
instance {k:IntKind} {n:Int}:nM (pure (.int k n):Sem Value):=⟨fun _=>rfl⟩
instance {k:FloatKind} {n:Nat}:nM (pure (.float k n):Sem Value):=⟨fun _=>rfl⟩
instance {k:FloatKind} {n m:Nat}:nM (pure (.complex k n m):Sem Value):=⟨fun _=>rfl⟩
instance {s:ByteArray}:nM (pure (.string s):Sem Value):=⟨fun _=>rfl⟩
instance {s:String}:iE (stuck s:Sem α):=⟨fun _=>trivial⟩
instance {s:Unsupported}:iE (unsupported s:Sem α):=⟨fun _=>trivial⟩
instance {v:Value}:iE (goPanic v:Sem α):=⟨fun _=>trivial⟩
instance {s:String}:nM (stuck s:Sem Value):=⟨fun _=>trivial⟩
instance {s:Unsupported}:nM (unsupported s:Sem Value):=⟨fun _=>trivial⟩
instance {v:Value}:nM (goPanic v:Sem Value):=⟨fun _=>trivial⟩
instance:iE program:=⟨fun _=>trivial⟩
instance {q:Question}:iE (choose q):=⟨fun _ _=>trivial⟩
instance:iE (mark .noRoom):=⟨fun _=>⟨rfl,trivial⟩⟩
instance aaW {c:Prop} [Decidable c] {a b:Sem α} [iE a] [iE b]:iE (if c then a else b):=by split <;> infer_instance
theorem eX {c:Prop} [Decidable c] {a b:Sem α} (ha:iE a) (hb:iE b):iE (if c then a else b):=by split <;> assumption
theorem dV {c:Prop} [Decidable c] {a b:Sem Value} (ha:nM a) (hb:nM b):nM (if c then a else b):=by split <;> assumption
end
section
instance {t:TypeId}:iE (typeInfo t):=by unfold typeInfo;repeat' (first | infer_instance | apply eX | apply dV | apply dB | apply dD | intro _ | dsimp only | split)
instance {t:TypeId}:iE (underlying t):=by unfold underlying;repeat' (first | infer_instance | apply eX | apply dV | apply dB | apply dD | intro _ | dsimp only | split)
instance {t:TypeId}:iE (zeroValue t):=by unfold zeroValue;repeat' (first | infer_instance | apply eX | apply dV | apply dB | apply dD | intro _ | dsimp only | split)
instance {t:TypeId}:iE (sizeOf t):=by unfold sizeOf;repeat' (first | infer_instance | apply eX | apply dV | apply dB | apply dD | intro _ | dsimp only | split)
instance {t:TypeId}:iE (isAgg t):=by unfold isAgg;repeat' (first | infer_instance | apply eX | apply dV | apply dB | apply dD | intro _ | dsimp only | split)
instance {n:Nat}:iE (askRoom n):=by unfold askRoom;repeat' (first | infer_instance | apply eX | apply dV | apply dB | apply dD | intro _ | dsimp only | split)
instance {o:BinOp} {k:IntKind} {x y:Int}:nM (Op.intArith o k x y):=by unfold Op.intArith;repeat' (first | infer_instance | apply eX | apply dV | apply dB | apply dD | intro _ | dsimp only | split)
instance {o:BinOp} {k:IntKind} {x y:Int}:nM (Op.intBits o k x y):=by unfold Op.intBits;repeat' (first | infer_instance | apply eX | apply dV | apply dB | apply dD | intro _ | dsimp only | split)
instance {o:BinOp} {x y:Int}:nM (Op.intCmp o x y):=by unfold Op.intCmp;repeat' (first | infer_instance | apply eX | apply dV | apply dB | apply dD | intro _ | dsimp only | split)
instance {o:BinOp} {x y:ByteArray}:nM (Op.stringOp o x y):=by unfold Op.stringOp;repeat' (first | infer_instance | apply eX | apply dV | apply dB | apply dD | intro _ | dsimp only | split)
instance {o:BinOp} {k:FloatKind} {x y:Nat}:nM (Op.floatArith o k x y):=by unfold Op.floatArith;repeat' (first | infer_instance | apply eX | apply dV | apply dB | apply dD | intro _ | dsimp only | split)
instance {o:BinOp} {k:FloatKind} {x y:Nat}:nM (Op.floatCmp o k x y):=by unfold Op.floatCmp;repeat' (first | infer_instance | apply eX | apply dV | apply dB | apply dD | intro _ | dsimp only | split)
instance {v:Value}:iE (asBool v):=by unfold asBool;repeat' (first | infer_instance | apply eX | apply dV | apply dB | apply dD | intro _ | dsimp only | split)
instance {v:Value}:iE (asIntOf v):=by unfold asIntOf;repeat' (first | infer_instance | apply eX | apply dV | apply dB | apply dD | intro _ | dsimp only | split)
instance {v:Value}:iE (asInt v):=by unfold asInt;repeat' (first | infer_instance | apply eX | apply dV | apply dB | apply dD | intro _ | dsimp only | split)
end
section
variable {P:Program} {D:Nat→Prop} {α β:Type} {R:BR}
theorem ah.Wi [bT] {s:Sem α} [h:iE s]:ah P D (fun _ a b=>a=b) R s s:=(ah.dry (h.t P)).mono fun _ _ _ h=>h.1
theorem ah.Oe [bT] {s:Sem Value} [h:nM s]:ah P D VR R s s:=(ah.dry (h.t P)).mono fun _ a b h=>by obtain ⟨rfl,h⟩:=h;exact .of_flat h
theorem ah.then [bT] {γ δ:Type} {Ψ:BR→γ→δ→Prop} {s:Sem α} [iE s] {f:α→Sem γ} {f':α→Sem δ} (hf:∀ R',le R R'→∀ a,ah P D Ψ R' (f a) (f' a)):ah P D Ψ R (s >>= f) (s >>= f') :=
 ah.bind ah.Wi fun R' hR a b hab=>by subst hab;exact hf R' hR a
theorem ah.underlying [bT] {t:TypeId}:ah P D (fun _ a b=>a=b∧P.underlying t=some a) R (Go.underlying t) (Go.underlying t):=by
 unfold Go.underlying
 refine ah.bind ah.program fun R' _ a b hab=>?_
 obtain ⟨rfl,rfl⟩:=hab
 cases h:b.underlying t with
 | none=>exact ah.halt
 | some d=>exact ah.pure ⟨rfl,rfl⟩
theorem ah.Nw [bT] {γ δ:Type} {Ψ:BR→γ→δ→Prop} {t:TypeId} {f:TypeDesc→Sem γ} {f':TypeDesc→Sem δ} (hf:∀ R',le R R'→∀ a,P.underlying t=some a→ah P D Ψ R' (f a) (f' a)):ah P D Ψ R (Go.underlying t >>= f) (Go.underlying t >>= f') :=
 ah.bind ah.underlying fun R' hR a b hab=>by obtain ⟨rfl,h⟩:=hab;exact hf R' hR a h
theorem AR.add {a a':Addr} (h:AR R a a') (n:Nat):AR R (a.add n) (a'.add n):=by
 unfold Addr.add
 split
 ·exact h
 ·exact ⟨h.1,by show a'.off+n=a.off+n;rw [h.2.1],rfl⟩
theorem ah.loadCellsFrom [bT] {a a':Addr}:∀ (n i:Nat) {R:BR} (acc acc':Array Value),AR R a a'→AF (qV R) acc acc'→ah P D (fun R'=>AF (qV R')) R (Go.loadCellsFrom a i n acc) (Go.loadCellsFrom a' i n acc')
 | 0,i,R,acc,acc',_,h=>by unfold Go.loadCellsFrom;exact ah.pure h
 | n+1,i,R,acc,acc',ha,h=>by
  unfold Go.loadCellsFrom
  refine ah.bind (ah.load (ha.add i)) fun R' hR v v' hv=>?_
  exact ah.loadCellsFrom n _ _ _ (ha.mono hR) ((h.mono fun _ _=>qV.mono hR).push hv)
theorem ah.storeCells [bT] {a a':Addr}:∀ (vs vs':List Value) (i:Nat) {R:BR},AR R a a'→vs'.length=vs.length→(∀ (j:Nat) (v:Value),vs[j]? = some v→∃ v':Value,vs'[j]? = some v'∧qV R v v')→ah P D (fun _ _ _=>True) R (Go.storeCells a vs i) (Go.storeCells a' vs' i)
 | [],vs',i,R,_,hl,h=>by
  cases vs' with
  | nil=>unfold Go.storeCells;exact ah.pure trivial
  | cons v l=>simp at hl
 | v :: vs,vs',i,R,ha,hl,h=>by
  cases vs' with
  | nil=>simp at hl
  | cons v' vs' =>
   unfold Go.storeCells
   obtain ⟨x,hx,hv⟩:=h 0 v rfl
   cases hx
   refine ah.bind (ah.store (ha.add i) hv) fun R' hR _ _ _=>?_
   refine ah.storeCells vs vs' _ (ha.mono hR) (by simpa using hl) fun j y hy=>?_
   obtain ⟨y',h1,h2⟩:=h (j+1) y (by simpa using hy)
   exact ⟨y',by simpa using h1,h2.mono hR⟩
theorem ah.loadVar [bT] {t:TypeId} {a a':Addr} (h:AR R a a'):ah P D VR R (Go.loadVar t a) (Go.loadVar t a'):=by
 unfold Go.loadVar
 refine ah.then fun R1 h1 b=>?_
 cases b with
 | true =>
  refine ah.then fun R2 h2 n=>?_
  refine ah.bind (ah.loadCellsFrom n 0 #[] #[] (h.mono (le_trans h1 h2)) AF.empty) fun R3 _ c c' hc=>?_
  exact ah.pure (.Kr hc)
 | false=>exact (ah.load (h.mono h1)).mono fun _ _ _ h=>.base h
theorem ah.storeVar [bT] {t:TypeId} {a a':Addr} (h:AR R a a') {v v':Value} (hv:VR R v v'):ah P D (fun _ _ _=>True) R (Go.storeVar t a v) (Go.storeVar t a' v'):=by
 unfold Go.storeVar
 refine ah.then fun R1 h1 n=>?_
 have hc:=(hv.mono h1).cells
 rw [hc.1]
 have hst:ah P D (fun _ _ _=>True) R1 (Go.storeCells a v.cells.toList) (Go.storeCells a' v'.cells.toList):=by
  refine ah.storeCells _ _ _ (h.mono h1) (by simpa using hc.1) fun j x hx=>?_
  obtain ⟨x',h2,h3⟩:=hc.2 j x (by simpa using hx)
  exact ⟨x',by simpa using h2,h3⟩
 dsimp only
 split
 ·exact ah.halt
 ·exact hst
theorem ah.newRow [bT] {t:TypeId} {c c':Array Value} (h:AF (qV R) c c'):ah P D (fun R'=>AR R') R (Go.newRow t c) (Go.newRow t c'):=by
 unfold Go.newRow
 refine ah.bind (ah.newObj (D:=D) (o:=.cells c t) (o':=.cells c' t) fun R' hR=>.inl ⟨c,c',t,(0,0),(0,0),rfl,rfl,h.mono fun _ _=>qV.mono hR,fun h=>h.elim,fun _=>⟨rfl,rfl⟩⟩) fun R' _ n n' hn=>?_
 exact ah.pure ⟨hn,rfl,rfl⟩
theorem ah.newVar [bT] {t:TypeId} {v v':Value} (h:VR R v v'):ah P D (fun R'=>AR R') R (Go.newVar t v) (Go.newVar t v'):=ah.newRow h.cells
def IY:Value→Bool
 | .agg c=>c.all flat
 | v=>flat v
theorem P8 [bT] {v:Value} (h:IY v=true):VR R v v:=by
 unfold IY at h
 split at h
 ·rw [Array.all_eq_true] at h
  exact .Kr (AF.self fun v hv=>by
   obtain ⟨i,hi,rfl⟩:=Array.mem_iff_getElem.1 hv
   exact .base (.flat (h i hi)))
 ·exact .of_flat h
def Hl (P:Program) (t:TypeId):Bool:=((P.info? t).bind (·.zero)).all IY
theorem ah.zeroValue [bT] {t:TypeId} (hz:Hl P t=true):ah P D VR R (Go.zeroValue t) (Go.zeroValue t):=by
 unfold Go.zeroValue
 unfold Go.typeInfo
 refine ah.bind (Φ:=fun _ a b=>a=b∧P.info? t=some a) ?_ fun R1 _ a b hab=>?_
 ·refine ah.bind ah.program fun R1 _ a b hab=>?_
  obtain ⟨rfl,rfl⟩:=hab
  cases h:b.info? t with
  | none=>exact ah.halt
  | some i=>exact ah.pure ⟨rfl,rfl⟩
 ·obtain ⟨rfl,h⟩:=hab
  cases hv:a.zero with
  | none=>exact ah.halt
  | some v=>exact ah.pure (P8 (by unfold Hl at hz;rw [h] at hz;simpa [hv] using hz))
theorem ah.alloc [bT] {t:TypeId} (hz:Hl P t=true):ah P D VR R (Instr.alloc t true (.tuple #[])) (Instr.alloc t true (.tuple #[])):=by
 unfold Instr.alloc
 refine ah.bind (ah.zeroValue hz) fun R1 _ v v' hv=>?_
 exact ah.bind (ah.newVar hv) fun R2 _ a a' ha=>ah.pure (.base (.base (.ptr ha)))
theorem ah.box [bT] {t:TypeId} {v v':Value} (h:VR R v v'):ah P D VR R (Instr.box t v) (Instr.box t v'):=by
 unfold Instr.box
 exact ah.bind (ah.newVar h) fun R2 _ a a' ha=>ah.pure (.base (.base (.ptr ha)))
theorem ah.sureAddr [bT] {v v':Value} (h:VR R v v'):ah P D (fun R'=>AR R') R (Instr.sureAddr v) (Instr.sureAddr v'):=by
 unfold Instr.sureAddr
 cases h with
 | agg _=>exact ah.halt
 | base h =>
  cases h with
  | func _ _=>exact ah.halt
  | base h =>
   cases h with
   | ptr h=>exact ah.pure h
   | slice _=>exact ah.halt
   | chan _=>exact ah.halt
   | flat hf=>cases v <;> first | exact ah.halt | (rename_i a;cases a <;> first | exact ah.halt | cases hf)
theorem ah.loadAt [bT] {t:TypeId} {v v':Value} (h:VR R v v'):ah P D VR R (Instr.loadAt t v) (Instr.loadAt t v'):=by
 unfold Instr.loadAt
 exact ah.bind (ah.sureAddr h) fun R1 _ a a' ha=>ah.loadVar ha
theorem ah.storeAt [bT] {t:TypeId} {v v' x x':Value} (h:VR R v v') (hx:VR R x x'):ah P D (fun _ _ _=>True) R (Instr.storeAt t v x) (Instr.storeAt t v' x'):=by
 unfold Instr.storeAt
 exact ah.bind (ah.sureAddr h) fun R1 h1 a a' ha=>ah.storeVar ha (hx.mono h1)
theorem ah.viewAt [bT] {r r':Nat} (h:R r r'):ah P D (fun _ a b=>a=none∧b=none) R (Go.viewAt r) (Go.viewAt r'):=by
 intro wl wa es hw x wl' hr
 obtain ⟨o,o',h1,h2,h3⟩:=hw.obj _ _ h
 rcases h3 with ⟨c,c',e,f,f',rfl,rfl,h4,_⟩ | ⟨a,a',l,rfl,rfl,h4,h5⟩ | ⟨_,hch,hch'⟩
 ·have hl:(Go.viewAt r).run P wl=.ok none wl:=by simp [Go.viewAt,Go.shape,Sem.run,World.shape?,h1]
  have ha:(Go.viewAt r').runT P wa es=(.ok none wa,es):=by
   unfold Go.viewAt
   show Sem.runT P (Sem.bind (Go.shape r') _) wa es=_
   simp only [Go.shape,Sem.bind,Sem.runT,World.shape?,h2]
   rfl
  rw [hl] at hr
  cases hr
  exact ⟨none,wa,es,R,ha,fun e he=>.inl he,hw,⟨le_refl R,fun _ _ h=>.inl h⟩,.refl R D wa,Nat.le_refl _,rfl,rfl⟩
 ·have hl:(Go.viewAt r).run P wl=.ok none wl:=by simp [Go.viewAt,Go.shape,Go.getObj,Sem.run,World.shape?,h1]
  have ha:(Go.viewAt r').runT P wa es=(.ok none wa,es.push ⟨.obj r',false,false⟩):=by
   unfold Go.viewAt
   show Sem.runT P (Sem.bind (Go.shape r') _) wa es=_
   simp only [Go.shape,Sem.bind,Sem.runT,World.shape?,h2]
   show Sem.runT P (Sem.bind (Go.getObj r') _) wa es=_
   simp only [Go.getObj,Sem.bind,Sem.runT,h2]
   rfl
  rw [hl] at hr
  cases hr
  refine ⟨none,wa,_,R,ha,fun e he=>?_,hw,⟨le_refl R,fun _ _ h=>.inl h⟩,.refl R D wa,Nat.le_refl _,rfl,rfl⟩
  rcases Array.mem_push.1 he with h' | rfl
  ·exact .inl h'
  ·exact .inr ⟨rfl,r,h⟩
 ·cases o <;> first | (cases hch;done) | skip
  cases o' <;> first | (cases hch';done) | skip
  have hl:(Go.viewAt r).run P wl=.ok none wl:=by simp [Go.viewAt,Go.shape,Go.getObj,Sem.run,World.shape?,h1]
  have ha:(Go.viewAt r').runT P wa es=(.ok none wa,es.push ⟨.obj r',false,true⟩):=by
   unfold Go.viewAt
   show Sem.runT P (Sem.bind (Go.shape r') _) wa es=_
   simp only [Go.shape,Sem.bind,Sem.runT,World.shape?,h2]
   show Sem.runT P (Sem.bind (Go.getObj r') _) wa es=_
   simp only [Go.getObj,Sem.bind,Sem.runT,h2]
   rfl
  rw [hl] at hr
  cases hr
  refine ⟨none,wa,_,R,ha,fun e he=>?_,hw,⟨le_refl R,fun _ _ h=>.inl h⟩,.refl R D wa,Nat.le_refl _,rfl,rfl⟩
  rcases Array.mem_push.1 he with h' | rfl
  ·exact .inl h'
  ·exact .inr ⟨rfl,r,h⟩
theorem ah.numberAt [bT] {r r':Nat} (h:R r r'):ah P D (fun R' a b=>(a=none∧b=none)∨∃ x x' l,a=some (x,l)∧b=some (x',l)∧AR R' x x') R (Go.numberAt r) (Go.numberAt r'):=by
 intro wl wa es hw x wl' hr
 obtain ⟨o,o',h1,h2,h3⟩:=hw.obj _ _ h
 rcases h3 with ⟨c,c',e,f,f',rfl,rfl,h4,_⟩ | ⟨a,a',l,rfl,rfl,h4,h5⟩ | ⟨_,hch,hch'⟩
 ·have hl:(Go.numberAt r).run P wl=.ok none wl:=by simp [Go.numberAt,Go.shape,Sem.run,World.shape?,h1]
  have ha:(Go.numberAt r').runT P wa es=(.ok none wa,es):=by
   unfold Go.numberAt
   show Sem.runT P (Sem.bind (Go.shape r') _) wa es=_
   simp only [Go.shape,Sem.bind,Sem.runT,World.shape?,h2]
   rfl
  rw [hl] at hr
  cases hr
  exact ⟨none,wa,es,R,ha,fun e he=>.inl he,hw,⟨le_refl R,fun _ _ h=>.inl h⟩,.refl R D wa,Nat.le_refl _,.inl ⟨rfl,rfl⟩⟩
 ·have hl:(Go.numberAt r).run P wl=.ok (some (a,l)) wl:=by simp [Go.numberAt,Go.shape,Go.getObj,Sem.run,World.shape?,h1]
  have ha:(Go.numberAt r').runT P wa es=(.ok (some (a',l)) wa,es.push ⟨.obj r',false,false⟩):=by
   unfold Go.numberAt
   show Sem.runT P (Sem.bind (Go.shape r') _) wa es=_
   simp only [Go.shape,Sem.bind,Sem.runT,World.shape?,h2]
   show Sem.runT P (Sem.bind (Go.getObj r') _) wa es=_
   simp only [Go.getObj,Sem.bind,Sem.runT,h2]
   rfl
  rw [hl] at hr
  cases hr
  refine ⟨_,wa,_,R,ha,fun e he=>?_,hw,⟨le_refl R,fun _ _ h=>.inl h⟩,.refl R D wa,Nat.le_refl _,.inr ⟨a,a',l,rfl,rfl,h4⟩⟩
  rcases Array.mem_push.1 he with h' | rfl
  ·exact .inl h'
  ·exact .inr ⟨rfl,r,h⟩
 ·cases o <;> first | (cases hch;done) | skip
  cases o' <;> first | (cases hch';done) | skip
  have hl:(Go.numberAt r).run P wl=.ok none wl:=by simp [Go.numberAt,Go.shape,Go.getObj,Sem.run,World.shape?,h1]
  have ha:(Go.numberAt r').runT P wa es=(.ok none wa,es.push ⟨.obj r',false,true⟩):=by
   unfold Go.numberAt
   show Sem.runT P (Sem.bind (Go.shape r') _) wa es=_
   simp only [Go.shape,Sem.bind,Sem.runT,World.shape?,h2]
   show Sem.runT P (Sem.bind (Go.getObj r') _) wa es=_
   simp only [Go.getObj,Sem.bind,Sem.runT,h2]
   rfl
  rw [hl] at hr
  cases hr
  refine ⟨none,wa,_,R,ha,fun e he=>?_,hw,⟨le_refl R,fun _ _ h=>.inl h⟩,.refl R D wa,Nat.le_refl _,.inl ⟨rfl,rfl⟩⟩
  rcases Array.mem_push.1 he with h' | rfl
  ·exact .inl h'
  ·exact .inr ⟨rfl,r,h⟩
theorem ah.behindNumber [bT] {a a':Addr} (h:AR R a a'):ah P D (fun R' x y=>AR R' x.1 y.1∧x.2=y.2) R (Go.behindNumber a) (Go.behindNumber a'):=by
 unfold Go.behindNumber
 refine ah.bind (ah.numberAt h.1) fun R1 h1 x y hxy=>?_
 rcases hxy with ⟨rfl,rfl⟩ | ⟨x,y,l,rfl,rfl,hxy⟩
 ·exact ah.pure ⟨h.mono h1,rfl⟩
 ·exact ah.pure ⟨hxy,rfl⟩
theorem ah.asNumber [bT] {a a':Addr} {l:Bool} (h:AR R a a'):ah P D VR R (Go.asNumber a l) (Go.asNumber a' l):=by
 unfold Go.asNumber
 refine ah.bind (ah.newObj (D:=D) (o:=.number a l) (o':=.number a' l) fun R' hR=>.inr (.inl ⟨a,a',l,rfl,rfl,h.mono hR,id⟩)) fun R1 _ n n' hn=>?_
 exact ah.pure (.base (.base (.ptr ⟨hn,rfl,rfl⟩)))
theorem ah.noView [bT] {a a':Addr} (h:AR R a a'):ah P D (fun _ _ _=>True) R (Go.noView a) (Go.noView a'):=by
 unfold Go.noView
 refine ah.bind (ah.viewAt h.1) fun R1 h1 x y hxy=>?_
 obtain ⟨rfl,rfl⟩:=hxy
 exact ah.pure trivial
theorem ah.byteOf [bT] {a a':Addr} (h:AR R a a'):ah P D (fun _ x y=>x=y) R (Go.byteOf a) (Go.byteOf a'):=by
 unfold Go.byteOf
 rw [h.2.2]
 cases a.spot with
 | some s=>exact ah.pure rfl
 | none =>
  refine ah.bind ah.program fun R1 h1 p q hpq=>?_
  obtain ⟨rfl,rfl⟩:=hpq
  refine ah.bind (ah.noView (h.mono h1)) fun R2 h2 _ _ _=>?_
  refine ah.bind (ah.shape ((h.mono (le_trans h1 h2)).1)) fun R3 h3 x y hxy=>?_
  subst hxy
  cases x with
  | none=>exact ah.halt
  | some en =>
   dsimp only
   rw [h.2.1]
   split
   ·exact ah.pure rfl
   ·split
    ·exact ah.pure rfl
    ·exact ah.halt
theorem ah.partAt [bT] {a a':Addr} {c b:Nat} (h:AR R a a'):ah P D (fun R'=>AR R') R (Go.partAt a c b) (Go.partAt a' c b):=by
 unfold Go.partAt
 refine ah.bind (ah.byteOf h) fun R1 h1 x y hxy=>?_
 subst hxy
 dsimp only
 have hp:AR R1 { block:=a.block,off:=a.off+c } { block:=a'.block,off:=a'.off+c }:=⟨h1 _ _ h.1,by show a'.off+c=a.off+c;rw [h.2.1],rfl⟩
 refine ah.bind (ah.byteOf hp) fun R2 h2 u v huv=>?_
 subst huv
 refine ah.pure ?_
 split
 ·exact hp.mono h2
 ·exact ⟨(hp.mono h2).1,(hp.mono h2).2.1,rfl⟩
theorem ah.fieldPlace [bT] {a a':Addr} {f:Field} (h:AR R a a'):ah P D (fun R'=>AR R') R (Go.fieldPlace a f) (Go.fieldPlace a' f):=by
 unfold Go.fieldPlace
 refine ah.then fun R1 h1 n=>?_
 split
 ·exact ah.partAt (h.mono h1)
 ·exact ah.pure ((h.mono h1).add _)
theorem ah.fieldAt [bT] {s:TypeId} {v v':Value} {f:Nat} (h:VR R v v'):ah P D VR R (Instr.fieldAt s v f) (Instr.fieldAt s v' f):=by
 unfold Instr.fieldAt
 refine ah.then fun R1 h1 d=>?_
 cases d <;> first | exact ah.halt | skip
 rename_i fields
 dsimp only
 cases fields[f]? with
 | none=>exact ah.halt
 | some fd =>
  refine ah.bind (ah.sureAddr (h.mono h1)) fun R2 _ a a' ha=>?_
  exact ah.bind (ah.fieldPlace ha) fun R3 _ a a' ha=>ah.pure (.base (.base (.ptr ha)))
theorem VR.asIntOf [bT] {v v':Value} (h:VR R v v'):ah P D (fun _ x y=>x=y) R (Go.asIntOf v) (Go.asIntOf v'):=by
 cases h with
 | agg _=>exact ah.halt
 | base h =>
  cases h with
  | func _ _=>exact ah.halt
  | base h =>
   cases h with
   | flat hf=>exact ah.Wi
   | _=>exact ah.halt
theorem VR.asBool [bT] {v v':Value} (h:VR R v v'):ah P D (fun _ x y=>x=y) R (Go.asBool v) (Go.asBool v'):=by
 cases h with
 | agg _=>exact ah.halt
 | base h =>
  cases h with
  | func _ _=>exact ah.halt
  | base h =>
   cases h with
   | flat hf=>exact ah.Wi
   | _=>exact ah.halt
theorem EW {k:IntKind} {x y:Int} {c:BoundsCode} {w w':World} {a:α}:(boundsPanic k x y c:Sem α).run P w≠.ok a w':=by
 unfold boundsPanic
 dsimp only
 have key:∀ (s:Sem Bool),(s >>= fun s=>(runtimePanic (.bounds (IntKind.i64.wrap x) y s c):Sem α)).run P w≠.ok a w':=by
  intro s
  rw [Sem.run_bind]
  cases s.run P w with
  | ok s w=>intro h;simp [runtimePanic,Sem.run_bind,goPanic,Sem.run] at h
  | halt _ _=>intro h;cases h
 split
 ·exact key _
 ·exact key _
theorem ah.bounds [bT] {Φ:BR→α→β→Prop} {k:IntKind} {x y:Int} {c:BoundsCode} {s':Sem β}:ah P D Φ R (boundsPanic k x y c:Sem α) s':=fun _ _ _ _ _ _ hr=>(EW hr).elim
theorem ah.indexAt [bT] {t:TypeId} {x x' i i':Value} (hx:VR R x x') (hi:VR R i i'):ah P D VR R (Instr.indexAt t x i) (Instr.indexAt t x' i'):=by
 unfold Instr.indexAt
 refine ah.bind (VR.asIntOf hi) fun R1 h1 k k' hk=>?_
 subst hk
 obtain ⟨k,n⟩:=k
 dsimp only
 have rest:∀ (R2:BR) (b b':Option Addr) (len:Nat) (elem:TypeId),((b=none∧b'=none)∨∃ a a',b=some a∧b'=some a'∧AR R2 a a') →
   ah P D VR R2
    (do
     let d ← Go.underlying t
     match b with
     | some a=>if 0≤n∧n < len then do Pure.pure (.pointer (some (a.add (n.toNat * (← sizeOf elem))))) else if (decide (len≤1) && (match d with | .array .. => true | _=>false))=true then unsupported (.noEntry "op/indexAddr.an index out of range at an array of length 0 or 1 (ledger 616)") else boundsPanic k n len .index
     | none=>boundsPanic k n 0 .index:Sem Value)
    (do
     let d ← Go.underlying t
     match b' with
     | some a=>if 0≤n∧n < len then do Pure.pure (.pointer (some (a.add (n.toNat * (← sizeOf elem))))) else if (decide (len≤1) && (match d with | .array .. => true | _=>false))=true then unsupported (.noEntry "op/indexAddr.an index out of range at an array of length 0 or 1 (ledger 616)") else boundsPanic k n len .index
     | none=>boundsPanic k n 0 .index:Sem Value):=by
  intro R2 b b' len elem hb
  refine ah.then fun R3 h3 d=>?_
  rcases hb with ⟨rfl,rfl⟩ | ⟨a,a',rfl,rfl,ha⟩
  ·exact ah.bounds
  ·dsimp only
   split
   ·refine ah.then fun R4 h4 m=>?_
    exact ah.pure (.base (.base (.ptr ((ha.mono (le_trans h3 h4)).add _))))
   ·cases d <;> (dsimp only;split <;> first | exact ah.halt | exact ah.bounds)
 refine ah.then fun R2 h2 d=>?_
 have hx2:=hx.mono (le_trans h1 h2)
 cases d <;> try exact ah.halt
 case array len elem =>
  dsimp only
  refine ah.bind (ah.sureAddr hx2) fun R3 _ a a' ha=>?_
  exact rest R3 (some a) (some a') len elem (.inr ⟨a,a',rfl,rfl,ha⟩)
 case slice elem =>
  cases hx2 with
  | agg _=>exact ah.halt
  | base h =>
   cases h with
   | func _ _=>exact ah.halt
   | base h =>
    cases h with
    | ptr _=>exact ah.halt
    | chan _=>exact ah.halt
    | slice h=>exact rest R2 (some _) (some _) _ elem (.inr ⟨_,_,rfl,rfl,h⟩)
    | flat hf =>
     cases x <;> try exact ah.halt
     rename_i b l c
     cases b with
     | none=>exact rest R2 none none l elem (.inl ⟨rfl,rfl⟩)
     | some _=>cases hf
theorem Ea [bT] {place:Nat→Option (Nat × Nat)}:∀ (l l':List (Nat × Value)) (c c':Array Value),AF (qV R) c c'→l'.length=l.length→(∀ (j i:Nat) (v:Value),l[j]? = some (i,v)→∃ v':Value,l'[j]? = some (i,v')∧VR R v v') →
  (Instr.fill place c l=none∧Instr.fill place c' l'=none)∨∃ r r',Instr.fill place c l=some r∧Instr.fill place c' l'=some r'∧AF (qV R) r r':=by
 intro l
 induction l with
 | nil =>
  intro l' c c' hc hl _
  cases l' with
  | nil=>exact .inr ⟨c,c',rfl,rfl,hc⟩
  | cons _ _=>simp at hl
 | cons x l ih =>
  intro l' c c' hc hl h
  obtain ⟨i,v⟩:=x
  cases l' with
  | nil=>simp at hl
  | cons x' l' =>
   obtain ⟨v',hx,hv⟩:=h 0 i v rfl
   cases hx
   unfold Instr.fill
   cases place i with
   | none=>exact .inl ⟨rfl,rfl⟩
   | some p =>
    obtain ⟨off,size⟩:=p
    have hcc:=hv.cells
    dsimp only
    rw [hcc.1,hc.1]
    split
    ·exact .inl ⟨rfl,rfl⟩
    ·refine ih l' _ _ ?_ (by simpa using hl) fun j i' y hy=>?_
     ·rw [← Array.foldl_toList,← Array.foldl_toList]
      have key:∀ (n m:Nat) (d d':Array Value),AF (qV R) d d'→v.cells.size - m=n →
        AF (qV R) (((v.cells.zipIdx).toList.drop m).foldl (fun cs (x:Value × Nat)=>cs.setIfInBounds (off+x.2) x.1) d) (((v'.cells.zipIdx).toList.drop m).foldl (fun cs (x:Value × Nat)=>cs.setIfInBounds (off+x.2) x.1) d'):=by
       intro n
       induction n with
       | zero =>
        intro m d d' hd hm
        have e1:(v.cells.zipIdx).toList.drop m=[]:=List.drop_eq_nil_of_le (by simp;omega)
        have e2:(v'.cells.zipIdx).toList.drop m=[]:=List.drop_eq_nil_of_le (by simp [hcc.1];omega)
        rw [e1,e2];exact hd
       | succ n ihn =>
        intro m d d' hd hm
        have hlt:m < v.cells.size:=by omega
        have hlt':m < v'.cells.size:=by rw [hcc.1];exact hlt
        rw [List.drop_eq_getElem_cons (i:=m) (by simpa using hlt),List.drop_eq_getElem_cons (i:=m) (l:=(v'.cells.zipIdx).toList) (by simpa using hlt')]
        rw [List.foldl_cons,List.foldl_cons]
        refine ihn (m+1) _ _ ?_ (by omega)
        simp only [Array.getElem_toList,Array.getElem_zipIdx]
        refine hd.set ?_
        obtain ⟨y',h1,h2⟩:=hcc.2 m v.cells[m] (Array.getElem?_eq_getElem hlt)
        rw [Array.getElem?_eq_getElem hlt'] at h1
        cases h1
        exact h2
      have:=key _ 0 c c' hc rfl
      simpa using this
     ·obtain ⟨y',h1,h2⟩:=h (j+1) i' y (by simpa using hy)
      exact ⟨y',by simpa using h1,h2⟩
theorem ah.build [bT] {t:TypeId} (hz:Hl P t=true) {ps:Array (Nat × Operand)} {ρ ρ':Operand→Value} (h:∀ p∈ps,VR R (ρ p.2) (ρ' p.2)) :
  ah P D VR R (Instr.build t (ps.map fun (i,x)=>(i,ρ x))) (Instr.build t (ps.map fun (i,x)=>(i,ρ' x))):=by
 have hl:∀ {R':BR},le R R'→∀ (j i:Nat) (v:Value),(ps.map fun (i,x)=>(i,ρ x)).toList[j]? = some (i,v)→∃ v':Value,(ps.map fun (i,x)=>(i,ρ' x)).toList[j]? = some (i,v')∧VR R' v v':=by
  intro R' hR j i v hj
  simp only [Array.toList_map,List.getElem?_map] at hj ⊢
  obtain ⟨p,hp,he⟩:=Option.map_eq_some_iff.1 hj
  obtain ⟨i0,x⟩:=p
  cases he
  refine ⟨ρ' x,by rw [hp];rfl,(h _ ?_).mono hR⟩
  have:=List.mem_of_getElem? hp
  simpa using this
 unfold Instr.build
 refine ah.bind (ah.zeroValue hz) fun R1 h1 z z' hzz=>?_
 dsimp only
 refine ah.then fun R2 h2 d=>?_
 cases d <;> try exact ah.halt
 case struct fields =>
  dsimp only
  refine ah.bind (Φ:=fun _ a b=>a=b) ?_ fun R3 h3 pl pl' hpl=>?_
  ·have:Sr.iE (fields.mapM fun f=>do Pure.pure (f.offset,← sizeOf f.type):Sem (Array (Nat × Nat))):=by
    rw [Array.mapM_eq_foldlM,← Array.foldlM_toList]
    have key:∀ (l:List Field) (acc:Array (Nat × Nat)),Sr.iE (l.foldlM (fun bs a=>bs.push <$> (do Pure.pure (a.offset,← sizeOf a.type):Sem (Nat × Nat))) acc:Sem (Array (Nat × Nat))):=by
     intro l
     induction l with
     | nil=>intro acc;rw [List.foldlM_nil];infer_instance
     | cons x l ih=>intro acc;rw [List.foldlM_cons];exact dB inferInstance fun b=>ih b
    exact key _ _
   exact ah.Wi
  ·subst hpl
   rcases Ea (R:=R3) (place:=(pl[·]?)) _ _ z.cells z'.cells ((hzz.mono (le_trans h2 h3)).cells) (by simp) (hl (le_trans h1 (le_trans h2 h3))) with ⟨e1,e2⟩ | ⟨r,r',e1,e2,hr⟩
   ·rw [e1];exact ah.halt
   ·rw [e1,e2];exact ah.pure (.Kr hr)
 case array n elem =>
  dsimp only
  refine ah.then fun R3 h3 m=>?_
  rcases Ea (R:=R3) (place:=fun i=>some (i * m,m)) _ _ z.cells z'.cells ((hzz.mono (le_trans h2 h3)).cells) (by simp) (hl (le_trans h1 (le_trans h2 h3))) with ⟨e1,e2⟩ | ⟨r,r',e1,e2,hr⟩
  ·rw [e1];exact ah.halt
  ·rw [e1,e2];exact ah.pure (.Kr hr)
theorem ah.unsafeAdd [bT] {t:TypeId} {a a':Addr} {y y':Value} (h:AR R a a') (hy:VR R y y'):ah P D (fun R' x x'=>∃ b b',x=.pointer (some b)∧x'=.pointer (some b')∧AR R' b b') R (Builtin.unsafeAdd_ #[] t #[.pointer (some a),y]) (Builtin.unsafeAdd_ #[] t #[.pointer (some a'),y']):=by
 show ah P D _ R (Go.asInt y >>= _) (Go.asInt y' >>= _)
 have hai:ah P D (fun _ x y=>x=y) R (Go.asInt y) (Go.asInt y'):=by
  unfold Go.asInt
  exact ah.bind (VR.asIntOf hy) fun R1 _ x y hxy=>by subst hxy;exact ah.pure rfl
 refine ah.bind hai fun R1 h1 n n' hn=>?_
 subst hn
 have hmove:∀ (R2:BR),le R1 R2→ah P D (fun R' x x'=>∃ b b',x=.pointer (some b)∧x'=.pointer (some b')∧AR R' b b') R2
   (do
    let some (e,cells) ← Go.shape a.block | unsupported (.unsafePointer "Add")
    let p ← Go.program
    match cellAtBytes p p.depth e (cells / p.cellsOf e) a.off n with
    | some off=>Pure.pure (.pointer (some { a with off }))
    | none=>unsupported (.unsafePointer "Add"):Sem Value)
   (do
    let some (e,cells) ← Go.shape a'.block | unsupported (.unsafePointer "Add")
    let p ← Go.program
    match cellAtBytes p p.depth e (cells / p.cellsOf e) a'.off n with
    | some off=>Pure.pure (.pointer (some { a' with off }))
    | none=>unsupported (.unsafePointer "Add"):Sem Value):=by
  intro R2 h2
  refine ah.bind (ah.shape ((h.mono (le_trans h1 h2)).1)) fun R3 h3 x y hxy=>?_
  subst hxy
  cases x with
  | none=>exact ah.halt
  | some en =>
   obtain ⟨e,cells⟩:=en
   dsimp only
   refine ah.bind ah.program fun R4 h4 p q hpq=>?_
   obtain ⟨rfl,rfl⟩:=hpq
   rw [h.2.1]
   split
   ·exact ah.pure ⟨_,_,rfl,rfl,(h.mono (le_trans h1 (le_trans h2 (le_trans h3 h4)))).1,rfl,h.2.2⟩
   ·exact ah.halt
 by_cases h0:n=0
 ·simp only [h0,if_true]
  refine ah.bind (ah.viewAt (h1 _ _ h.1)) fun R2 h2 x y hxy=>?_
  obtain ⟨rfl,rfl⟩:=hxy
  exact ah.pure ⟨a,a',rfl,rfl,h.mono (le_trans h1 h2)⟩
 ·simp only [h0,if_false]
  by_cases hn:n < 0
  ·simp only [hn,if_true]
   exact ah.halt
  ·simp only [hn,if_false]
   exact hmove R1 (le_refl _)
def IsInt (P:Program) (t:TypeId):Prop:=∃ k,P.underlying t=some (.int k)
theorem ah.movedNumber [bT] {t:TypeId} (ht:IsInt P t) {a a':Addr} {y y':Value} (h:AR R a a') (hy:VR R y y'):ah P D VR R (Go.movedNumber t (.pointer (some a)) y) (Go.movedNumber t (.pointer (some a')) y'):=by
 obtain ⟨k,hk⟩:=ht
 unfold Go.movedNumber
 refine ah.Nw fun R1 h1 d hd=>?_
 rw [hk] at hd
 cases hd
 refine ah.bind (ah.behindNumber (h.mono h1)) fun R2 h2 x x' hx=>?_
 obtain ⟨b,l⟩:=x
 obtain ⟨b',l'⟩:=x'
 obtain ⟨hb,hl⟩:=hx
 cases hl
 refine ah.bind (ah.unsafeAdd hb (hy.mono (le_trans h1 h2))) fun R3 h3 x x' hx=>?_
 obtain ⟨c,c',rfl,rfl,hc⟩:=hx
 exact ah.asNumber hc
theorem ah.twoPlaces [bT] {Φ:BR→Nat × Nat→Nat × Nat→Prop} {a b:Addr} {a':Addr} (h:AR R a a') {s':Sem (Nat × Nat)}:ah P D Φ R (Op.twoPlaces a b) s':=by
 intro wl wa es hw x wl' hr
 exfalso
 have hg:=(hw.new _ _ h.1).1
 unfold Op.twoPlaces at hr
 rw [Sem.run_bind] at hr
 have:(Go.program).run P wl=.ok P wl:=rfl
 rw [this] at hr
 have hc:(a.block != b.block || decide (a.block ≥ P.globals.size))=true:=by simp [hg]
 simp only [Result.andThen,hc,if_true] at hr
 cases hr
theorem ah.addrMod [bT] {k:IntKind} {n:Int} {a a':Addr} (h:AR R a a'):ah P D VR R (Op.addrMod k a n) (Op.addrMod k a' n):=by
 unfold Op.addrMod
 refine ah.bind (ah.shape h.1) fun R1 h1 x y hxy=>?_
 subst hxy
 cases x with
 | none=>exact ah.halt
 | some en =>
  obtain ⟨e,cells⟩:=en
  dsimp only
  refine ah.then fun R2 h2 i=>?_
  split
  ·exact ah.halt
  ·refine ah.bind (ah.byteOf (h.mono (le_trans h1 h2))) fun R3 _ x y hxy=>?_
   subst hxy
   exact ah.pure VR.int
def isNum:Value→Bool
 | .int .. | .pointer (some _)=>true
 | _=>false
theorem VR.num [bT] {x x':Value} (h:VR R x x') (hn:isNum x=true):(∃ k n,x=.int k n∧x'=.int k n)∨∃ a a',x=.pointer (some a)∧x'=.pointer (some a')∧AR R a a':=by
 cases h with
 | agg _=>cases hn
 | base h =>
  cases h with
  | func _ _=>cases hn
  | base h =>
   cases h with
   | slice _=>cases hn
   | chan _=>cases hn
   | ptr ha=>exact .inr ⟨_,_,rfl,rfl,ha⟩
   | flat hf =>
    cases x <;> first | exact .inl ⟨_,_,rfl,rfl⟩ | (cases hn;done) | skip
    case pointer p =>
     cases p with
     | none=>cases hn
     | some _=>cases hf
def QI:BinOp→Bool
 | .add | .sub | .and | .or | .shl | .shr | .lss | .leq | .eql=>true
 | _=>false
theorem ah.Vr [bT] {t:TypeId} (ht:IsInt P t) {x x' y y':Value} (hx:VR R x x') (hy:VR R y y'):ah P D (fun _ a b=>a=b) R (Op.equal t x y) (Op.equal t x' y'):=by
 obtain ⟨k,hk⟩:=ht
 unfold Op.equal
 show ah P D _ R (Op.equalIn (9999+1) t x y) (Op.equalIn (9999+1) t x' y')
 unfold Op.equalIn
 refine ah.Nw fun R1 h1 d hd=>?_
 rw [hk] at hd
 cases hd
 have ptrptr:∀ {a a' b b':Addr},AR R a a'→AR R b b'→ah P D (fun _ a b=>a=b) R1
   (do
    let (a,b):=((← Go.behindNumber a).1,(← Go.behindNumber b).1)
    if a.block == b.block && a.block < (← Go.program).globals.size then return (← Go.byteOf a) == (← Go.byteOf b)
    let .named "sync.copyChecker" _:=(← typeInfo t).desc | unsupported .addressObserved
    if a == b then Pure.pure true else unsupported .addressObserved:Sem Bool)
   (do
    let (a,b):=((← Go.behindNumber a').1,(← Go.behindNumber b').1)
    if a.block == b.block && a.block < (← Go.program).globals.size then return (← Go.byteOf a) == (← Go.byteOf b)
    let .named "sync.copyChecker" _:=(← typeInfo t).desc | unsupported .addressObserved
    if a == b then Pure.pure true else unsupported .addressObserved:Sem Bool):=by
  intro a a' b b' ha hb
  refine ah.bind (ah.behindNumber (ha.mono h1)) fun R2 h2 x x' hx=>?_
  refine ah.bind (ah.behindNumber (hb.mono (le_trans h1 h2))) fun R3 h3 y y' hy=>?_
  dsimp only
  refine ah.bind ah.program fun R4 h4 p q hpq=>?_
  rw [hpq.1,hpq.2]
  have hxa:=(hx.1).mono (le_trans h3 h4)
  have hya:=(hy.1).mono h4
  intro wl wa es hw r wl' hr
  have g1:=hw.new _ _ hxa.1
  have e1:(x.1.block == y.1.block && decide (x.1.block < P.globals.size))=false:=by simp;omega
  have e2:(x'.1.block == y'.1.block && decide (x'.1.block < P.globals.size))=false:=by simp;omega
  simp only [e1,Bool.false_eq_true,if_false] at hr
  simp only [e2,Bool.false_eq_true,if_false]
  refine ah.bind (P:=P) (D:=D) (Φ:=fun _ a b=>a=b) (s:=typeInfo t) (s':=typeInfo t) ah.Wi (fun R5 h5 i i' hi=>?_) wl wa es hw r wl' hr
  subst hi
  split
  ·intro wl wa es hw r wl' hr
   by_cases he:x.1=y.1
   ·have he':x'.1=y'.1:=by
     have hb1:=hw.fn _ _ _ (h5 _ _ hxa.1) (he ▸ h5 _ _ hya.1)
     have o1:=hxa.2;have o2:=hya.2
     rw [he] at o1
     cases hx1:x'.1;cases hy1:y'.1
     rw [hx1,hy1] at hb1
     rw [hx1] at o1;rw [hy1] at o2
     simp_all
    rw [if_pos (by simpa using he)] at hr
    rw [if_pos (by simpa using he')]
    exact ah.pure (P:=P) (D:=D) (Φ:=fun _ a b=>a=b) rfl wl wa es hw r wl' hr
   ·rw [if_neg (by simpa using he)] at hr
    cases hr
  ·exact ah.halt
 by_cases hxn:isNum x=true
 ·by_cases hyn:isNum y=true
  ·have hx':=VR.num hx hxn
   have hy':=VR.num hy hyn
   rcases hx' with ⟨k1,n,rfl,rfl⟩ | ⟨a,a',rfl,rfl,ha⟩
   ·rcases hy' with ⟨k2,m,rfl,rfl⟩ | ⟨b,b',rfl,rfl,hb⟩
    ·show ah P D _ R1 (if k1=k2 then Pure.pure (n == m) else stuck _) (if k1=k2 then Pure.pure (n == m) else stuck _)
     split
     ·exact ah.pure rfl
     ·exact ah.halt
    ·by_cases hn:n=0
     ·subst hn;exact ah.pure rfl
     ·split <;> first | exact ah.halt | contradiction | (simp_all;done)
   ·rcases hy' with ⟨k2,m,rfl,rfl⟩ | ⟨b,b',rfl,rfl,hb⟩
    ·by_cases hn:m=0
     ·subst hn;exact ah.pure rfl
     ·split <;> first | exact ah.halt | contradiction | (simp_all;done)
    ·exact ptrptr ha hb
  ·clear hy hx ptrptr
   cases x <;> first | (cases hxn;done) | skip
   case int k1 n =>
    cases y <;> first | exact (hyn rfl).elim | (split <;> first | exact ah.halt | contradiction) | skip
    case pointer p =>
     cases p with
     | some b=>exact (hyn rfl).elim
     | none=>split <;> first | exact ah.halt | contradiction | (simp_all;done)
   case pointer p =>
    cases p with
    | none=>cases hxn
    | some a=>cases y <;> first | exact ah.halt | exact (hyn rfl).elim | (rename_i b;cases b <;> first | exact ah.halt | exact (hyn rfl).elim)
 ·clear hy hx ptrptr
  cases x <;> first | exact (hxn rfl).elim | (cases y <;> first | exact ah.halt | (rename_i b;cases b <;> exact ah.halt)) | skip
  case pointer p =>
   cases p with
   | some a=>exact (hxn rfl).elim
   | none=>cases y <;> first | exact ah.halt | (rename_i b;cases b <;> exact ah.halt)
end
section
variable {P:Program} {D:Nat→Prop} {α β:Type} {R:BR}
theorem ah.KZ [bT] {Φ:BR→α→β→Prop} {s:Sem α} {s':Sem β} (h:∀ w a w',s.run P w≠.ok a w'):ah P D Φ R s s':=fun _ _ _ _ _ _ hr=>(h _ _ _ hr).elim
theorem uH.mono {Q Q':α→Prop} (h:∀ a,Q a→Q' a) {s:Sem α} (x:uH P Q s):uH P Q' s:=by
 have:=uH.bind (f:=fun a=>(Pure.pure a:Sem α)) (Q':=Q') (fun a ha=>h a ha) x
 have e:∀ s:Sem α,s >>= (fun a=>(Pure.pure a:Sem α))=s:=by
  intro s
  show Sem.bind s (fun a=>Sem.pure a)=s
  induction s with
  | pure a=>rfl
  | halt _=>rfl
  | load m a k ih=>simp only [Sem.bind,ih]
  | store m a v k ih=>simp only [Sem.bind,ih]
  | new o k ih=>simp only [Sem.bind,ih]
  | shape r k ih=>simp only [Sem.bind,ih]
  | freeze a n k ih=>simp only [Sem.bind,ih]
  | frozen a k ih=>simp only [Sem.bind,ih]
  | getObj r k ih=>simp only [Sem.bind,ih]
  | setObj r o k ih=>simp only [Sem.bind,ih]
  | choose q k ih=>simp only [Sem.bind,ih]
  | sys c k ih=>simp only [Sem.bind,ih]
  | program k ih=>simp only [Sem.bind,ih]
  | mark m k ih=>simp only [Sem.bind,ih]
 rw [e] at this
 exact this
theorem wH {s:Sem Value} (h:nM s):iE s:=⟨fun P=>uH.mono (fun _ _=>trivial) (h.t P)⟩
instance {o:BinOp} {k:FloatKind} {x y:Nat}:iE (Op.Complex.arith o k x y):=by
 unfold Op.Complex.arith
 refine dB (wH inferInstance) fun v=>?_
 split <;> infer_instance
instance {o:BinOp} {k:FloatKind} {x y:Nat}:iE (Op.Complex.cmp o k x y):=by
 unfold Op.Complex.cmp
 exact dB (wH inferInstance) fun v=>inferInstance
instance {m:String}:nM (runtimePanic (.error m):Sem Value):=⟨fun _=>trivial⟩
instance {o:BinOp} {k k':IntKind} {x y:Int}:nM (Op.shift o k x k' y):=by
 unfold Op.shift
 split
 ·infer_instance
 ·dsimp only
  split <;> infer_instance
theorem MG {t:TypeId} {y:Value} {w w':World} {a:Value}:(Builtin.unsafeAdd_ #[] t #[.pointer none,y]).run P w≠.ok a w':=by
 intro hr
 change ((Go.asInt y) >>= _).run P w=_ at hr
 rw [Sem.run_bind] at hr
 cases ha:(Go.asInt y).run P w with
 | halt h w1=>rw [ha] at hr;cases hr
 | ok n w1 =>
  rw [ha] at hr
  simp only [Result.andThen_ok] at hr
  by_cases h0:n=0
  ·simp only [h0,if_true] at hr
   cases hr
  ·simp only [h0,if_false] at hr
   by_cases h1:n < 0
   ·simp only [h1,if_true] at hr
    cases hr
   ·simp only [h1,if_false] at hr
    cases hr
theorem vT [bT] {t:TypeId} (ht:IsInt P t) {y:Value} {w w':World} {a:Value}:(Go.movedNumber t (.pointer none) y).run P w≠.ok a w':=by
 obtain ⟨k,hk⟩:=ht
 intro hr
 unfold Go.movedNumber Go.underlying at hr
 simp only [Sem.run_bind,run_program,Result.andThen_ok,hk,Sem.run_pure,Bool.false_eq_true,if_false] at hr
 exact MG hr
theorem sZ [bT] {t:TypeId} (ht:IsInt P t) {y:Value} {Φ:BR→Value→β→Prop} {s':Sem β}:ah P D Φ R (Go.movedNumber t (.pointer none) y) s':=ah.KZ fun _ _ _=>vT ht
theorem yQ [bT] {t:TypeId} (ht:IsInt P t) {y:Value} {Φ:BR→Value→β→Prop} {s':Sem β}:ah P D Φ R (do if (← Go.underlying t) matches .unsafePointer then Go.movedPointer t (.pointer none) y else Go.movedNumber t (.pointer none) y) s':=by
 have ht':=ht
 obtain ⟨k,hk⟩:=ht
 refine ah.KZ fun w a w' hr=>?_
 unfold Go.underlying at hr
 simp only [Sem.run_bind,run_program,Result.andThen_ok,hk,Sem.run_pure,Bool.false_eq_true,if_false] at hr
 exact vT ht' hr
theorem VR.nY [bT] {v v':Value} (h:VR R v v') (hf:flat v=true):v'=v:=by
 cases h with
 | agg _=>cases hf
 | base h =>
  cases h with
  | func _ _=>cases hf
  | base h =>
   cases h with
   | flat _=>rfl
   | ptr _=>cases hf
   | slice _=>cases hf
   | chan _=>cases hf
def other:Value→Value→Bool
 | .int ..,.int .. | .float ..,.float .. | .complex ..,.complex .. | .string _,.string _=>false
 | _,_=>true
theorem binOp_eql {t:TypeId} {x y:Value} (h:other x y=true):Go.binOp .eql t x y=(do Pure.pure (.bool (← Op.equal t x y)):Sem Value):=by
 cases x <;> cases y <;> first | rfl | cases h
theorem VR.other [bT] {x x' y y':Value} (hx:VR R x x') (hy:VR R y y'):Sr.other x' y'=Sr.other x y:=by
 have key:∀ {v v':Value},VR R v v'→v'=v∨((∀ z,Sr.other v z=true)∧(∀ z,Sr.other v' z=true)∧(∀ z,Sr.other z v=true)∧(∀ z,Sr.other z v'=true)):=by
  intro v v' h
  cases h with
  | agg _=>exact .inr ⟨fun z=>by cases z <;> rfl,fun z=>by cases z <;> rfl,fun z=>by cases z <;> rfl,fun z=>by cases z <;> rfl⟩
  | base h =>
   cases h with
   | func _ _=>exact .inr ⟨fun z=>by cases z <;> rfl,fun z=>by cases z <;> rfl,fun z=>by cases z <;> rfl,fun z=>by cases z <;> rfl⟩
   | base h =>
    cases h with
    | flat _=>exact .inl rfl
    | ptr _=>exact .inr ⟨fun z=>by cases z <;> rfl,fun z=>by cases z <;> rfl,fun z=>by cases z <;> rfl,fun z=>by cases z <;> rfl⟩
    | slice _=>exact .inr ⟨fun z=>by cases z <;> rfl,fun z=>by cases z <;> rfl,fun z=>by cases z <;> rfl,fun z=>by cases z <;> rfl⟩
    | chan _=>exact .inr ⟨fun z=>by cases z <;> rfl,fun z=>by cases z <;> rfl,fun z=>by cases z <;> rfl,fun z=>by cases z <;> rfl⟩
 rcases key hx with rfl | ⟨h1,h2,h3,h4⟩
 ·rcases key hy with rfl | ⟨k1,k2,k3,k4⟩
  ·rfl
  ·rw [k3,k4]
 ·rw [h1,h2]
theorem X3 [bT] {t:TypeId} {o:BinOp} (ho:QI o=true) {x y:Value} (h:Sr.other x y=false):nM (Go.binOp o t x y):=by
 cases x <;> cases y <;> first | (cases h;done) | skip
 all_goals (unfold Go.binOp;cases o <;> first | (cases ho;done) | skip)
 all_goals dsimp only
 all_goals first
  | infer_instance
  | exact dV inferInstance inferInstance
  | (refine dV inferInstance ?_;unfold Op.complexOp;dsimp only;infer_instance)
theorem ah.DJ [bT] {t:TypeId} (ht:IsInt P t) {o:BinOp} (ho:QI o=true) (hoe:o≠.eql) {x y:Value} {s':Sem Value}
  (hn:¬ (isNum x=true∧isNum y=true)) (hot:Sr.other x y=true):ah P D VR R (Go.binOp o t x y) s':=by
 unfold Go.binOp
 cases o <;> first | (cases ho;done) | exact (hoe rfl).elim | skip
 all_goals
  cases x
  case pointer p =>
   cases p <;> cases y <;> first | exact ah.halt | exact (hn ⟨rfl,rfl⟩).elim | exact sZ ht | exact yQ ht | (rename_i q;cases q <;> first | exact ah.halt | exact (hn ⟨rfl,rfl⟩).elim | exact sZ ht | exact yQ ht)
  all_goals (cases y <;> first | exact ah.halt | (cases hot;done) | exact sZ ht | exact yQ ht | (rename_i q;cases q <;> first | exact ah.halt | exact (hn ⟨rfl,rfl⟩).elim | exact sZ ht | exact yQ ht))
theorem ah.binOp [bT] {t:TypeId} (ht:IsInt P t) {o:BinOp} (ho:QI o=true) {x x' y y':Value} (hx:VR R x x') (hy:VR R y y'):ah P D VR R (Go.binOp o t x y) (Go.binOp o t x' y'):=by
 have heq:∀ {a a' b b':Value},VR R a a'→VR R b b'→ah P D VR R (do Pure.pure (.bool (← Op.equal t a b)):Sem Value) (do Pure.pure (.bool (← Op.equal t a' b')):Sem Value):=by
  intro a a' b b' ha hb
  refine ah.bind (ah.Vr ht ha hb) fun R1 _ u v huv=>?_
  subst huv
  exact ah.pure VR.bool
 by_cases hot:Sr.other x y=true
 rotate_left
 ·have hot:Sr.other x y=false:=by simpa using hot
  have hxy:x'=x∧y'=y:=by
   cases x <;> cases y <;> first | (cases hot;done) | exact ⟨hx.nY rfl,hy.nY rfl⟩
  rw [hxy.1,hxy.2]
  exact ah.Oe (h:=X3 ho hot)
 by_cases hoe:o=.eql
 ·subst hoe
  rw [binOp_eql hot,binOp_eql (by rw [hx.other hy];exact hot)]
  exact heq hx hy
 by_cases hxn:isNum x=true
 ·by_cases hyn:isNum y=true
  ·rcases VR.num hx hxn with ⟨k1,n,rfl,rfl⟩ | ⟨a,a',rfl,rfl,ha⟩
   ·rcases VR.num hy hyn with ⟨k2,m,rfl,rfl⟩ | ⟨b,b',rfl,rfl,hb⟩
    ·unfold Go.binOp
     cases o <;> first | (cases ho;done) | skip
     all_goals dsimp only
     all_goals first | exact ah.Oe | ((try dsimp only);split <;> first | exact ah.halt | exact ah.Oe | (unfold Op.complexOp;dsimp only;exact ah.Oe))
    ·unfold Go.binOp
     cases o <;> first | (cases ho;done) | exact ah.halt | exact heq hx hy | skip
     case add=>exact ah.movedNumber ht hb VR.int
     case and=>exact ah.bind (ah.behindNumber hb) fun R1 _ u v huv=>ah.addrMod huv.1
   ·rcases VR.num hy hyn with ⟨k2,m,rfl,rfl⟩ | ⟨b,b',rfl,rfl,hb⟩
    ·unfold Go.binOp
     cases o <;> first | (cases ho;done) | exact ah.halt | exact heq hx hy | skip
     case add =>
      refine ah.Nw fun R1 h1 d hd=>?_
      obtain ⟨k,hk⟩:=ht
      rw [hk] at hd
      cases hd
      exact ah.movedNumber ⟨k,hk⟩ (ha.mono h1) VR.int
     case sub=>exact ah.movedNumber ht ha VR.int
     case and=>exact ah.bind (ah.behindNumber ha) fun R1 _ u v huv=>ah.addrMod huv.1
    ·unfold Go.binOp
     cases o <;> first | (cases ho;done) | exact ah.halt | exact heq hx hy | skip
     case sub =>
      refine ah.bind (ah.behindNumber ha) fun R1 h1 u v huv=>?_
      refine ah.bind (ah.behindNumber (hb.mono h1)) fun R2 h2 u2 v2 huv2=>?_
      exact ah.bind (Φ:=fun _ _ _=>False) (ah.twoPlaces (huv.1.mono h2)) fun _ _ _ _ h=>h.elim
     case lss =>
      refine ah.bind (ah.behindNumber ha) fun R1 h1 u v huv=>?_
      refine ah.bind (ah.behindNumber (hb.mono h1)) fun R2 h2 u2 v2 huv2=>?_
      exact ah.bind (Φ:=fun _ _ _=>False) (ah.twoPlaces (huv.1.mono h2)) fun _ _ _ _ h=>h.elim
     case leq =>
      refine ah.bind (ah.behindNumber ha) fun R1 h1 u v huv=>?_
      refine ah.bind (ah.behindNumber (hb.mono h1)) fun R2 h2 u2 v2 huv2=>?_
      exact ah.bind (Φ:=fun _ _ _=>False) (ah.twoPlaces (huv.1.mono h2)) fun _ _ _ _ h=>h.elim
  ·exact ah.DJ ht ho hoe (fun h=>hyn h.2) hot
 ·exact ah.DJ ht ho hoe (fun h=>hxn h.1) hot
theorem ah.abg [bT] {Φ:BR→α→β→Prop} {c:Prop} [Decidable c] {a b:Sem α} {a' b':Sem β} (h1:ah P D Φ R a a') (h2:ah P D Φ R b b'):ah P D Φ R (if c then a else b) (if c then a' else b'):=by split <;> assumption
theorem Bc [bT] {t:TypeId} (ht:IsInt P t) {x x' y y':Value}:ah P D (fun _ a b=>a=false∧b=false) R (Op.eqGuardIn Op.maxDepth t x y) (Op.eqGuardIn Op.maxDepth t x' y'):=by
 obtain ⟨k,hk⟩:=ht
 show ah P D _ R (Op.eqGuardIn (9999+1) t x y) (Op.eqGuardIn (9999+1) t x' y')
 unfold Op.eqGuardIn
 refine ah.Nw fun R1 h1 d hd=>?_
 rw [hk] at hd
 cases hd
 exact ah.pure ⟨rfl,rfl⟩
def guarded:Value→Value→Bool
 | .nilIface,.nilIface | .agg _,.agg _=>true
 | _,_=>false
theorem Fj {t:TypeId} {o:BinOp} {x y:Operand} {a b:Value} (h:guarded a b=false):Go.eqGuard o t x y a b=Pure.pure ():=by
 unfold Go.eqGuard
 cases o <;> first | rfl | (cases a <;> cases b <;> first | rfl | cases h)
theorem ah.eqGuard [bT] {t:TypeId} (ht:IsInt P t) {o:BinOp} {x y:Operand} {a a' b b':Value} (ha:VR R a a') (hb:VR R b b'):ah P D (fun _ _ _=>True) R (Go.eqGuard o t x y a b) (Go.eqGuard o t x y a' b'):=by
 have agg:∀ c d c' d',ah P D (fun _ _ _=>True) R (Go.eqGuard o t x y (.agg c) (.agg d)) (Go.eqGuard o t x y (.agg c') (.agg d')):=by
  intro c d c' d'
  unfold Go.eqGuard
  cases o <;> first | exact ah.pure trivial | skip
  all_goals
   simp only [Bool.not_true,Bool.false_eq_true,if_false]
   refine ah.bind ah.program fun R1 _ p q hpq=>?_
   refine ah.bind ah.program fun R1 _ p2 q2 hpq2=>?_
   rw [hpq.1,hpq.2,hpq2.1,hpq2.2]
   split
   ·exact ah.pure trivial
   ·refine ah.bind (Bc ht) fun R2 _ u v huv=>?_
    obtain ⟨rfl,rfl⟩:=huv
    exact ah.pure trivial
 by_cases hg:guarded a b=true
 ·cases a <;> cases b <;> first | (cases hg;done) | skip
  case agg c d =>
   cases ha with
   | agg _ =>
    cases hb with
    | agg _=>exact agg _ _ _ _
    | base h=>cases h with | base h=>cases h with | flat h=>cases h
   | base h=>cases h with | base h=>cases h with | flat h=>cases h
  case nilIface =>
   rw [ha.nY rfl,hb.nY rfl]
   unfold Go.eqGuard
   cases o <;> first | exact ah.pure trivial | skip
   all_goals
    simp only [Bool.not_true,Bool.false_eq_true,if_false]
    refine ah.abg (ah.pure trivial) ?_
    refine ah.bind (Bc ht) fun R2 _ u v huv=>?_
    obtain ⟨rfl,rfl⟩:=huv
    exact ah.pure trivial
 ·have hg:guarded a b=false:=by simpa using hg
  have hg':guarded a' b'=false:=by
   have key:∀ {v v':Value},VR R v v'→(v'=v)∨((∃ c c',v=.agg c∧v'=.agg c')∨((∀ z,guarded v z=false)∧(∀ z,guarded v' z=false)∧(∀ z,guarded z v=false)∧(∀ z,guarded z v'=false))):=by
    intro v v' h
    cases h with
    | agg _=>exact .inr (.inl ⟨_,_,rfl,rfl⟩)
    | base h =>
     cases h with
     | func _ _=>exact .inr (.inr ⟨fun z=>by cases z <;> rfl,fun z=>by cases z <;> rfl,fun z=>by cases z <;> rfl,fun z=>by cases z <;> rfl⟩)
     | base h =>
      cases h with
      | flat _=>exact .inl rfl
      | ptr _=>exact .inr (.inr ⟨fun z=>by cases z <;> rfl,fun z=>by cases z <;> rfl,fun z=>by cases z <;> rfl,fun z=>by cases z <;> rfl⟩)
      | slice _=>exact .inr (.inr ⟨fun z=>by cases z <;> rfl,fun z=>by cases z <;> rfl,fun z=>by cases z <;> rfl,fun z=>by cases z <;> rfl⟩)
      | chan _=>exact .inr (.inr ⟨fun z=>by cases z <;> rfl,fun z=>by cases z <;> rfl,fun z=>by cases z <;> rfl,fun z=>by cases z <;> rfl⟩)
   rcases key ha with rfl | ⟨c,c',rfl,rfl⟩ | ⟨h1,h2,h3,h4⟩
   ·rcases key hb with rfl | ⟨c,c',rfl,rfl⟩ | ⟨k1,k2,k3,k4⟩
    ·exact hg
    ·cases a' <;> first | rfl | cases hg
    ·exact k4 _
   ·rcases key hb with rfl | ⟨d,d',rfl,rfl⟩ | ⟨k1,k2,k3,k4⟩
    ·cases b' <;> first | rfl | cases hg
    ·cases hg
    ·exact k4 _
   ·exact h2 _
  rw [Fj hg,Fj hg']
  exact ah.pure trivial
theorem ah.unary [bT] {o:UnOp} {x x':Value} (h:VR R x x'):ah P D VR R (Op.unary o x) (Op.unary o x'):=by
 by_cases hf:flat x=true
 ·rw [h.nY hf]
  refine ah.Oe (h:=?_)
  unfold Op.unary
  cases o <;> cases x <;> first | infer_instance | (rename_i p;cases p <;> infer_instance)
 ·unfold Op.unary
  cases o <;> cases x <;> first | exact ah.halt | exact (hf rfl).elim | (rename_i p;cases p <;> first | exact ah.halt | exact (hf rfl).elim)
theorem ah.len [bT] {ats:Array TypeId} {t:TypeId} {args args':Array Value} (ht:∀ ty,ats[0]? = some ty→∃ e,P.underlying ty=some (.slice e)) (h:AF (VR R) args args'):ah P D VR R (Builtin.len_ ats t args) (Builtin.len_ ats t args'):=by
 unfold Builtin.len_
 cases hty:ats[0]? with
 | none=>exact ah.halt
 | some ty =>
  rcases h.get? 0 with ⟨e1,e2⟩ | ⟨x,x',e1,e2,hx⟩
  ·rw [e1];exact ah.halt
  ·rw [e1,e2]
   refine ah.Nw fun R1 h1 d hd=>?_
   obtain ⟨e,he⟩:=ht ty hty
   rw [he] at hd
   cases hd
   cases hx with
   | agg _=>exact ah.halt
   | base h =>
    cases h with
    | func _ _=>exact ah.halt
    | base h =>
     cases h with
     | ptr _=>exact ah.halt
     | chan _=>exact ah.halt
     | slice _=>exact ah.pure VR.int
     | flat hf=>cases x <;> first | exact ah.halt | exact ah.pure VR.int
theorem ah.min2 [bT] {x x' y y':Value} (hx:VR R x x') (hy:VR R y y'):ah P D VR R (Builtin.min2 x y) (Builtin.min2 x' y'):=by
 by_cases hot:Sr.other x y=false
 ·have hxy:x'=x∧y'=y:=by
   cases x <;> cases y <;> first | (cases hot;done) | exact ⟨hx.nY rfl,hy.nY rfl⟩
  rw [hxy.1,hxy.2]
  refine ah.Oe (h:=?_)
  cases x <;> cases y <;> first | (cases hot;done) | skip
  all_goals unfold Builtin.min2;dsimp only
  all_goals first | infer_instance | skip
  ·split <;> infer_instance
  ·exact dD (wH inferInstance) fun v=>dD inferInstance fun b=>inferInstance
 ·unfold Builtin.min2
  cases x
  case pointer p=>cases p <;> cases y <;> first | exact ah.halt | (rename_i q;cases q <;> exact ah.halt)
  all_goals (cases y <;> first | exact ah.halt | exact (hot rfl).elim | (rename_i q;cases q <;> first | exact ah.halt | exact (hot rfl).elim))
theorem ah.max2 [bT] {x x' y y':Value} (hx:VR R x x') (hy:VR R y y'):ah P D VR R (Builtin.max2 x y) (Builtin.max2 x' y'):=by
 by_cases hot:Sr.other x y=false
 ·have hxy:x'=x∧y'=y:=by
   cases x <;> cases y <;> first | (cases hot;done) | exact ⟨hx.nY rfl,hy.nY rfl⟩
  rw [hxy.1,hxy.2]
  refine ah.Oe (h:=?_)
  cases x <;> cases y <;> first | (cases hot;done) | skip
  all_goals unfold Builtin.max2;dsimp only
  all_goals first | infer_instance | skip
  ·split <;> infer_instance
  ·exact dD (wH inferInstance) fun v=>dD inferInstance fun b=>inferInstance
 ·unfold Builtin.max2
  cases x
  case pointer p=>cases p <;> cases y <;> first | exact ah.halt | (rename_i q;cases q <;> exact ah.halt)
  all_goals (cases y <;> first | exact ah.halt | exact (hot rfl).elim | (rename_i q;cases q <;> first | exact ah.halt | exact (hot rfl).elim))
theorem ah.fold [bT] {f:Value→Value→Sem Value} (hf:∀ {R:BR} {x x' y y':Value},VR R x x'→VR R y y'→ah P D VR R (f x y) (f x' y')):∀ (l l':List Value) {R:BR} (x x':Value),VR R x x'→l'.length=l.length→(∀ (j:Nat) (v:Value),l[j]? = some v→∃ v':Value,l'[j]? = some v'∧VR R v v')→ah P D VR R (l.foldlM f x) (l'.foldlM f x')
 | [],l',R,x,x',hx,hl,_=>by
  cases l' with
  | nil=>rw [List.foldlM_nil,List.foldlM_nil];exact ah.pure hx
  | cons _ _=>simp at hl
 | v :: l,l',R,x,x',hx,hl,h=>by
  cases l' with
  | nil=>simp at hl
  | cons v' l' =>
   rw [List.foldlM_cons,List.foldlM_cons]
   obtain ⟨y,h1,h2⟩:=h 0 v rfl
   cases h1
   refine ah.bind (hf hx h2) fun R1 hR z z' hz=>?_
   refine ah.fold hf l l' z z' hz (by simpa using hl) fun j u hu=>?_
   obtain ⟨u',h3,h4⟩:=h (j+1) u (by simpa using hu)
   exact ⟨u',by simpa using h3,h4.mono hR⟩
theorem AF.list [bT] {c c':Array Value} (h:AF (VR R) c c'):(c.toList=[]∧c'.toList=[])∨∃ x x' l l',c.toList=x :: l∧c'.toList=x' :: l'∧VR R x x'∧l'.length=l.length∧(∀ (j:Nat) (v:Value),l[j]? = some v→∃ v':Value,l'[j]? = some v'∧VR R v v'):=by
 obtain ⟨c⟩:=c
 obtain ⟨c'⟩:=c'
 have hs:c'.length=c.length:=by simpa using h.1
 cases c with
 | nil=>cases c' with
  | nil=>exact .inl ⟨rfl,rfl⟩
  | cons _ _=>simp at hs
 | cons x l=>cases c' with
  | nil=>simp at hs
  | cons x' l' =>
   refine .inr ⟨x,x',l,l',rfl,rfl,?_,by simpa using hs,fun j v hv=>?_⟩
   ·obtain ⟨y,h1,h2⟩:=h.2 0 x (by simp)
    simp at h1
    subst h1
    exact h2
   ·obtain ⟨y,h1,h2⟩:=h.2 (j+1) v (by simpa using hv)
    exact ⟨y,by simpa using h1,h2⟩
theorem ah.min [bT] {ats:Array TypeId} {t:TypeId} {args args':Array Value} (h:AF (VR R) args args'):ah P D VR R (Builtin.min_ ats t args) (Builtin.min_ ats t args'):=by
 unfold Builtin.min_
 rcases h.list with ⟨e1,e2⟩ | ⟨x,x',l,l',e1,e2,h1,h2,h3⟩
 ·rw [e1];exact ah.halt
 ·rw [e1,e2];exact ah.fold ah.min2 l l' x x' h1 h2 h3
theorem ah.max [bT] {ats:Array TypeId} {t:TypeId} {args args':Array Value} (h:AF (VR R) args args'):ah P D VR R (Builtin.max_ ats t args) (Builtin.max_ ats t args'):=by
 unfold Builtin.max_
 rcases h.list with ⟨e1,e2⟩ | ⟨x,x',l,l',e1,e2,h1,h2,h3⟩
 ·rw [e1];exact ah.halt
 ·rw [e1,e2];exact ah.fold ah.max2 l l' x x' h1 h2 h3
end
end Go.Sr
