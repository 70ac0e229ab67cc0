/- A part of the proof: T0, T1, E2, T2, T3, T4, T5, T6, T7. -/
import Derived.Conc.Beside
import Derived.FollowTie
import Derived.Fence
import Derived.Conc.Events
import Derived.CallsIn
import Derived.Conc.LoneCalls
import Derived.Conc.CrowdComm
import Derived.Lone
import Derived.Conc.Own3
import Derived.Conc.Own5
import Derived.Conc.Own4
set_option linter.unusedVariables false
set_option linter.unusedSimpArgs false
set_option maxHeartbeats 8000000
namespace Go.Tm
open Go
def oL:Builtin->Bool
 |.append | .cap | .copy | .delete | .len | .max | .min | .panic | .recover | .clear=>true
 |_=>false
def isRecover:Builtin->Bool
 |.recover=>true
 |_=>false
def iZ (d:Deferred):Prop :=
 match d.target with
 |.builtin b .. => oL b=true/\isRecover b=false
 |.coroexit _=>False
 |_=>True
def lQ (C:Code->Prop):Obj->Prop
 |.loop l=>C l.assign/\C l.body/\(∀ c,l.pending=some c->C c)
 |.chan cap buf closed _ _ _=>cap=0/\buf=#[]/\closed=false
 |.pending .. => False
 |.deferred (some ds)=>∀ d∈ds,iZ d
 |_=>True
def uY:Halt->Prop
 |.blocked | .waiting=>False
 |.unsupported (.initOrder _)=>False
 |_=>True
def dL (C:Code->Prop) (P:Program) {α:Type} (φ:α->Prop):Sem α->Prop
 |.pure a=>φ a
 |.load _ _ k=>∀ v,dL C P φ (k v)
 |.store _ _ _ k=>dL C P φ k
 |.new o k=>lQ C o/\∀ n,dL C P φ (k n)
 |.shape _ k=>∀ s,dL C P φ (k s)
 |.freeze _ _ k=>dL C P φ k
 |.frozen _ k=>∀ b,dL C P φ (k b)
 |.getObj _ k=>∀ o,lQ C o->dL C P φ (k o)
 |.setObj _ o k=>lQ C o/\dL C P φ k
 |.choose _ k=>∀ n,dL C P φ (k n)
 |.sys c k=>c=.env/\∀ r,dL C P φ (k r)
 |.program k=>dL C P φ (k P)
 |.mark m k=>m≠.disable/\m≠.enable/\dL C P φ k
 |.halt h=>uY h
section
variable {C:Code->Prop} {P:Program} {α β:Type} {φ:α->Prop} {ψ:β->Prop}
theorem dL.mono {φ':α->Prop} (h:∀ a,φ a->φ' a) {s:Sem α} (x:dL C P φ s):dL C P φ' s:=by
 induction s with
 |pure a=>exact h _ x
 |load m a k ih=>exact fun v=>ih v (x v)
 |store m a v k ih=>exact ih x
 |new o k ih=>exact⟨x.1,fun n=>ih n (x.2 n)⟩
 |shape r k ih=>exact fun v=>ih v (x v)
 |freeze a n k ih=>exact ih x
 |frozen a k ih=>exact fun v=>ih v (x v)
 |getObj r k ih=>exact fun v hv=>ih v (x v hv)
 |setObj r o k ih=>exact⟨x.1,ih x.2⟩
 |choose q k ih=>exact fun v=>ih v (x v)
 |sys c k ih=>exact⟨x.1,fun v=>ih v (x.2 v)⟩
 |program k ih=>exact ih _ x
 |mark m k ih=>exact⟨x.1,x.2.1,ih x.2.2⟩
 |halt h=>exact x
theorem dL.bind {f:α->Sem β} (hf:∀ a,φ a->dL C P ψ (f a)) {s:Sem α} (x:dL C P φ s):dL C P ψ (s >>= f):=by
 show dL C P ψ (s.bind f)
 induction s with
 |pure a=>exact hf _ x
 |load m a k ih=>exact fun v=>ih v (x v)
 |store m a v k ih=>exact ih x
 |new o k ih=>exact⟨x.1,fun n=>ih n (x.2 n)⟩
 |shape r k ih=>exact fun v=>ih v (x v)
 |freeze a n k ih=>exact ih x
 |frozen a k ih=>exact fun v=>ih v (x v)
 |getObj r k ih=>exact fun v hv=>ih v (x v hv)
 |setObj r o k ih=>exact⟨x.1,ih x.2⟩
 |choose q k ih=>exact fun v=>ih v (x v)
 |sys c k ih=>exact⟨x.1,fun v=>ih v (x.2 v)⟩
 |program k ih=>exact ih _ x
 |mark m k ih=>exact⟨x.1,x.2.1,ih x.2.2⟩
 |halt h=>exact x
end
def strange:Obj->Bool
 |.loop _ | .deferred _ | .pending .. | .chan .. => true
 |_=>false
abbrev clean:Obj:=.finalizers #[] none
def Nr:Halt->Prop
 |.stuck _=>True
 |.unsupported (.initOrder _)=>False
 |.unsupported _=>True
 |_=>False
def IC:Halt->Prop
 |.unsupported (.initOrder _)=>False
 |_=>True
def JE {α:Type}:Sem α->Prop
 |.halt h=>Nr h
 |_=>False
def Shy (q:Bool) (C:Code->Prop) (P:Program) {α:Type} (φ:α->Prop):Sem α->Prop
 |.pure a=>φ a
 |.load _ _ k=>∀ v,Shy q C P φ (k v)
 |.store _ _ _ k=>Shy q C P φ k
 |.new o k=>lQ C o/\∀ n,Shy q C P φ (k n)
 |.shape _ k=>∀ s,Shy q C P φ (k s)
 |.freeze _ _ k=>Shy q C P φ k
 |.frozen _ k=>∀ b,Shy q C P φ (k b)
 |.getObj _ k=>(∀ o,lQ C o->Shy q C P φ (k o))/\∀ o,strange o=true->JE (k clean)\/k clean=k o
 |.setObj _ o k=>(lQ C o/\o≠clean)/\Shy q C P φ k
 |.choose _ k=>∀ n,Shy q C P φ (k n)
 |.sys c k=>(q=true->c=.env)/\∀ r,Shy q C P φ (k r)
 |.program k=>Shy q C P φ (k P)
 |.mark m k=>(q=true->m≠.disable/\m≠.enable)/\Shy q C P φ k
 |.halt h=>(q=true->uY h)/\IC h
section
variable {q:Bool} {C:Code->Prop} {P:Program} {α β:Type} {φ:α->Prop} {ψ:β->Prop}
theorem Na {f:α->Sem β} {s:Sem α} (h:JE s):JE (s.bind f):=by
 cases s<;>first|exact(show False from h).elim|exact h
theorem Shy.mono {φ':α->Prop} (h:∀ a,φ a->φ' a) {s:Sem α} (x:Shy q C P φ s):Shy q C P φ' s:=by
 induction s with
 |pure a=>exact h _ x
 |load m a k ih=>exact fun v=>ih v (x v)
 |store m a v k ih=>exact ih x
 |new o k ih=>exact⟨x.1,fun n=>ih n (x.2 n)⟩
 |shape r k ih=>exact fun v=>ih v (x v)
 |freeze a n k ih=>exact ih x
 |frozen a k ih=>exact fun v=>ih v (x v)
 |getObj r k ih=>exact⟨fun o ho=>ih o (x.1 o ho),x.2⟩
 |setObj r o k ih=>exact⟨x.1,ih x.2⟩
 |choose q k ih=>exact fun v=>ih v (x v)
 |sys c k ih=>exact⟨x.1,fun v=>ih v (x.2 v)⟩
 |program k ih=>exact ih _ x
 |mark m k ih=>exact⟨x.1,ih x.2⟩
 |halt h=>exact x
theorem Shy.bind {f:α->Sem β} (hf:∀ a,φ a->Shy q C P ψ (f a)) {s:Sem α} (x:Shy q C P φ s):Shy q C P ψ (s >>= f):=by
 show Shy q C P ψ (s.bind f)
 induction s with
 |pure a=>exact hf a x
 |load m a k ih=>exact fun v=>ih v (x v)
 |store m a v k ih=>exact ih x
 |new o k ih=>exact⟨x.1,fun n=>ih n (x.2 n)⟩
 |shape r k ih=>exact fun v=>ih v (x v)
 |freeze a n k ih=>exact ih x
 |frozen a k ih=>exact fun v=>ih v (x v)
 |getObj r k ih =>
  refine⟨fun o ho=>ih o (x.1 o ho),fun o ho=>?_⟩;rcases x.2 o ho with h|h
  ·exact .inl (Na h)
  ·exact .inr (show(k clean).bind f=(k o).bind f by rw[h])
 |setObj r o k ih=>exact⟨x.1,ih x.2⟩
 |choose q k ih=>exact fun v=>ih v (x v)
 |sys c k ih=>exact⟨x.1,fun v=>ih v (x.2 v)⟩
 |program k ih=>exact ih _ x
 |mark m k ih=>exact⟨x.1,ih x.2⟩
 |halt h=>exact x
theorem KN {s:Sem α} (x:Shy true C P φ s):dL C P φ s:=by
 induction s with
 |pure a=>exact x
 |load m a k ih=>exact fun v=>ih v (x v)
 |store m a v k ih=>exact ih x
 |new o k ih=>exact⟨x.1,fun n=>ih n (x.2 n)⟩
 |shape r k ih=>exact fun v=>ih v (x v)
 |freeze a n k ih=>exact ih x
 |frozen a k ih=>exact fun v=>ih v (x v)
 |getObj r k ih=>exact fun o ho=>ih o (x.1 o ho)
 |setObj r o k ih=>exact⟨x.1.1,ih x.2⟩
 |choose q k ih=>exact fun v=>ih v (x v)
 |sys c k ih=>exact⟨x.1 rfl,fun v=>ih v (x.2 v)⟩
 |program k ih=>exact ih _ x
 |mark m k ih=>exact⟨(x.1 rfl).1,(x.1 rfl).2,ih x.2⟩
 |halt h=>exact x.1 rfl
end
class ak {α:Type} (s:Sem α):Prop where
 t:∀ (C:Code->Prop) (P:Program),Shy true C P (fun _=>True) s
section
variable {r:Nat} {o:Obj}
variable {α β:Type}
theorem aW {s:Sem α} {f:α->Sem β} (h:ak s) (hf:∀ a,ak (f a)):ak (s >>= f):=⟨fun C P=>Shy.bind (fun a _=>(hf a).t C P) (h.t C P)⟩
instance YJ {s:Sem α} {f:α->Sem β} [h:ak s] [hf:∀ a,ak (f a)]:ak (s >>= f):=aW h hf
instance aa8 {s:Sem α} {f:α->β} [h:ak s]:ak (f <$> s):=(aW h (fun a=>(⟨fun _ _=>trivial⟩:ak (pure (f a):Sem β))):ak (s >>= fun a=>pure (f a)))
theorem J8 {c:Prop} [Decidable c] {a b:Sem α} (ha:ak a) (hb:ak b):ak (if c then a else b):=by split<;>assumption
instance FD {a:α}:ak (pure a:Sem α):=⟨fun _ _=>trivial⟩
instance aak {a:α}:ak (Sem.pure a:Sem α):=⟨fun _ _=>trivial⟩
instance aF {s:String}:ak (stuck s:Sem α):=⟨fun _ _=>⟨fun _=>trivial,trivial⟩⟩
instance Yy {v:Value}:ak (goPanic v:Sem α):=⟨fun _ _=>⟨fun _=>trivial,trivial⟩⟩
instance aan {s:String}:ak (throw s:Sem α):=⟨fun _ _=>⟨fun _=>trivial,trivial⟩⟩
instance aam {s:String}:ak (fatal s:Sem α):=⟨fun _ _=>⟨fun _=>trivial,trivial⟩⟩
instance {s:String}:ak (unsupported (.extern s):Sem α):=⟨fun _ _=>⟨fun _=>trivial,trivial⟩⟩
instance {s:String}:ak (unsupported (.noEntry s):Sem α):=⟨fun _ _=>⟨fun _=>trivial,trivial⟩⟩
instance {s:String}:ak (unsupported (Unsupported.elab s):Sem α):=⟨fun _ _=>⟨fun _=>trivial,trivial⟩⟩
instance {s:String}:ak (unsupported (.unsafePointer s):Sem α):=⟨fun _ _=>⟨fun _=>trivial,trivial⟩⟩
instance {s:String}:ak (unsupported (.resourceLimit s):Sem α):=⟨fun _ _=>⟨fun _=>trivial,trivial⟩⟩
instance:ak (unsupported .evalOrder:Sem α):=⟨fun _ _=>⟨fun _=>trivial,trivial⟩⟩
instance:ak (unsupported .addressObserved:Sem α):=⟨fun _ _=>⟨fun _=>trivial,trivial⟩⟩
instance Yu:ak program:=⟨fun _ _=>trivial⟩
instance aaK {a:Addr} {m:Mode}:ak (load a m):=⟨fun _ _ _=>trivial⟩
instance aap {a:Addr} {v:Value} {m:Mode}:ak (store a v m):=⟨fun _ _=>trivial⟩
instance aai {r:Nat}:ak (shape r):=⟨fun _ _ _=>trivial⟩
instance Y2 {a:Addr} {n:Nat}:ak (freeze a n):=⟨fun _ _=>trivial⟩
instance Zi {a:Addr}:ak (frozen a):=⟨fun _ _ _=>trivial⟩
theorem XI {β:Type} {f:Obj->Sem β} (h1:∀ o,ak (f o)) (h2:∀ o,strange o=true->JE (f clean)\/f clean=f o):ak (getObj r >>= f):=⟨fun C P=>⟨fun o _=>(h1 o).t C P,fun o ho=>h2 o ho⟩⟩
instance Zy {q:Question}:ak (choose q):=⟨fun _ _ _=>trivial⟩
instance aa5:ak (sys .env):=⟨fun _ _=>⟨fun _=>rfl,fun _=>trivial⟩⟩
instance ZF:ak (mark .noRoom):=⟨fun _ _=>⟨fun _=>⟨by simp,by simp⟩,trivial⟩⟩
instance ZO {f:FuncId}:ak (mark (.extern f)):=⟨fun _ _=>⟨fun _=>⟨by simp,by simp⟩,trivial⟩⟩
theorem iP (h:∀ C,lQ C o):ak (newObj o):=⟨fun C _=>⟨h C,fun _=>trivial⟩⟩
theorem uf (h:∀ C,lQ C o) (hc:o≠clean):ak (setObj r o):=⟨fun C _=>⟨⟨h C,hc⟩,trivial⟩⟩
instance {c:Array Value} {e:TypeId} {f:Nat × Nat}:ak (newObj (.cells c e f)):=iP fun _=>trivial
instance {a:Addr} {l:Bool}:ak (newObj (.number a l)):=iP fun _=>trivial
instance {a:Addr} {l:TypeId}:ak (newObj (.view a l)):=iP fun _=>trivial
instance {es:Array MapEntry} {c:Nat}:ak (newObj (.map es c)):=iP fun _=>trivial
instance {x:ByteArray} {c:Nat}:ak (newObj (.stringIter x c)):=iP fun _=>trivial
instance {m:Option Nat} {s:Nat} {a:Array Nat} {l:Nat}:ak (newObj (.mapIter m s a l)):=iP fun _=>trivial
instance:ak (newObj (.deferred (some []))):=iP fun _=>by simp[lQ]
instance {r:Nat} {es:Array MapEntry} {c:Nat}:ak (setObj r (.map es c)):=uf (fun _=>trivial) (by simp)
instance {r:Nat} {x:ByteArray} {c:Nat}:ak (setObj r (.stringIter x c)):=uf (fun _=>trivial) (by simp)
instance {r:Nat} {m:Option Nat} {s:Nat} {a:Array Nat} {l:Nat}:ak (setObj r (.mapIter m s a l)):=uf (fun _=>trivial) (by simp)
instance {r:Nat}:ak (setObj r (.deferred none)):=uf (fun _=>trivial) (by simp)
instance abb {c:Prop} [Decidable c] {a b:Sem α} [ak a] [ak b]:ak (if c then a else b):=by split<;>infer_instance
theorem sS {γ:Type} (f:β->γ->Sem β) (h:∀ b c,ak (f b c)):∀ (l:List γ) (b:β),ak (l.foldlM f b)
 | [],b=>by simp only[List.foldlM_nil];infer_instance
 |c::l,b=>by simp only[List.foldlM_cons];exact aW (h b c) fun b'=>sS f h l b'
theorem pI {γ:Type} (f:γ->β->Sem (ForInStep β)) (h:∀ c b,ak (f c b)):∀ (l:List γ) (b:β),ak (forIn l b f)
 | [],b=>by simp only[List.forIn_nil];infer_instance
 |c::l,b=>by
  rw[List.forIn_cons];refine aW (h c b) fun r=>?_
  cases r
  ·infer_instance
  ·exact pI f h l _
end
section
variable {α β γ:Type}
theorem FY (f:γ->β->Sem (ForInStep β)) (h:∀ c b,ak (f c b)) (l:Array γ) (b:β):ak (forIn l b f):=by
 rw[<- Array.forIn_toList];exact pI f h _ _
theorem Cc (f:Nat->β->Sem (ForInStep β)) (h:∀ c b,ak (f c b)) (l:Std.Legacy.Range) (b:β):ak (forIn l b f):=by
 rw[Std.Legacy.Range.forIn_eq_forIn_range'];exact pI f h _ _
theorem Em (f:β->Sem γ) (h:∀ c,ak (f c)) (l:Array β):ak (l.mapM f):=by
 rw[Array.mapM_eq_foldlM,<- Array.foldlM_toList];exact sS _ (fun b c=>by have:=h c;infer_instance) _ _
end
theorem ks {α:Type} {s:Sem α} (h:ak s:=by repeat' (first|infer_instance|(refine XI ?_ (fun o ho=>by cases o<;>first|exact .inl trivial|exact .inr rfl|(exfalso;simp[strange]at ho;done)))|(apply FY;intro _ _)|(apply Cc;intro _ _)|(apply Em;intro _)|apply J8|apply aW|intro _|dsimp only|split)):ak s:=h
section
instance {t:TypeId}:ak (typeInfo t):=by
 unfold typeInfo;exact ks
instance {t:TypeId}:ak (underlying t):=by
 unfold underlying;exact ks
instance {s:String}:ak (cutType s):=by
 unfold cutType;exact ks
instance {s:String}:ak (globalAddr s):=by
 unfold globalAddr;exact ks
instance {t:TypeId}:ak (typeStr t):=by
 unfold typeStr;exact ks
instance {t:TypeId}:ak (zeroValue t):=by
 unfold zeroValue;exact ks
instance {t:TypeId}:ak (sizeOf t):=by
 unfold sizeOf;exact ks
instance {t:TypeId}:ak (isAgg t):=by
 unfold isAgg;exact ks
instance {r:Nat}:ak (viewAt r):=by
 unfold viewAt;exact ks
instance {r:Nat}:ak (numberAt r):=by
 unfold numberAt;exact ks
instance {a:Addr} {l:Bool}:ak (asNumber a l):=by
 unfold asNumber;exact ks
instance {a:Addr}:ak (behindNumber a):=by
 unfold behindNumber;exact ks
instance {a:Addr}:ak (backFromNumber a):=by
 unfold backFromNumber;exact ks
instance {a:Addr}:ak (noView a):=by
 unfold noView;exact ks
instance {a:Addr}:ak (markStringish a):=by
 unfold markStringish;exact ks
instance {a:Addr}:ak (stringish a):=by
 unfold stringish;exact ks
instance {a b:Addr}:ak (mayBeOne a b):=by
 unfold mayBeOne;exact ks
instance {a b:Addr}:ak (sameAddr a b):=by
 unfold sameAddr;exact ks
instance {a b:Option Addr}:ak (samePointer a b):=by
 unfold samePointer;exact ks
theorem qG (a:Addr):∀ (n i:Nat) (acc:Array Value),ak (loadCellsFrom a i n acc)
 |0,i,acc=>by unfold loadCellsFrom;infer_instance
 |n+1,i,acc=>by unfold loadCellsFrom;exact aW inferInstance fun v=>qG a n _ _
instance {a:Addr} {n:Nat}:ak (loadCells a n):=by unfold loadCells;exact qG a n 0 #[]
theorem vG (a:Addr):∀ (vs:List Value) (i:Nat),ak (storeCells a vs i)
 | [],i=>by unfold storeCells;infer_instance
 |v::vs,i=>by unfold storeCells;exact aW inferInstance fun _=>vG a vs _
instance {a:Addr} {vs:List Value} {i:Nat}:ak (storeCells a vs i):=vG a vs i
instance {t:TypeId} {a:Addr}:ak (loadVar t a):=by
 unfold loadVar;exact ks
instance {t:TypeId} {a:Addr} {v:Value}:ak (storeVar t a v):=by
 unfold storeVar;exact ks
instance {t:TypeId} {c:Array Value}:ak (newRow t c):=by
 unfold newRow;exact ks
instance {t:TypeId} {v:Value}:ak (newVar t v):=by
 unfold newVar;exact ks
instance {t:TypeId}:ak (elemOf t):=by
 unfold elemOf;exact ks
instance {t:TypeId} {cs:Array Value} {off:Nat}:ak (part t cs off):=by
 unfold part;exact ks
instance {α:Type} {s:String}:ak ((panicString s:Sem α)):=by
 unfold panicString;exact ks
instance {α:Type} {e:RuntimeError}:ak ((runtimePanic e:Sem α)):=by
 unfold runtimePanic;exact ks
instance {α:Type} {k:IntKind} {x y:Int} {c:BoundsCode}:ak ((boundsPanic k x y c:Sem α)):=by
 unfold boundsPanic;exact ks
instance {v:Value}:ak (asIntOf v):=by
 unfold asIntOf;exact ks
instance {v:Value}:ak (asInt v):=by
 unfold asInt;exact ks
instance {v:Value}:ak (asBool v):=by
 unfold asBool;exact ks
instance {v:Value}:ak (asString v):=by
 unfold asString;exact ks
instance {v:Value}:ak (asAgg v):=by
 unfold asAgg;exact ks
instance {v:Value}:ak (asAddr v):=by
 unfold asAddr;exact ks
instance {n:Nat}:ak (askRoom n):=by
 unfold askRoom;exact ks
instance {a:Addr}:ak (byteOf a):=by
 unfold byteOf;exact ks
instance {a:Addr} {c b:Nat}:ak (partAt a c b):=by
 unfold partAt;exact ks
instance {a:Addr} {f:Field}:ak (fieldPlace a f):=by
 unfold fieldPlace;exact ks
instance {a:Addr} {u:TypeId} {n:Nat}:ak (variablesAt a u n):=by
 unfold variablesAt;exact ks
instance {e:TypeId} {h:Bool} {o:Value}:ak (Instr.alloc e h o):=by
 unfold Instr.alloc;exact ks
instance {v:Value}:ak (Instr.sureAddr v):=by
 unfold Instr.sureAddr;exact ks
instance {t:TypeId} {a:Value}:ak (Instr.loadAt t a):=by
 unfold Instr.loadAt;exact ks
instance {t:TypeId} {a v:Value}:ak (Instr.storeAt t a v):=by
 unfold Instr.storeAt;exact ks
instance {t:TypeId} {a:Value} {f:Nat}:ak (Instr.fieldAt t a f):=by
 unfold Instr.fieldAt;exact ks
instance {t:TypeId} {a i:Value}:ak (Instr.indexAt t a i):=by
 unfold Instr.indexAt;exact ks
instance {x:Value} {y:Nat} {c:BoundsCode}:ak (Instr.sliceBound x y c):=by
 unfold Instr.sliceBound;exact ks
instance {b:Bool} {l c:Nat} {x y z:Option Value}:ak (Instr.sliceBounds b l c x y z):=by
 unfold Instr.sliceBounds;exact ks
instance {t:TypeId} {v:Value} {x y z:Option Value}:ak (Instr.slice t v x y z):=by
 unfold Instr.slice;exact ks
instance {t:TypeId} {v:Value} {x y z:Option Value}:ak (Instr.sliceAt t v x y z):=by
 unfold Instr.sliceAt;exact ks
instance {t:TypeId} {v:Value}:ak (Instr.arrayAt t v):=by
 unfold Instr.arrayAt;exact ks
instance {t:TypeId} {v:Value}:ak (Instr.box t v):=by
 unfold Instr.box;exact ks
instance {t:TypeId} {p:Array (Nat × Value)}:ak (Instr.build t p):=by
 unfold Instr.build;exact ks
instance {t:TypeId} {n:Nat} {p:Array (Nat × Value)}:ak (Instr.buildSlice t n p):=by
 unfold Instr.buildSlice;exact ks
instance {t:TypeId} {v:Value}:ak (Instr.makeInterface t v):=by
 unfold Instr.makeInterface;exact ks
instance {f:Fn} {a b:Array Value}:ak (Instr.makeFunc f a b):=by
 unfold Instr.makeFunc;exact ks
instance {t:TypeId} {r:Option Value}:ak (Instr.makeMap t r):=by
 unfold Instr.makeMap;exact ks
instance {t:TypeId} {l c:Value}:ak (Instr.makeSlice t l c):=by
 unfold Instr.makeSlice;exact ks
instance {t:TypeId} {v:Value} {f:Nat}:ak (Instr.field t v f):=by
 unfold Instr.field;exact ks
instance {t:TypeId} {v i:Value}:ak (Instr.index t v i):=by
 unfold Instr.index;exact ks
theorem BK:∀ (d:Nat) (t:TypeId) (x y:Value),ak (Op.equalIn d t x y)
 |0,t,x,y=>by unfold Op.equalIn;infer_instance
 |d+1,t,x,y=>by
  have ih:=BK d;unfold Op.equalIn;exact ks
instance {t:TypeId} {x y:Value}:ak (Op.equal t x y):=BK _ t x y
theorem xq:∀ (d:Nat) (t:TypeId) (x y:Value),ak (Op.eqGuardIn d t x y)
 |0,t,x,y=>by unfold Op.eqGuardIn;infer_instance
 |d+1,t,x,y=>by
  have ih:=xq d;unfold Op.eqGuardIn;exact ks
instance {d:Nat} {t:TypeId} {x y:Value}:ak (Op.eqGuardIn d t x y):=xq d t x y
theorem zl (e:Bool):∀ (d:Nat) (t:TypeId) (x:Value),ak (Instr.checkKey e d t x)
 |0,t,x=>by unfold Instr.checkKey;infer_instance
 |d+1,t,x=>by
  have ih:=zl e d;unfold Instr.checkKey;exact ks
instance {e:Bool} {d:Nat} {t:TypeId} {x:Value}:ak (Instr.checkKey e d t x):=zl e d t x
theorem uN (t:TypeId) (k:Value):∀ (es:List MapEntry) (i:Nat),ak (Instr.findAsking t k es i)
 | [],i=>by unfold Instr.findAsking;infer_instance
 |e::es,i=>by
  have ih:=uN t k es (i+1);unfold Instr.findAsking;infer_instance
instance {t:TypeId} {k:Value} {es:List MapEntry} {i:Nat}:ak (Instr.findAsking t k es i):=uN t k es i
instance {t:TypeId} {k:Value} {es:List MapEntry}:ak (Instr.findKey t k es):=by
 unfold Instr.findKey;exact ks
instance {t:TypeId} {x i:Value} {c:Bool}:ak (Instr.lookup t x i c):=by
 unfold Instr.lookup;exact ks
instance {x y:Value}:ak (Instr.keyThatStays x y):=by
 unfold Instr.keyThatStays;exact ks
instance {t:TypeId} {m k v:Value}:ak (Instr.mapUpdate t m k v):=by
 unfold Instr.mapUpdate;exact ks
instance {t:TypeId} {x:Value}:ak (Instr.range t x):=⟨fun C P=>by
 unfold Instr.range;refine Shy.bind (φ:=fun _=>True) (fun d _=>?_) (ak.t C P);dsimp only;split
 ·exact⟨trivial,fun _=>trivial⟩
 ·exact⟨trivial,fun _=>trivial⟩
 ·exact⟨fun o _=>by cases o<;>first|exact⟨trivial,fun _=>trivial⟩|exact⟨fun _=>trivial,trivial⟩,fun o _=>.inl trivial⟩
 ·exact⟨fun _=>trivial,trivial⟩⟩
instance {x:Value} {b:Bool} {t:TypeId}:ak (Instr.next x b t):=by
 unfold Instr.next;exact ks
instance {x:Value} {t u:TypeId} {b:Bool}:ak (Instr.typeAssert x t u b):=by
 unfold Instr.typeAssert;exact ks
instance {x:Value} {i:Nat}:ak (Instr.extract x i):=by
 unfold Instr.extract;exact ks
instance  : ak (Instr.panicnil):=by
 unfold Instr.panicnil;exact ks
instance {x:Value}:ak (Instr.panic x):=by
 unfold Instr.panic;exact ks
instance {o:BinOp} {k:IntKind} {x y:Int}:ak (Op.intArith o k x y):=by
 unfold Op.intArith;exact ks
instance {o:BinOp} {k:IntKind} {x y:Int}:ak (Op.intDiv o k x y):=by
 unfold Op.intDiv;exact ks
instance {o:BinOp} {k:IntKind} {x y:Int}:ak (Op.intBits o k x y):=by
 unfold Op.intBits;exact ks
instance {o:BinOp} {k:IntKind} {x:Int} {k':IntKind} {y:Int}:ak (Op.shift o k x k' y):=by
 unfold Op.shift;exact ks
instance {o:BinOp} {x y:Int}:ak (Op.intCmp o x y):=by
 unfold Op.intCmp;exact ks
instance {o:BinOp} {x y:ByteArray}:ak (Op.stringOp o x y):=by
 unfold Op.stringOp;exact ks
instance {o:UnOp} {x:Value}:ak (Op.unary o x):=by
 unfold Op.unary;exact ks
instance {a b:Addr}:ak (Op.twoPlaces a b):=by
 unfold Op.twoPlaces;exact ks
instance {k:IntKind} {a b:Addr}:ak (Op.addrSub k a b):=by
 unfold Op.addrSub;exact ks
instance {o:BinOp} {a b:Addr}:ak (Op.addrCmp o a b):=by
 unfold Op.addrCmp;exact ks
instance {k:IntKind} {a:Addr} {n:Int}:ak (Op.addrMod k a n):=by
 unfold Op.addrMod;exact ks
instance {o:BinOp} {k:FloatKind} {x y:Nat}:ak (Op.floatArith o k x y):=by
 unfold Op.floatArith;exact ks
instance {o:BinOp} {k:FloatKind} {x y:Nat}:ak (Op.floatCmp o k x y):=by
 unfold Op.floatCmp;exact ks
instance {k:FloatKind} {b:Nat} {k':FloatKind}:ak (Conv.floatToFloat k b k'):=by
 unfold Conv.floatToFloat;exact ks
instance {o:BinOp} {k:FloatKind} {x y:Nat}:ak (Op.Complex.arith o k x y):=by
 unfold Op.Complex.arith;exact ks
instance {o:BinOp} {k:FloatKind} {x y:Nat}:ak (Op.Complex.cmp o k x y):=by
 unfold Op.Complex.cmp;exact ks
instance {k:FloatKind} {x:Nat} {k':FloatKind}:ak (Op.Complex.conv k x k'):=by
 unfold Op.Complex.conv;exact ks
instance {x y:Nat}:ak (Op.Complex.add x y):=by
 unfold Op.Complex.add;exact ks
instance {x y:Nat}:ak (Op.Complex.sub x y):=by
 unfold Op.Complex.sub;exact ks
instance {x y:Nat}:ak (Op.Complex.mul x y):=by
 unfold Op.Complex.mul;exact ks
instance {x y:Nat}:ak (Op.Complex.quo x y):=by
 unfold Op.Complex.quo;exact ks
instance {a b c e:Nat}:ak (Op.Complex.product a b c e):=by
 unfold Op.Complex.product;exact ks
instance {s a b c e:Nat}:ak (Op.Complex.corrected s a b c e):=by
 unfold Op.Complex.corrected;exact ks
instance {a b c e:Nat}:ak (Op.Complex.quotient a b c e):=by
 unfold Op.Complex.quotient;exact ks
instance {o:BinOp} {k:FloatKind} {a b c e:Nat}:ak (Op.complexOp o k a b c e):=by
 unfold Op.complexOp;exact ks
instance {k:IntKind} {n:Int}:ak (Conv.intToInt k n):=by
 unfold Conv.intToInt;exact ks
instance {k:FloatKind} {n:Int}:ak (Conv.intToFloat k n):=by
 unfold Conv.intToFloat;exact ks
instance {k:FloatKind} {b:Nat} {k':IntKind}:ak (Conv.floatToInt k b k'):=by
 unfold Conv.floatToInt;exact ks
instance {k:FloatKind} {x y:Nat} {k':FloatKind}:ak (Conv.complexToComplex k x y k'):=by
 unfold Conv.complexToComplex;exact ks
instance {n:Int}:ak (Conv.intToString n):=by
 unfold Conv.intToString;exact ks
instance {e:TypeId} {s:ByteArray}:ak (Conv.stringToBytes e s):=by
 unfold Conv.stringToBytes;exact ks
instance {e:TypeId} {s:ByteArray}:ak (Conv.stringToRunes e s):=by
 unfold Conv.stringToRunes;exact ks
instance {x:Value}:ak (Conv.bytesToString x):=by
 unfold Conv.bytesToString;exact ks
instance {x:Value}:ak (Conv.runesToString x):=by
 unfold Conv.runesToString;exact ks
instance {a:Addr}:ak (Conv.seenAt a):=by
 unfold Conv.seenAt;exact ks
instance {a:Addr} {n:Nat}:ak (Builtin.holdsCells a n):=by
 unfold Builtin.holdsCells;exact ks
instance {s l n:Nat} {b:Option Addr} {x:Value}:ak (Builtin.mayShare s l n b x):=by
 unfold Builtin.mayShare;exact ks
instance {v:Value}:ak (Builtin.lenOf v):=by
 unfold Builtin.lenOf;exact ks
instance {s n:Nat} {v:Value}:ak (Builtin.firstCells s n v):=by
 unfold Builtin.firstCells;exact ks
instance {a:Array TypeId} {t:TypeId} {x:Array Value}:ak (Builtin.append_ a t x):=by
 unfold Builtin.append_;exact ks
instance {a:Array TypeId} {t:TypeId} {x:Array Value}:ak (Builtin.cap_ a t x):=by
 unfold Builtin.cap_;exact ks
instance {a:Array TypeId} {t:TypeId} {x:Array Value}:ak (Builtin.copy_ a t x):=by
 unfold Builtin.copy_;exact ks
instance {a:Array TypeId} {t:TypeId} {x:Array Value}:ak (Builtin.delete_ a t x):=by
 unfold Builtin.delete_;exact ks
instance {a:Array TypeId} {t:TypeId} {x:Array Value}:ak (Builtin.len_ a t x):=by
 unfold Builtin.len_;exact ks
instance {a:Array TypeId} {t:TypeId} {x:Array Value}:ak (Builtin.clear_ a t x):=by
 unfold Builtin.clear_;exact ks
instance {x y:Value}:ak (Builtin.max2 x y):=by
 unfold Builtin.max2;exact ks
instance {x y:Value}:ak (Builtin.min2 x y):=by
 unfold Builtin.min2;exact ks
instance {a:Array TypeId} {t:TypeId} {x:Array Value}:ak (Builtin.max_ a t x):=by
 unfold Builtin.max_;split
 ·infer_instance
 ·exact sS _ (fun _ _=>inferInstance) _ _
instance {a:Array TypeId} {t:TypeId} {x:Array Value}:ak (Builtin.min_ a t x):=by
 unfold Builtin.min_;split
 ·infer_instance
 ·exact sS _ (fun _ _=>inferInstance) _ _
theorem FU (t:TypeId) (x y:Value):ak (Builtin.unsafeAdd_ #[] t #[x,y]):=by
 unfold Builtin.unsafeAdd_;cases x
 case pointer ptr =>
  refine aW (s:=asInt y) inferInstance fun n=>?_
  exact ks
 all_goals exact(aF:ak (stuck _:Sem Value))
instance {t:TypeId} {x y:Value}:ak (Builtin.unsafeAdd_ #[] t #[x,y]):=FU t x y
instance {t:TypeId} {x y:Value}:ak (movedNumber t x y):=by
 unfold movedNumber;exact ks
instance {t:TypeId} {x y:Value}:ak (movedPointer t x y):=by
 unfold movedPointer;exact ks
instance {o:BinOp} {t:TypeId} {x y:Operand} {a b:Value}:ak (eqGuard o t x y a b):=by
 unfold eqGuard;exact ks
instance {o:BinOp} {t:TypeId} {x y:Value}:ak (binOp o t x y):=by
 unfold binOp;exact ks
end
section
instance {t:TypeId} {p:Place}:ak (p.get t):=by cases p<;>(unfold Place.get;infer_instance)
theorem Ew:∀ (l:List FieldStep) (t:TypeId) (x:Place),ak (follow l t x)
 | [],t,x=>by unfold follow;infer_instance
 |s::l,t,x=>by
  have ih:=Ew l;unfold follow;exact ks
instance {l:List FieldStep} {t:TypeId} {x:Place}:ak (follow l t x):=Ew l t x
theorem NJ (a:Array TypeId) (t:TypeId) (x y z:Value):ak (Builtin.ssaWrapNilChk_ a t #[x,y,z]):=by
 unfold Builtin.ssaWrapNilChk_
 cases y <;> first | exact (aF:ak (stuck "ssa:wrapnilchk: a pointer and two strings expected" : Sem Value)) | skip
 cases z <;> first | exact (aF:ak (stuck "ssa:wrapnilchk: a pointer and two strings expected" : Sem Value)) | skip
 cases x <;> first | exact (aF:ak (stuck "ssa:wrapnilchk: pointer expected" : Sem Value)) | skip
 rename_i p;cases p with
 |some p=>exact(FD:ak (pure _:Sem Value))
 |none =>
  refine aW (s:=choose (Question.extern "ssa:wrapnilchk.dereferenced" 2)) inferInstance fun r=>?_
  exact ks
instance {a:Array TypeId} {t:TypeId} {x y z:Value}:ak (Builtin.ssaWrapNilChk_ a t #[x,y,z]):=NJ a t x y z
instance {t:TypeId} {x:Place} {b:Bool} {w:Option String}:ak (receiverAt t x b w):=by
 unfold receiverAt;exact ks
instance {t:TypeId} {v:Value} {p:Array FieldStep} {b:Bool}:ak (receiverVia t v p b):=by
 unfold receiverVia;exact ks
theorem Es:∀ (n:Nat) (t:TypeId) (v:Value) (s:String),ak (method n t v s)
 |0,t,v,s=>by unfold method;infer_instance
 |n+1,t,v,s=>by
  have ih:=Es n;unfold method;exact ks
instance {n:Nat} {t:TypeId} {v:Value} {s:String}:ak (method n t v s):=Es n t v s
theorem uG:∀ (l:List FieldStep) (t:TypeId) (x:Option Value),ak (followBlind l t x)
 | [],t,x=>by unfold followBlind;infer_instance
 |s::l,t,x=>by
  have ih:=uG l;unfold followBlind;exact ks
instance {l:List FieldStep} {t:TypeId} {x:Option Value}:ak (followBlind l t x):=uG l t x
theorem zD:∀ (n:Nat) (t:TypeId) (v:Value) (s:String),ak (nilAhead n t v s)
 |0,t,v,s=>by unfold nilAhead;infer_instance
 |n+1,t,v,s=>by
  have ih:=zD n;unfold nilAhead;exact ks
instance {n:Nat} {t:TypeId} {v:Value} {s:String}:ak (nilAhead n t v s):=zD n t v s
instance {v:Value} {a:Array Value}:ak (Deferred.ofValue v a):=by
 unfold Deferred.ofValue;exact ks
instance {ρ:Operand->Value} {c:Call} {t:TypeId}:ak (resolve ρ c t):=by
 unfold resolve;exact ks
end
def kF (C:Code->Prop) (r:Bool):Next->Prop
 |.value _ | .skip | .enter .. | .comm .. => True
 |.recover=>r=true
 |.round _ _ _ assign body=>C assign/\C body
 |.defer d=>iZ d
 |.spawn d=>iZ d
 |_=>False
section
variable {l:Nat}
variable {C:Code->Prop} {P:Program} {r:Bool}
theorem jL {α:Type} {φ:α->Prop} {a:α} (h:φ a):Shy true C P φ (pure a:Sem α):=h
theorem eP {α β:Type} {ψ:β->Prop} {s:Sem α} {f:α->Sem β} (h:ak s) (hf:∀ a,Shy true C P ψ (f a)):Shy true C P ψ (s >>= f):=Shy.bind (fun a _=>hf a) (h.t C P)
theorem wV {s:Sem Value} (h:ak s):Shy true C P (kF C r) (do pure (.value (<- s)):Sem Next):=eP h fun _=>trivial
theorem VF {s:Sem Unit} (h:ak s):Shy true C P (kF C r) (do s;pure .skip:Sem Next):=eP h fun _=>trivial
theorem iQ {α:Type} {φ:α->Prop} {v:Value}:Shy true C P φ (goPanic v:Sem α):=⟨fun _=>trivial,trivial⟩
theorem kK {α:Type} {φ:α->Prop} {v:String}:Shy true C P φ (stuck v:Sem α):=⟨fun _=>trivial,trivial⟩
theorem dh {α:Type} {φ:α->Prop} (e:RuntimeError):Shy true C P φ (runtimePanic e:Sem α):=by
 unfold runtimePanic;refine eP inferInstance fun p=>?_
 dsimp only;split
 ·exact iQ
 ·exact iQ
 ·exact iQ
 ·exact iQ
 ·exact eP inferInstance fun _=>eP inferInstance fun _=>iQ
 ·exact eP inferInstance fun _=>eP inferInstance fun _=>iQ
 ·exact iQ
theorem kN:Shy true C P (fun r:Loop=>C r.assign/\C r.body/\(∀ c,r.pending=some c->C c)) (Instr.getLoop l):=by
 unfold Instr.getLoop;exact⟨fun o ho=>by cases o<;>first|exact ho|exact⟨fun _=>trivial,trivial⟩,fun o _=>.inl trivial⟩
theorem Gi {fn:FuncId} {tmps:Array Value} {params:Array Tmp} {assign body:Code} {around:Option Nat} (ha:C assign) (hb:C body) :
  Shy true C P (fun x:Nat × List Deferred=>∀ d∈x.2,iZ d) (Instr.enterLoop fn tmps params assign body around):=by
 unfold Instr.enterLoop;cases around with
 |some l =>
  refine Shy.bind (φ:=fun _=>True) (fun r _=>?_) (Shy.mono (fun _ _=>trivial) kN);exact⟨⟨ha,hb,by simp⟩,fun n d hd=>by cases hd⟩
 |none =>
  refine⟨by simp[lQ],fun r=>⟨⟨ha,hb,by simp⟩,fun n d hd=>?_⟩⟩;rcases List.mem_singleton.1 hd with rfl;trivial
theorem agH {args:Array Value}:Shy true C P (kF C r) (Instr.yield l args):=by
 unfold Instr.yield;refine Shy.bind (fun r hr=>?_) kN;split
 ·exact eP inferInstance fun _=>⟨hr.1,hr.2.1⟩
 ·exact⟨hr.1,hr.2.1⟩
theorem Dq:Shy true C P (fun _=>True) (Instr.beginRound l):=by
 unfold Instr.beginRound;refine Shy.bind (fun r hr=>?_) kN;refine⟨⟨⟨hr.1,hr.2.1,hr.2.2⟩,nofun⟩,?_⟩;show Shy true C P _ (match r.state with | .ready=>_ | .done=>_ | .busy=>_ | .exhausted=>_);split
 ·first|trivial|exact⟨fun _=>trivial,trivial⟩
 ·exact dh _
 ·exact dh _
 ·exact dh _
theorem JL {jump:Option Code} (hj:∀ c,jump=some c->C c):Shy true C P (fun _=>True) (Instr.endRound l jump):=by
 unfold Instr.endRound;refine Shy.bind (fun r hr=>?_) kN;exact⟨⟨⟨hr.1,hr.2.1,hj⟩,nofun⟩,trivial⟩
theorem Nj:Shy true C P (fun j:Option Code=>∀ c,j=some c->C c) (Instr.endLoop l):=by
 unfold Instr.endLoop;refine Shy.bind (fun r hr=>?_) kN;split
 ·refine Shy.bind (φ:=fun _=>True) (fun _ _=>?_) (dh _);exact⟨⟨⟨hr.1,hr.2.1,hr.2.2⟩,nofun⟩,hr.2.2⟩
 ·exact⟨⟨⟨hr.1,hr.2.1,hr.2.2⟩,nofun⟩,hr.2.2⟩
theorem AB {d:Deferred} (hd:iZ d):Shy true C P (fun _=>True) (Instr.deferInRound l d):=by
 unfold Instr.deferInRound;refine Shy.bind (φ:=fun _=>True) (fun r _=>?_) (Shy.mono (fun _ _=>trivial) kN);refine⟨fun o ho=>?_,fun o _=>.inl trivial⟩;show Shy true C P _ (match o with | .deferred (some ds)=>_ | .deferred none=>_|_=>_);cases o with
 | deferred c =>
  cases c with
  |none=>first|trivial|exact⟨fun _=>trivial,trivial⟩
  |some ds =>
   refine⟨⟨fun x hx=>?_,nofun⟩,trivial⟩;rcases List.mem_cons.1 hx with rfl|h
   ·exact hd
   ·exact ho x h
 |_=>first|trivial|exact⟨fun _=>trivial,trivial⟩
theorem Ag {b:Nat}:Shy true C P (fun ds:List Deferred=>∀ d∈ds,iZ d) (Instr.takeDeferred b):=by
 unfold Instr.takeDeferred;refine⟨fun o ho=>?_,fun o _=>.inl trivial⟩;show Shy true C P _ (match o with | .deferred (some ds)=>_|_=>_);cases o with
 |deferred c =>
  cases c with
  |none=>first|trivial|exact⟨fun _=>trivial,trivial⟩
  |some ds=>exact⟨⟨trivial,nofun⟩,ho⟩
 |_=>first|trivial|exact⟨fun _=>trivial,trivial⟩
theorem MR {b:Builtin} (hb:oL b=true) (hr:isRecover b=true->r=true) (ats:Array TypeId) (t:TypeId) (cs:Array Bool) (args:Array Value):Shy true C P (kF C r) (builtin b ats t cs args):=by
 unfold builtin;cases b<;>first|(cases hb;done)|exact wV inferInstance|exact hr rfl
def U0 (P:Program) (f:FuncId):Prop :=
 ∀ fn,P.funcs[f]? = some fn->(fn.name == "runtime.NumGoroutine")=false/\(fn.body.isNone=true->(Extern.findNext fn).isNone=true/\∀ e,Extern.find fn=some e->∀ args,ak (e args))
theorem tJ {f:FuncId} (h:U0 P f) (args:Array Value):Shy true C P (kF C r) (callFunc f args):=by
 unfold callFunc;show Shy true C P _ (match P.funcs[f]? with|none=>_|some fn=>_);cases hf:P.funcs[f]? with
 |none=>first|trivial|exact⟨fun _=>trivial,trivial⟩
 | some fn =>
  obtain⟨hn,hx⟩:=h fn hf;simp only[hn,Bool.false_eq_true,if_false];split
  ·rename_i hb;obtain ⟨h1,h2⟩:=hx hb;refine eP inferInstance fun _=>?_
   cases hfn:Extern.findNext fn with
   |some e=>rw[hfn]at h1;cases h1
   | none =>
    show Shy true C P _ (match Extern.find fn with|some e=>_|none=>_);cases he:Extern.find fn with
    |some e=>exact wV (h2 e he args)
    |none =>
     dsimp only;split
     ·first|trivial|exact⟨fun _=>trivial,trivial⟩
     ·first|trivial|exact⟨fun _=>trivial,trivial⟩
  ·first|trivial|exact⟨fun _=>trivial,trivial⟩
end
class Calm {α:Type} (s:Sem α):Prop where
 t:∀ (C:Code->Prop) (P:Program),dL C P (fun _=>True) s
section
variable {α β:Type}
theorem gQ {s:Sem α} {f:α->Sem β} (h:Calm s) (hf:∀ a,Calm (f a)):Calm (s >>= f):=⟨fun C P=>dL.bind (fun a _=>(hf a).t C P) (h.t C P)⟩
instance Yw {s:Sem α} {f:α->Sem β} [h:Calm s] [hf:∀ a,Calm (f a)]:Calm (s >>= f):=gQ h hf
instance aaS {s:Sem α} {f:α->β} [h:Calm s]:Calm (f <$> s):=(gQ h (fun a=>(⟨fun _ _=>trivial⟩:Calm (pure (f a):Sem β))):Calm (s >>= fun a=>pure (f a)))
theorem zY {c:Prop} [Decidable c] {a b:Sem α} (ha:Calm a) (hb:Calm b):Calm (if c then a else b):=by split<;>assumption
instance aao {a:α}:Calm (pure a:Sem α):=⟨fun _ _=>trivial⟩
end
section
variable {α β γ:Type}
instance JU {s:Sem α} [h:ak s]:Calm s:=⟨fun C P=>KN (h.t C P)⟩
instance YA {r:Nat}:Calm (getObj r):=⟨fun _ _ _ _=>trivial⟩
instance Oy {s:String}:Calm (stuck s:Sem α):=⟨fun _ _=>trivial⟩
theorem AX {o:Obj} (h:∀ C,lQ C o):Calm (newObj o):=⟨fun C _=>⟨h C,fun _=>trivial⟩⟩
theorem BG {γ:Type} (f:β->γ->Sem β) (h:∀ b c,Calm (f b c)):∀ (l:List γ) (b:β),Calm (l.foldlM f b)
 | [],b=>by simp only[List.foldlM_nil];infer_instance
 |c::l,b=>by simp only[List.foldlM_cons];exact gQ (h b c) fun b'=>BG f h l b'
theorem TI (f:β->Sem γ) (h:∀ c,Calm (f c)) (l:Array β):Calm (l.mapM f):=by
 rw[Array.mapM_eq_foldlM,<- Array.foldlM_toList];exact BG _ (fun b c=>by have:=h c;infer_instance) _ _
end
instance {r:Nat}:Calm (cellsIn r):=by
 unfold cellsIn;repeat' (first|infer_instance|apply zY|apply gQ|intro _|dsimp only|split)
instance {s t:TypeId} {x:Value}:Calm (Conv.unsafePointer s t x):=by
 unfold Conv.unsafePointer;repeat' (first|infer_instance|apply zY|apply gQ|intro _|dsimp only|split)
instance {s t:TypeId} {x:Value}:Calm (convert s t x):=by
 unfold convert;repeat' (first|infer_instance|apply zY|apply gQ|intro _|dsimp only|split)
def jM (C:Code->Prop) (S:FuncId->Prop) (r:Bool):Next->Prop
 |.value _ | .skip=>True
 |.recover=>r=true
 |.enter f _=>S f
 |.round _ _ _ assign body=>C assign/\C body
 |.defer d=>iZ d
 |.comm cases b _=>r=true/\b=true/\∃ c,cases=#[c]
 |.spawn _=>r=true
 |_=>False
section
variable {l:Nat}
variable {C:Code->Prop} {P:Program} {S:FuncId->Prop} {r:Bool}
theorem jH {α:Type} {φ:α->Prop} {a:α} (h:φ a):dL C P φ (pure a:Sem α):=h
theorem fU {α β:Type} {ψ:β->Prop} {s:Sem α} {f:α->Sem β} (h:Calm s) (hf:∀ a,dL C P ψ (f a)):dL C P ψ (s >>= f):=dL.bind (fun a _=>hf a) (h.t C P)
theorem tX {s:Sem Value} (h:Calm s):dL C P (jM C S r) (do pure (.value (<- s)):Sem Next):=fU h fun _=>trivial
theorem RJ {s:Sem Unit} (h:Calm s):dL C P (jM C S r) (do s;pure .skip:Sem Next):=fU h fun _=>trivial
theorem iT {α:Type} {φ:α->Prop} {v:Value}:dL C P φ (goPanic v:Sem α):=trivial
theorem kC {α:Type} {φ:α->Prop} {v:String}:dL C P φ (stuck v:Sem α):=trivial
theorem dN {α:Type} {φ:α->Prop} (e:RuntimeError):dL C P φ (runtimePanic e:Sem α):=by
 unfold runtimePanic;refine fU inferInstance fun p=>?_
 dsimp only;split
 ·exact iT
 ·exact iT
 ·exact iT
 ·exact iT
 ·exact fU inferInstance fun _=>fU inferInstance fun _=>iT
 ·exact fU inferInstance fun _=>fU inferInstance fun _=>iT
 ·exact iT
theorem jG:dL C P (fun r:Loop=>C r.assign/\C r.body/\(∀ c,r.pending=some c->C c)) (Instr.getLoop l):=by
 unfold Instr.getLoop;intro o ho;cases o<;>first|exact ho|trivial
theorem FM {fn:FuncId} {tmps:Array Value} {params:Array Tmp} {assign body:Code} {around:Option Nat} (ha:C assign) (hb:C body) :
  dL C P (fun x:Nat × List Deferred=>∀ d∈x.2,iZ d) (Instr.enterLoop fn tmps params assign body around):=by
 unfold Instr.enterLoop;cases around with
 |some l =>
  refine dL.bind (φ:=fun _=>True) (fun r _=>?_) (dL.mono (fun _ _=>trivial) jG);exact⟨⟨ha,hb,by simp⟩,fun n d hd=>by cases hd⟩
 |none =>
  refine⟨by simp[lQ],fun r=>⟨⟨ha,hb,by simp⟩,fun n d hd=>?_⟩⟩;rcases List.mem_singleton.1 hd with rfl;trivial
theorem Ot {args:Array Value}:dL C P (jM C S r) (Instr.yield l args):=by
 unfold Instr.yield;refine dL.bind (fun r hr=>?_) jG;split
 ·exact fU inferInstance fun _=>⟨hr.1,hr.2.1⟩
 ·exact⟨hr.1,hr.2.1⟩
theorem BQ:dL C P (fun _=>True) (Instr.beginRound l):=by
 unfold Instr.beginRound;refine dL.bind (fun r hr=>?_) jG;refine⟨⟨hr.1,hr.2.1,hr.2.2⟩,?_⟩;show dL C P _ (match r.state with | .ready=>_ | .done=>_ | .busy=>_ | .exhausted=>_);split
 ·trivial
 ·exact dN _
 ·exact dN _
 ·exact dN _
theorem Gl {jump:Option Code} (hj:∀ c,jump=some c->C c):dL C P (fun _=>True) (Instr.endRound l jump):=by
 unfold Instr.endRound;refine dL.bind (fun r hr=>?_) jG;exact⟨⟨hr.1,hr.2.1,hj⟩,trivial⟩
theorem Jr:dL C P (fun j:Option Code=>∀ c,j=some c->C c) (Instr.endLoop l):=by
 unfold Instr.endLoop;refine dL.bind (fun r hr=>?_) jG;split
 ·refine dL.bind (φ:=fun _=>True) (fun _ _=>?_) (dN _);exact⟨⟨hr.1,hr.2.1,hr.2.2⟩,hr.2.2⟩
 ·exact⟨⟨hr.1,hr.2.1,hr.2.2⟩,hr.2.2⟩
theorem y7 {d:Deferred} (hd:iZ d):dL C P (fun _=>True) (Instr.deferInRound l d):=by
 unfold Instr.deferInRound;refine dL.bind (φ:=fun _=>True) (fun r _=>?_) (dL.mono (fun _ _=>trivial) jG);intro o ho;show dL C P _ (match o with | .deferred (some ds)=>_ | .deferred none=>_|_=>_);cases o with
 | deferred c =>
  cases c with
  |none=>trivial
  |some ds =>
   refine⟨fun x hx=>?_,trivial⟩;rcases List.mem_cons.1 hx with rfl|h
   ·exact hd
   ·exact ho x h
 |_=>trivial
theorem zI {b:Nat}:dL C P (fun ds:List Deferred=>∀ d∈ds,iZ d) (Instr.takeDeferred b):=by
 unfold Instr.takeDeferred;intro o ho;show dL C P _ (match o with | .deferred (some ds)=>_|_=>_);cases o with
 |deferred c =>
  cases c with
  |none=>trivial
  |some ds=>exact⟨trivial,ho⟩
 |_=>trivial
theorem IL {b:Builtin} (hb:oL b=true) (hr:isRecover b=true->r=true) (ats:Array TypeId) (t:TypeId) (cs:Array Bool) (args:Array Value):dL C P (jM C S r) (builtin b ats t cs args):=by
 unfold builtin;cases b<;>first|(cases hb;done)|exact tX inferInstance|exact hr rfl
def aau (P:Program) (f:FuncId):Prop :=
 ∀ fn,P.funcs[f]? = some fn->(fn.name == "runtime.NumGoroutine")=false/\(fn.body.isNone=true->(Extern.findNext fn).isNone=true/\∀ e,Extern.find fn=some e->∀ args,Calm (e args))
theorem qH {f:FuncId} (h:aau P f) (hS:S f) (args:Array Value):dL C P (jM C S r) (callFunc f args):=by
 unfold callFunc;show dL C P _ (match P.funcs[f]? with|none=>_|some fn=>_);cases hf:P.funcs[f]? with
 |none=>trivial
 | some fn =>
  obtain⟨hn,hx⟩:=h fn hf;simp only[hn,Bool.false_eq_true,if_false];split
  ·rename_i hb;obtain ⟨h1,h2⟩:=hx hb;refine fU inferInstance fun _=>?_
   cases hfn:Extern.findNext fn with
   |some e=>rw[hfn]at h1;cases h1
   | none =>
    show dL C P _ (match Extern.find fn with|some e=>_|none=>_);cases he:Extern.find fn with
    |some e=>exact tX (h2 e he args)
    |none =>
     dsimp only;split
     ·trivial
     ·trivial
  ·exact hS
end
open Go.Extern Go.Extern.Rtype
instance {α:Type} {m:String}:ak (panicString m:Sem α):=by
 unfold panicString;exact ks
instance {s:String}:ak (cutType s):=by
 unfold cutType;exact ks
instance {t:TypeId}:ak (typeStr t):=by
 unfold typeStr;exact ks
instance {v:Value}:ak (Rtype.ofHandle v):=by
 unfold Rtype.ofHandle;exact ks
instance {t:TypeId}:ak (Rtype.handle t):=by
 unfold Rtype.handle;exact ks
instance {w:String} {t:TypeId}:ak (Rtype.noPack w t):=by
 unfold Rtype.noPack;exact ks
instance {w:String} {t:TypeId}:ak (Rtype.noPackHeld w t):=by
 unfold Rtype.noPackHeld;exact ks
instance {w:String} {t:TypeId}:ak (Rtype.noPackNamed w t):=by
 unfold Rtype.noPackNamed;exact ks
instance {w:String} {t:TypeId}:ak (Rtype.noPackMethods w t):=by
 unfold Rtype.noPackMethods;exact ks
instance {t:TypeId}:ak (Rtype.spelt t):=by
 unfold Rtype.spelt;exact ks
instance {t:TypeId}:ak (Rtype.under t):=by
 unfold Rtype.under;exact ks
instance {t:TypeId}:ak (Rtype.kind t):=by
 unfold Rtype.kind;exact ks
instance {t:TypeId}:ak (Rtype.hasName t):=by
 unfold Rtype.hasName;exact ks
instance {t:TypeId}:ak (Rtype.elem? t):=by
 unfold Rtype.elem?;exact ks
instance {t u:TypeId}:ak (Rtype.implements t u):=by
 unfold Rtype.implements;exact ks
instance {t u:TypeId}:ak (Rtype.directlyAssignable t u):=by
 unfold Rtype.directlyAssignable;exact ks
instance {t:TypeId}:ak (ReflectliteType.toType t):=by
 unfold ReflectliteType.toType;exact ks
instance {v:Value}:ak (ReflectliteType.ofRtype v):=by
 unfold ReflectliteType.ofRtype;cases v<;>first|exact aF|skip
 rename_i c;obtain⟨l⟩:=c
 match l with
 | []=>exact aF
 | [x0] =>
  refine aW inferInstance fun t=>aW inferInstance fun _=>inferInstance
 |_::_::_=>exact aF
instance {a:Array Value}:ak (ReflectliteType.typeOf a):=by
 unfold ReflectliteType.typeOf;obtain⟨l⟩:=a
 match l with
 | []=>exact aF
 | [x0] =>
  cases x0<;>first|exact aF|exact FD|skip
  rename_i t v;show ak (ReflectliteType.toType t);infer_instance
 |_::_::_=>exact aF
instance {f:TypeId->Sem Value} {a:Array Value} [∀ t,ak (f t)]:ak (ReflectliteType.method f a):=by
 unfold ReflectliteType.method;obtain⟨l⟩:=a
 match l with
 | []=>exact aF
 | [x0] =>
  exact aW inferInstance fun t=>inferInstance
 |_::_::_=>exact aF
instance {t:TypeId}:ak (ReflectliteType.elem t):=by
 unfold ReflectliteType.elem;exact ks
instance {t:TypeId}:ak (ReflectliteType.name t):=by
 unfold ReflectliteType.name;exact ks
instance {t:TypeId}:ak (ReflectliteType.pkgPath t):=by
 unfold ReflectliteType.pkgPath;exact ks
instance {w:String} {f:TypeId->TypeId->Sem Bool} {a:Array Value} [∀ t u,ak (f t u)]:ak (ReflectliteType.relation w f a):=by
 unfold ReflectliteType.relation;obtain⟨l⟩:=a
 match l with
 | []=>exact aF
 | [_]=>exact aF
 | [x0,x1] =>
  cases x1<;>first|exact aF|skip
  case nilIface=>exact(inferInstance:ak (panicString _:Sem Value))
  case iface t v=>exact aW inferInstance fun t=>aW inferInstance fun u=>aW inferInstance fun b=>inferInstance
 |_::_::_::_=>exact aF
instance {t u:TypeId}:ak (ReflectliteType.implements_ t u):=by
 unfold ReflectliteType.implements_;exact ks
instance {t u:TypeId}:ak (ReflectliteType.assignableTo t u):=by
 unfold ReflectliteType.assignableTo;exact ks
instance {f:TypeId->Sem Value} {a:Array Value} [∀ t,ak (f t)]:ak (ReflectliteType.abiMethod f a):=by
 unfold ReflectliteType.abiMethod;obtain⟨l⟩:=a
 match l with
 | []=>exact aF
 | [x0] =>
  exact aW inferInstance fun t=>aW inferInstance fun _=>inferInstance
 |_::_::_=>exact aF
instance {t:TypeId} {a:Addr} {n:Nat}:ak (ReflectliteValue.mk t a n):=by
 unfold ReflectliteValue.mk;exact ks
instance {v:Value}:ak (ReflectliteValue.unpack v):=by
 unfold ReflectliteValue.unpack;exact ks
instance {α:Type} {m:String} {k:Nat}:ak (ReflectliteValue.valueError m k:Sem α):=by
 unfold ReflectliteValue.valueError;exact ks
instance {v:Value}:ak (ReflectliteValue.partsAny v):=by
 unfold ReflectliteValue.partsAny;cases v<;>first|exact aF|skip
 rename_i c;obtain⟨l⟩:=c
 match l with
 | []=>exact aF
 | [_]=>exact aF
 | [_,_]=>exact aF
 | [x0,x1,x2] =>
  cases x2<;>first|exact aF|skip
  rename_i k n;cases k<;>first|exact aF|skip
  rcases n with(_|n)|n
  ·exact FD
  all_goals
   cases x1<;>first|exact aF|skip
   rename_i p;cases p<;>first|exact aF|exact aW inferInstance fun t=>inferInstance
 |_::_::_::_::_=>exact aF
instance {v:Value}:ak (ReflectliteValue.parts v):=by
 unfold ReflectliteValue.parts;exact ks
instance {z:Sem Value} {f:TypeId->Addr->Nat->Nat->Sem Value} {a:Array Value} [ak z] [∀ t a m n,ak (f t a m n)]:ak (ReflectliteValue.method z f a):=by
 unfold ReflectliteValue.method;obtain⟨l⟩:=a
 match l with
 | []=>exact aF
 | [x0] =>
  refine aW inferInstance fun o=>?_
  split<;>infer_instance
 |_::_::_=>exact aF
instance {z:Sem Value} {f:TypeId->Addr->Nat->Nat->Sem Value} {a:Array Value} [ak z] [∀ t a m n,ak (f t a m n)]:ak (ReflectliteValue.methodAny z f a):=by
 unfold ReflectliteValue.methodAny;obtain⟨l⟩:=a
 match l with
 | []=>exact aF
 | [x0] =>
  refine aW inferInstance fun o=>?_
  split<;>infer_instance
 |_::_::_=>exact aF
instance {t:TypeId} {a:Addr} {m n:Nat}:ak (ReflectliteValue.isNil t a m n):=by
 unfold ReflectliteValue.isNil;exact ks
instance {t:TypeId} {a:Addr} {m n:Nat}:ak (ReflectliteValue.elem t a m n):=by
 unfold ReflectliteValue.elem;exact ks
instance {a:Array Value}:ak (ReflectliteValue.set a):=by
 unfold ReflectliteValue.set;obtain⟨l⟩:=a
 match l with
 | []=>exact aF
 | [_]=>exact aF
 | [x0,x1] =>
  refine aW inferInstance fun o1=>aW inferInstance fun o2=>?_
  exact ks
 |_::_::_::_=>exact aF
instance {a:Array Value}:ak (ReflectliteValue.errorText a):=by
 unfold ReflectliteValue.errorText;obtain⟨l⟩:=a
 match l with
 | []=>exact aF
 | [x0] =>
  cases x0<;>first|exact aF|skip
  rename_i p;cases p with
  |none=>exact⟨fun C P=>dh _⟩
  |some e =>
   show ak (load e >>= _);refine aW inferInstance fun v=>aW inferInstance fun m=>aW inferInstance fun k=>aW inferInstance fun n=>inferInstance
 |_::_::_=>exact aF
instance {s:String}:ak (RuntimeError.text s):=by
 unfold RuntimeError.text;exact ks
instance {a:Array Value}:ak (RuntimeError.boundsError a):=by
 unfold RuntimeError.boundsError;obtain⟨l⟩:=a
 match l with
 | []=>exact aF
 | [x0] =>
  cases x0<;>first|exact aF|skip
  rename_i c;obtain⟨l⟩:=c
  match l with
  | []=>exact aF
  | [_]=>exact aF
  | [_,_]=>exact aF
  | [_,_,_]=>exact aF
  |_::_::_::_::_::_=>exact aF
  | [a,b,c,d] =>
   cases a<;>first|exact aF|skip
   cases b<;>first|exact aF|skip
   cases c<;>first|exact aF|skip
   cases d<;>first|exact aF|skip
   rename_i k x k' y sg k2 code;show ak (match (if sg && x<0 then RuntimeError.boundsNegErrorFmts else RuntimeError.boundsErrorFmts)[code.toNat]? with|some fmt=>RuntimeError.text _|none=>stuck _);generalize (if sg && x<0 then RuntimeError.boundsNegErrorFmts else RuntimeError.boundsErrorFmts)[code.toNat]? = o;cases o<;>infer_instance
 |_::_::_=>exact aF
instance {v:Value}:ak (RuntimeError.described v):=by
 unfold RuntimeError.described;exact ks
instance {v:TypeInfo}:ak (RuntimeError.pkgpathOf v):=by
 unfold RuntimeError.pkgpathOf;exact ks
instance {a:Array Value}:ak (RuntimeError.typeAssertionError a):=by
 unfold RuntimeError.typeAssertionError;exact ks
instance {a:Array Value}:ak (RuntimeError.unhashableTypeError a):=by
 unfold RuntimeError.unhashableTypeError;obtain⟨l⟩:=a
 match l with
 | []=>exact aF
 | [x0] =>
  cases x0<;>first|exact aF|skip
  rename_i c;obtain⟨l⟩:=c
  match l with
  | []=>exact aF
  | [x] =>
   refine aW inferInstance fun o=>?_
   cases o with
   |none=>exact⟨fun C P=>dh _⟩
   |some t=>infer_instance
  |_::_::_=>exact aF
 |_::_::_=>exact aF
instance {a:Array Value}:ak (RuntimeError.nothing a):=by
 unfold RuntimeError.nothing;exact ks
instance {t:TypeId} {a:Addr} {m n:Nat}:ak (ReflectliteValue.len t a m n):=by
 unfold ReflectliteValue.len;exact ks
theorem gJ:∀ x∈ReflectliteType.rows,∀ a,ak (x.2 a):=by
 intro x hx a;simp only[ReflectliteType.rows,List.mem_cons,List.not_mem_nil,or_false]at hx;rcases hx with rfl|rfl|rfl|rfl|rfl|rfl|rfl|rfl|rfl|rfl|rfl|rfl<;>dsimp only<;>infer_instance
theorem mP:∀ x∈ReflectliteValue.rows,∀ a,ak (x.2 a):=by
 intro x hx a;simp only[ReflectliteValue.rows,List.mem_cons,List.not_mem_nil,or_false]at hx;rcases hx with rfl|rfl|rfl|rfl|rfl|rfl|rfl|rfl|rfl|rfl<;>dsimp only<;>infer_instance
theorem fE:∀ x∈RuntimeError.rows,∀ a,ak (x.2 a):=by
 intro x hx a;simp only[RuntimeError.rows,List.mem_cons,List.not_mem_nil,or_false]at hx;rcases hx with rfl|rfl|rfl|rfl|rfl|rfl|rfl|rfl|rfl|rfl|rfl|rfl|rfl|rfl|rfl<;>dsimp only<;>infer_instance
end Go.Tm
namespace Go.Tm
open Go
def cell1:Value->Bool
 |.agg _ | .tuple _=>false
 |_=>true
def _root_.Go.World.re (w:World) (τ:Nat->Question->Nat) (d:Nat):World:={w with tape:=τ,drawn:=d}
def _root_.Go.Result.world {α:Type}:Result α->World
 |.ok _ w=>w
 |.halt _ w=>w
def _root_.Go.Result.re {α:Type} (r:Result α) (τ:Nat->Question->Nat) (d:Nat):Result α :=
 match r with
 |.ok a w=>.ok a (w.re τ d)
 |.halt h w=>.halt h (w.re τ d)
def Agree (w:World) (j:Nat) (τ:Nat->Question->Nat) (d:Nat):Prop:=∀ i,i<j->∀ q,τ (d+i) q=w.tape (w.drawn+i) q
theorem Agree.mono {w:World} {j j':Nat} {τ:Nat->Question->Nat} {d:Nat} (h:Agree w j τ d) (hj:j'<=j):Agree w j' τ d:=fun i hi q=>h i (by omega) q
section
variable {τ:Nat->Question->Nat} {d:Nat}
@[simp] theorem IV (w:World):(w.re τ d).heap=w.heap:=rfl
@[simp] theorem aaE (w:World):(w.re τ d).os=w.os:=rfl
@[simp] theorem QH (w:World):(w.re τ d).tape=τ:=rfl
@[simp] theorem Ko (w:World):(w.re τ d).drawn=d:=rfl
@[simp] theorem QT (w:World) (a:Addr):(w.re τ d).cell? a=w.cell? a:=rfl
@[simp] theorem SG (w:World) (a:Addr):(w.re τ d).frozen? a=w.frozen? a:=rfl
theorem Tn (w:World) (a:Addr) (n:Nat):(w.re τ d).freeze a n=(w.freeze a n).re τ d:=by
 unfold World.freeze;split<;>rfl
theorem mY (w:World):w.re w.tape w.drawn=w:=rfl
theorem Ih (w:World) (τ':Nat->Question->Nat) (d':Nat):(w.re τ d).re τ' d'=w.re τ' d':=rfl
theorem Pn (w:World) (p:Program) (a:Addr) (at_:Bool):(w.re τ d).farLoad p a at_=w.farLoad p a at_:=rfl
theorem uD (w:World) (p:Program) (at_:Addr) (u:TypeId) (k:Addr) (v:Value) (atomic:Bool) :
  (∃ e,∀ τ d,(w.re τ d).viewStore p at_ u k v atomic=.error e) \/
  ∃ c e fr l,∀ τ d,(w.re τ d).viewStore p at_ u k v atomic=.ok ({w.re τ d with heap:=w.heap.setIfInBounds at_.block (.cells c e fr)},l):=by
 unfold World.viewStore;have hs:∀ τ d,(w.re τ d).seen p at_ u k atomic=w.seen p at_ u k atomic:=fun _ _=>rfl
 simp only[hs];cases tight p p.depth u<;>cases w.seen p at_ u k atomic with
 |error e=>first|exact .inl ⟨_,fun _ _=>rfl⟩
 | ok x =>
  first
  |exact .inl ⟨_,fun _ _=>rfl⟩
  | (obtain ⟨c,e,fr,first,like,cells⟩:=x
     simp only[Bool.not_true,Bool.false_eq_true,if_false];cases v.bytes? with
     |none=>exact .inl ⟨_,fun _ _=>rfl⟩
     | some bytes =>
      by_cases hb:some bytes.length≠like.bytes?.map (·.length)
      ·refine .inl ⟨ "memory seen as another type: a value of another size", fun τ d=>?_⟩
       simp only[bind,Except.bind,hb,if_true,ne_eq,not_false_eq_true];rfl
      ·simp only [bind,Except.bind,pure,Except.pure,hb,if_false];generalize hf:(List.foldlM _ c cells:Except String (Array Value))=r;cases r with
       |error e=>exact .inl ⟨e,fun _ _=>rfl⟩
       |ok c'=>exact .inr ⟨c',e,fr,_,fun _ _=>rfl⟩)
end
theorem Kz (os:Os):∃ os',Kernel.perform .env os=.done (.strings os.env,os'):=by
 refine⟨{os with wall:=os.wall+0,mono:=os.mono+0,coarse:=os.coarse},?_⟩;unfold Kernel.perform;simp[Kernel.lengthOf,Kernel.named,Kernel.ofKernel,Kernel.stamps,Kernel.each,Kernel.env];rfl
theorem QM (w:World):∃ r os,∀ τ d,(w.re τ d).sys .env=(r,{w.re τ d with os:=os}):=by
 obtain⟨os',h⟩:=Kz w.os;refine⟨.strings w.os.env,os',fun τ d=>?_⟩;unfold World.sys;rw[aaE,h];rfl
def ND (e:Event):Prop:=e.loc≠.mark .disable/\e.loc≠.mark .enable
def ay (C:Code->Prop) (w:World):Prop:=∀ (i:Nat) (o:Obj),w.heap[i]? = some o->lQ C o
section
variable {w:World} {o:Obj} {r:Nat} {es es0:Array Event}
variable {C:Code->Prop} {P:Program}
theorem air (h:ay C w) (ho:lQ C o):ay C {w with heap:=w.heap.push o}:=by
 intro i x hx;rw[Array.getElem?_push]at hx;split at hx
 ·cases hx;exact ho
 ·exact h i x hx
theorem jF (h:ay C w) (ho:lQ C o):ay C {w with heap:=w.heap.setIfInBounds r o}:=by
 intro i x hx;simp only[Array.getElem?_setIfInBounds]at hx;split at hx
 ·split at hx
  ·cases hx;exact ho
  ·cases hx
 ·exact h i x hx
theorem xu (h:ay C w) {f:Obj->Obj} (hf:∀ o,lQ C o->lQ C (f o)):ay C {w with heap:=w.heap.modify r f}:=by
 intro i x hx;simp only[Array.getElem?_modify]at hx;split at hx
 ·obtain⟨y,hy,rfl⟩:=Option.map_eq_some_iff.1 hx;exact hf _ (h i y hy)
 ·exact h i x hx
theorem lC (h:ay C w) (a:Addr) (v:Value):ay C (w.setCell a v):=by
 refine xu h fun o ho=>?_
 cases o<;>first|exact ho|trivial
theorem qI (h:ay C w) (a:Addr) (n:Nat):ay C (w.freeze a n):=by
 unfold World.freeze;split
 ·exact h
 ·refine xu h fun o ho=>?_
  cases o<;>first|exact ho|trivial
theorem wS {e:Event} (h:∀ x∈es,x∈es0\/ND x) (he:ND e):∀ x∈es.push e,x∈es0\/ND x:=by
 intro x hx;rcases Array.mem_push.1 hx with h1|rfl
 ·exact h x h1
 ·exact .inr he
theorem Nz (h:∀ x∈es,x∈es0\/ND x) (l:List Addr) (wr s:Bool):∀ x∈es ++ l.toArray.map (fun a=>(⟨.cell a,wr,s⟩:Event)),x∈es0\/ND x:=by
 intro x hx;rcases Array.mem_append.1 hx with h1|h1
 ·exact h x h1
 ·obtain⟨a,_,rfl⟩:=Array.mem_map.1 h1;exact .inr ⟨by simp,by simp⟩
theorem xH (h:ay C w) (a:Addr) (s:String):uY (w.noCell a s):=by
 unfold World.noCell;split
 ·rename_i hx;exact(h _ _ hx).elim
 ·trivial
 ·trivial
structure Facts (C:Code->Prop) {α:Type} (φ:α->Prop) (es0:Array Event) (n:Nat) (r:Result α × Array Event):Prop where
 nd:∀ x∈r.2,x∈es0\/ND x
 heap:ay C r.1.world
 size:n<=r.1.world.heap.size
 leaf:match r.1 with | .ok a _=>φ a | .halt h _=>uY h
theorem tK {α:Type} {φ:α->Prop} (s:Sem α) (hs:dL C P φ s):∀ (w:World) (es es0:Array Event) (n:Nat),ay C w->(∀ x∈es,x∈es0\/ND x)->n<=w.heap.size->Facts C φ es0 n (s.runT P w es):=by
 induction s with
 |pure a=>exact fun w es es0 n hw he hn=>⟨he,hw,hn,hs⟩
 | load m a k ih =>
  intro w es es0 n hw he hn;simp only[Sem.runT];split
  ·exact ih _ (hs _) _ _ _ _ hw (wS he ⟨by simp,by simp⟩) hn
  ·split
   ·exact ih _ (hs _) _ _ _ _ hw (Nz he _ _ _) hn
   ·rename_i h hx;refine ⟨he,hw,hn,?_⟩;show uY h;unfold World.farLoad at hx;split at hx
    ·split at hx<;>cases hx;trivial
    ·cases hx;exact xH hw _ _
 | store m a v k ih =>
  intro w es es0 n hw he hn;cases v <;> simp only [Sem.runT] <;> first
   |exact⟨he,hw,hn,trivial⟩
   | (split
      ·split
       ·exact⟨he,hw,hn,trivial⟩
       ·exact ih hs _ _ _ _ (lC hw _ _) (wS he ⟨by simp,by simp⟩) (by simpa[World.setCell]using hn)
      ·split
       ·rename_i w' l hx;have hh:ay C w'/\w'.heap.size=w.heap.size:=by
         unfold World.farStore at hx;split at hx
         ·rename_i at_ u _;rcases uD w P at_ u a _ (m == .atomic) with ⟨e,h⟩ | ⟨c,e,fr,l',h⟩
          ·have:=h w.tape w.drawn;rw[mY]at this;rw[this]at hx;cases hx
          ·have:=h w.tape w.drawn;rw[mY]at this;rw[this]at hx;cases hx;exact⟨jF hw trivial,by simp⟩
         ·cases hx
        exact ih hs _ _ _ _ hh.1 (Nz he _ _ _) (by rw[hh.2];exact hn)
       ·rename_i h hx;refine ⟨he,hw,hn,?_⟩;show uY h;unfold World.farStore at hx;split at hx
        ·split at hx<;>cases hx;trivial
        ·cases hx;exact xH hw _ _)
 |new o k ih=>exact fun w es es0 n hw he hn=>ih _ (hs.2 _) _ _ _ _ (air hw hs.1) he (by simp;omega)
 |shape r k ih=>exact fun w es es0 n hw he hn=>ih _ (hs _) _ _ _ _ hw he hn
 |freeze a m k ih=>exact fun w es es0 n hw he hn=>ih hs _ _ _ _ (qI hw _ _) he (by unfold World.freeze;split<;>simpa using hn)
 |frozen a k ih=>exact fun w es es0 n hw he hn=>ih _ (hs _) _ _ _ _ hw he hn
 |getObj r k ih =>
  intro w es es0 n hw he hn;simp only[Sem.runT];split
  ·exact⟨he,hw,hn,trivial⟩
  ·rename_i o _ ho;exact ih _ (hs _ (hw _ _ ho)) _ _ _ _ hw (wS he ⟨by simp,by simp⟩) hn
  ·exact⟨he,hw,hn,trivial⟩
 |setObj r o k ih =>
  intro w es es0 n hw he hn;simp only[Sem.runT];split
  ·exact⟨he,hw,hn,trivial⟩
  ·exact ih hs.2 _ _ _ _ (jF hw hs.1) (wS he ⟨by simp,by simp⟩) (by simpa using hn)
  ·exact⟨he,hw,hn,trivial⟩
 |choose q k ih =>
  intro w es es0 n hw he hn;simp only[Sem.runT];split
  ·exact ih _ (hs _) _ _ _ _ hw he hn
  ·exact ih _ (hs _) {w with drawn:=w.drawn+1} es es0 n hw he hn
 |sys c k ih =>
  intro w es es0 n hw he hn;obtain⟨rfl,hs⟩:=hs;obtain⟨r,os,h⟩:=QM w;have h:=h w.tape w.drawn;rw[mY]at h;simp only[Sem.runT,h];exact ih _ (hs _) _ _ _ _ (fun i o ho=>hw i o ho) (wS he ⟨by simp,by simp⟩) hn
 |program k ih=>exact fun w es es0 n hw he hn=>ih _ hs _ _ _ _ hw he hn
 |mark m k ih=>exact fun w es es0 n hw he hn=>ih hs.2.2 _ _ _ _ hw (wS he ⟨by simpa using hs.1,by simpa using hs.2.1⟩) hn
 |halt h=>exact fun w es es0 n hw he hn=>⟨he,hw,hn,hs⟩
theorem xQ {α:Type} {φ:α->Prop} (s:Sem α) (hs:dL C P φ s):∀ (w:World) (es:Array Event),ay C w->∃ j,(s.runT P w es).1.world.drawn=w.drawn+j/\(s.runT P w es).1.world.tape=w.tape /\
  ∀ τ d,Agree w j τ d->s.runT P (w.re τ d) es=((s.runT P w es).1.re τ (d+j),(s.runT P w es).2):=by
 induction s with
 |pure a=>exact fun w es _=>⟨0,rfl,rfl,fun τ d _=>rfl⟩
 | load m a k ih =>
  intro w es hw;simp only[Sem.runT,QT,Pn];cases w.cell? a with
  |some v=>exact ih _ (hs _) w _ hw
  |none =>
   cases w.farLoad P a (m == .atomic)with
   |ok x=>exact ih _ (hs _) w _ hw
   |error e=>exact⟨0,rfl,rfl,fun τ d _=>rfl⟩
 | store m a v k ih =>
  intro w es hw;by_cases hv:cell1 v=true
  ·have hrun:∀ w' es',Sem.runT P (.store m a v k) w' es'=(match w'.cell? a with
    | some _=>if w'.frozen? a then (.halt (.unsupported (.unsafePointer "a write to bytes that a string shares")) w',es') else k.runT P (w'.setCell a v) (es'.push ⟨.cell a,true,m == .atomic⟩)
    |none=>match w'.farStore P a v (m == .atomic)with
     |.ok (w',touched)=>k.runT P w' (es' ++ touched.toArray.map (⟨.cell ·,true,m == .atomic⟩))
     |.error h=>(.halt h w',es')):=by
    intro w' es';cases v<;>first|rfl|cases hv
   simp only[hrun,QT,SG];cases hc:w.cell? a with
   |some x =>
    dsimp only;by_cases hf:w.frozen? a=true
    ·simp only[hf,if_true];exact⟨0,rfl,rfl,fun τ d _=>rfl⟩
    ·simp only[hf,Bool.false_eq_true,if_false];exact ih hs (w.setCell a v) _ (lC hw _ _)
   | none =>
    dsimp only;unfold World.farStore;simp only[IV]
    have hno:∀ τ d,(w.re τ d).noCell a "store: no such cell" = w.noCell a "store: no such cell" := fun _ _=>rfl
    cases ho:w.heap[a.block]? with
    |none=>simp only[hno];exact⟨0,rfl,rfl,fun τ d _=>rfl⟩
    | some o =>
     cases o with
     |view at_ u =>
      rcases uD w P at_ u a v (m == .atomic)with⟨e,h⟩|⟨c,e,fr,l',h⟩
      ·have h0:=h w.tape w.drawn;rw[mY]at h0;simp only[h,h0];exact⟨0,rfl,rfl,fun τ d _=>rfl⟩
      ·have h0:=h w.tape w.drawn;rw[mY]at h0;simp only[h,h0];exact ih hs ({w with heap:=w.heap.setIfInBounds at_.block (.cells c e fr)}) _ (jF hw trivial)
     |_=>simp only[hno];exact⟨0,rfl,rfl,fun τ d _=>rfl⟩
  ·have hrun:∀ w' es',Sem.runT P (.store m a v k) w' es'=(.halt (.stuck "store: not the value of one cell") w',es'):=by
    intro w' es';cases v<;>first|rfl|exact absurd rfl hv
   simp only[hrun];exact⟨0,rfl,rfl,fun τ d _=>rfl⟩
 |new o k ih=>exact fun w es hw=>ih _ (hs.2 _) {w with heap:=w.heap.push o} es (air hw hs.1)
 |shape r k ih=>exact fun w es hw=>ih _ (hs _) w es hw
 |freeze a m k ih =>
  intro w es hw;obtain⟨j,h1,h2,h3⟩:=ih hs (w.freeze a m) es (qI hw _ _);have e:(w.freeze a m).drawn=w.drawn/\(w.freeze a m).tape=w.tape:=by unfold World.freeze;split<;>exact⟨rfl,rfl⟩
  refine⟨j,by simp only[Sem.runT];rw[h1,e.1],by simp only[Sem.runT];rw[h2,e.2],fun τ d ha=>?_⟩;simp only[Sem.runT,Tn];exact h3 τ d (fun i hi q=>by rw[e.1,e.2];exact ha i hi q)
 |frozen a k ih=>exact fun w es hw=>ih _ (hs _) w es hw
 | getObj r k ih =>
  intro w es hw;simp only[Sem.runT,IV];cases ho:w.heap[r]? with
  |none=>exact⟨0,rfl,rfl,fun τ d _=>rfl⟩
  |some o =>
   cases o with
   |cells c e f=>exact⟨0,rfl,rfl,fun τ d _=>rfl⟩
   |_=>exact ih _ (hs _ (hw _ _ ho)) w _ hw
 | setObj r o k ih =>
  intro w es hw;simp only[Sem.runT,IV];cases ho:w.heap[r]? with
  |none=>exact⟨0,rfl,rfl,fun τ d _=>rfl⟩
  |some o' =>
   cases o' with
   |cells c e f=>exact⟨0,rfl,rfl,fun τ d _=>rfl⟩
   |_=>exact ih hs.2 {w with heap:=w.heap.setIfInBounds r o} _ (jF hw hs.1)
 | choose q k ih =>
  intro w es hw;simp only[Sem.runT];by_cases hq:q.forced=true
  ·simp only[hq,if_true];exact ih _ (hs _) w es hw
  ·simp only [hq,Bool.false_eq_true,if_false];obtain ⟨j,h1,h2,h3⟩:=ih _ (hs (q.cut (w.tape w.drawn q))) { w with drawn:=w.drawn+1 } es hw;refine ⟨j+1,by rw [h1];show w.drawn+1+j=_;omega,h2,fun τ d ha=>?_⟩;have h0:=ha 0 (by omega) q;simp only [Nat.add_zero] at h0;simp only [QH,Ko,h0];have h4:=h3 τ (d+1) (fun i hi q'=>by
    have:=ha (i+1) (by omega) q';rw[show d+1+i=d+(i+1)from by omega,this];show w.tape _ q'=w.tape _ q';congr 1;show w.drawn+(i+1)=w.drawn+1+i;omega)
   rw[show d+(j+1)=d+1+j from by omega];exact h4
 |sys c k ih =>
  intro w es hw;obtain⟨rfl,hs⟩:=hs;obtain⟨r,os,h⟩:=QM w;have h0:=h w.tape w.drawn;rw[mY]at h0;simp only[Sem.runT,h0,h];exact ih _ (hs _) {w with os:=os} _ (fun i o ho=>hw i o ho)
 |program k ih=>exact fun w es hw=>ih _ hs w es hw
 |mark m k ih=>exact fun w es hw=>ih hs.2.2 w _ hw
 |halt h=>exact fun w es _=>⟨0,rfl,rfl,fun τ d _=>rfl⟩
end
def lH (r:Bool) (c:Call):Bool :=
 match c.callee with
 |.builtin b=>oL b && (r || !isRecover b)
 |_=>true
def JF:Operand->Bool
 |.const (.int _ n)=>n == 0
 |_=>false
def okT (t:TypeId):Bool:=decide (t<230) && t != 173
def qj (r:Bool):Op->Bool
 |.ready _ | .waits _ | .entry _ | .mapEntry .. | .entryStore .. | .select .. => false
 |.makeChan _ x=>JF x
 |.convert s d _=>okT s && okT d
 |.go c=>r && lH false c
 |.call c=>lH r c
 |.defer c=>lH false c
 |.send .. | .recv .. => r
 |_=>true
def bY (r:Bool):Code->Bool
 |.region _ ops _=>ops.all fun o=>qj r o.op
 |.seq a b | .cond _ a b=>bY r a && bY r b
 |.block _ c | .loop c=>bY r c
 |.rangeFunc _ _ a b=>bY false a && bY false b
 |.scope c=>bY r c
 |.goto _=>false
 |_=>true
abbrev OC:Code->Prop:=fun c=>bY false c=true
theorem LH {r:Bool} {c:Call} (h:lH false c=true):lH r c=true:=by
 unfold lH at h |-;split<;>simp_all
theorem Tt {r:Bool} {o:Op} (h:qj false o=true):qj r o=true:=by
 cases o<;>first|exact h|exact LH h|cases h
theorem gW {r:Bool}:∀ {c:Code},bY false c=true->bY r c=true
 |.region _ ops _,h=>by
  simp only[bY,Array.all_eq_true]at h |-;exact fun i hi=>Tt (h i hi)
 |.seq a b,h=>by
  simp only[bY,Bool.and_eq_true]at h |-;exact⟨gW h.1,gW h.2⟩
 |.cond _ a b,h=>by
  simp only[bY,Bool.and_eq_true]at h |-;exact⟨gW h.1,gW h.2⟩
 |.block _ c,h=>by
  simp only[bY]at h |-;exact gW h
 |.loop c,h=>by
  simp only[bY]at h |-;exact gW h
 |.rangeFunc _ _ a b,h=>h
 |.scope c,h=>by
  simp only[bY]at h |-;exact gW h
 |.goto _,h=>h
 |.skip,_ | .label _,_ | .ret,_ | .exit _,_ | .refuse _,_=>rfl
def iC (r:Bool):Item->Prop
 |.code c | .inLoop c=>bY r c=true
 |.inRegion ops _=>(ops.all fun o=>qj r o.op)=true
 |.call .. | .extern .. => False
 |_=>True
structure qh (fr:Frame):Prop where
 todo:∀ x∈fr.todo,iC fr.roundOf.isNone x
 defers:∀ d∈fr.defers,iZ d
 kind:fr.kind=.normal\/fr.kind=.deferred
def uw (f0:FuncId):Frame->List Frame->Prop
 |fr,[]=>qh fr/\fr.roundOf=none/\fr.kind=.normal/\fr.fn=f0
 |fr,c::cs=>qh fr/\uw f0 c cs
def ED (P:Program) (S:FuncId->Prop):Prop :=
 ∀ f,S f->aau P f/\∀ fn c,P.funcs[f]? = some fn->fn.body=some c->bY true c=true
section
variable {fr fr':Frame} {mine:List Frame} {f:FuncId} {w w':World} {es es':Array Event} {r:Bool} {args:Array Value} {ρ:Operand->Value}
variable {P:Program} {S:FuncId->Prop} {f0:FuncId}
theorem uw.ok (h:uw f0 fr mine):qh fr:=by cases mine<;>exact h.1
theorem uw.set (h:uw f0 fr mine) (h':qh fr') (hr:fr'.roundOf=fr.roundOf) (hk:fr'.kind=fr.kind) (hf:fr'.fn=fr.fn):uw f0 fr' mine:=by
 cases mine with
 |nil=>exact⟨h',hr ▸ h.2.1,hk ▸ h.2.2.1,hf ▸ h.2.2.2⟩
 |cons c cs=>exact⟨h',h.2⟩
theorem uw.push (h:uw f0 fr mine) (h':qh fr'):uw f0 fr' (fr::mine):=⟨h',h⟩
theorem aZ (h:qh fr) (v:Value):qh (fr.finish v)/\(fr.finish v).roundOf=fr.roundOf/\(fr.finish v).kind=fr.kind/\(fr.finish v).fn=fr.fn:=by
 unfold Frame.finish;split
 ·rename_i ops i rest k hk;refine ⟨⟨?_,h.defers,h.kind⟩,rfl,rfl,rfl⟩;have ht:=h.todo;rw [hk] at ht;intro x hx;rcases List.mem_cons.1 hx with rfl | hx
  ·exact ht (.inRegion ops (i::rest)) (by simp)
  ·exact ht x (by simp[hx])
 ·rename_i l k hk;refine ⟨⟨?_,h.defers,h.kind⟩,rfl,rfl,rfl⟩;have ht:=h.todo;rw [hk] at ht;intro x hx;rcases List.mem_cons.1 hx with rfl | hx
  ·trivial
  ·exact ht x (by simp[hx])
 ·rename_i k hk;refine⟨⟨?_,h.defers,h.kind⟩,rfl,rfl,rfl⟩;have ht:=h.todo;rw[hk]at ht;exact fun x hx=>ht x (by simp[hx])
 ·rename_i d wr resume saved k hk;have ht:=h.todo;rw[hk]at ht;exact(ht (.call d wr resume saved) (by simp)).elim
 ·rename_i row args k hk;have ht:=h.todo;rw[hk]at ht;exact(ht (.extern row args) (by simp)).elim
 ·exact⟨h,rfl,rfl,rfl⟩
theorem dI (h:qh fr) (l:List PanicEntry):qh (fr.raise l)/\(fr.raise l).roundOf=fr.roundOf/\(fr.raise l).kind=fr.kind/\(fr.raise l).fn=fr.fn:=by
 unfold Frame.raise;split<;>exact⟨⟨h.todo,h.defers,h.kind⟩,rfl,rfl,rfl⟩
theorem akV (hS:ED P S) (hf:S f) (args:Array Value) {k:CallKind} (hk:k=.normal\/k=.deferred):qh (Frame.enter P f args k):=by
 refine⟨?_,by simp[Frame.enter],hk⟩;intro x hx;simp only[Frame.enter,List.mem_singleton]at hx;subst hx;show bY true _=true;cases hfn:P.funcs[f]? with
 |none=>rfl
 |some fn =>
  show bY true (fn.body.getD _)=true;cases hb:fn.body with
  |none=>rfl
  |some c=>exact(hS f hf).2 fn c hfn hb
theorem uh {l:Nat} {tmps:Array Value} {assign body:Code} (ha:OC assign) (hb:OC body) {k:CallKind} (hk:k=.normal\/k=.deferred):qh (Frame.round l f tmps assign body k):=by
 refine⟨?_,by simp[Frame.round],hk⟩;intro x hx;simp only[Frame.round,List.mem_cons,List.not_mem_nil,or_false]at hx;rcases hx with rfl|rfl|rfl
 ·exact ha
 ·trivial
 ·exact hb
def Loc (P:Program) {α:Type} (s:Sem α) (w:World) (es:Array Event):Prop :=
 ∃ j,(s.runT P w es).1.world.drawn=w.drawn+j/\(s.runT P w es).1.world.tape=w.tape/\∀ τ d,Agree w j τ d->s.runT P (w.re τ d) es=((s.runT P w es).1.re τ (d+j),(s.runT P w es).2)
structure Fine (P:Program) {α:Type} (φ:α->Prop) (s:Sem α) (w:World) (es:Array Event):Prop where
 facts:Facts OC φ es w.heap.size (s.runT P w es)
 loc:Loc P s w es
theorem aU {α:Type} {φ:α->Prop} {s:Sem α} (h:dL OC P φ s) (hw:ay OC w) (es:Array Event):Fine P φ s w es :=
 ⟨tK s h w es es _ hw (fun _ hx=>.inl hx) (Nat.le_refl _),xQ s h w es hw⟩
theorem lJ {α β:Type} {s:Sem α} {f:α->Sem β} {a:α} (h:s.runT P w es=(.ok a w',es')):(s >>= f).runT P w es=(f a).runT P w' es':=by
 show Sem.runT P (Sem.bind s f) w es=_;rw[Sem.runT_bind',h]
theorem jo {α β:Type} {s:Sem α} {f:α->Sem β} {a:Halt} (h:s.runT P w es=(.halt a w',es')):(s >>= f).runT P w es=(.halt a w',es'):=by
 show Sem.runT P (Sem.bind s f) w es=_;rw[Sem.runT_bind',h]
theorem oD {α β:Type} {φ:α->Prop} {ψ:β->Prop} {s:Sem α} {f:α->Sem β} (h:Fine P φ s w es)
 (hf:∀ a w' es',ay OC w'->φ a->s.runT P w es=(.ok a w',es')->Fine P ψ (f a) w' es'):Fine P ψ (s >>= f) w es:=by
 obtain⟨hfa,j,hd,ht,hl⟩:=h;cases hr:s.runT P w es with
 | mk r es' =>
  cases r with
  |halt a w' =>
   rw[hr]at hfa hd ht hl;refine⟨?_,j,?_,?_,fun τ d ha=>?_⟩
   ·rw[jo hr];exact⟨hfa.nd,hfa.heap,hfa.size,hfa.leaf⟩
   ·rw[jo hr];exact hd
   ·rw[jo hr];exact ht
   ·rw[jo hr,jo (hl τ d ha)];rfl
  | ok a w' =>
   rw[hr]at hfa hd ht hl;obtain⟨hfb,j',hd',ht',hl'⟩:=hf a w' es' hfa.heap hfa.leaf hr;refine⟨?_,j+j',?_,?_,fun τ d ha=>?_⟩
   ·rw [lJ hr];refine ⟨fun x hx=>?_,hfb.heap,Nat.le_trans hfa.size hfb.size,hfb.leaf⟩;rcases hfb.nd x hx with h1 | h1
    ·exact hfa.nd x h1
    ·exact .inr h1
   ·rw[lJ hr,hd'];have:w'.drawn=w.drawn+j:=hd;omega
   ·rw[lJ hr,ht'];exact ht
   ·rw [lJ hr,lJ (hl τ d (ha.mono (by omega)))];have h2:=hl' τ (d+j) (fun i hi q=>by
     have hd1:w'.drawn=w.drawn+j:=hd;have ht1:w'.tape=w.tape:=ht;rw[hd1,ht1,show d+j+i=d+(j+i)from by omega,ha (j+i) (by omega) q,show w.drawn+(j+i)=w.drawn+j+i from by omega])
    rw[show d+(j+j')=d+j+j' from by omega];exact h2
theorem jC {α:Type} {s:Sem α} {r:Result α} (h:s.runT P w es=(r,es')):s.run P w=r:=by
 have:=Sem.runT_eq P s w es;rw[h]at this;exact(congrArg Prod.fst this).symm
def BM (r:Bool):Target->Prop
 |.builtin b .. => oL b=true/\(isRecover b=true->r=true)
 |.coroexit _=>False
 |_=>True
theorem uy (hS:ED P S) {recv:Value} {name:String} (hw:ay OC w)
 (hl:∀ u v f x w',recv=.iface u v->(method (P.types.size+Made.depth) u v name).run P w=.ok (f,x) w'->S f):Fine P (jM OC S r) (callMethod recv name args) w es:=by
 cases recv with
 | iface u v =>
  show Fine P _ (program >>= fun p=>method (p.types.size+Made.depth) u v name >>= fun x=>callFunc x.1 (#[x.2] ++ args)) w es;refine oD (aU (φ:=fun p=>p=P) (by exact rfl) hw es) fun p w1 es1 hw1 hp h1=>?_
  subst hp;have e1:w1=w:=by
   have:=jC h1;simp[program,Sem.run]at this;exact this.symm
  subst e1;refine oD (aU (φ:=fun _=>True) (Calm.t OC _) hw1 es1) fun x w2 es2 hw2 _ h2=>?_
  exact aU (qH (hS _ (hl u v x.1 x.2 w2 rfl (jC h2))).1 (hl u v x.1 x.2 w2 rfl (jC h2)) _) hw2 es2
 |nilIface=>exact aU (by unfold callMethod;exact dN _) hw es
 |_=>exact aU (by unfold callMethod;exact kC) hw es
theorem uT (hS:ED P S) {t:Target} (ht:BM r t) (hw:ay OC w) (hl:∀ f,t.leads P w args=some f->S f) :
  Fine P (jM OC S r) (invoke t args) w es:=by
 unfold invoke;cases t with
 |nil=>exact aU (dN _) hw es
 |builtin b ats ty cs=>exact aU (IL ht.1 ht.2 _ _ _ _) hw es
 |coroexit c=>exact ht.elim
 |collected b=>exact aU kC hw es
 | fn g captured =>
  cases g with
  |func f=>exact aU (qH (hS f (hl f rfl)).1 (hl f rfl) _) hw es
  |yield l=>exact aU Ot hw es
  | via u path f pointer =>
   dsimp only;cases h0:args[0]? with
   |none=>exact aU kC hw es
   |some x =>
    refine oD (aU (φ:=fun _=>True) (Calm.t OC _) hw es) fun y w1 es1 hw1 _ _=>?_
    exact aU (qH (hS f (hl f rfl)).1 (hl f rfl) _) hw1 es1
  | method name =>
   dsimp only;cases h0:args[0]? with
   |none=>exact aU kC hw es
   |some recv =>
    refine uy hS hw fun u v f x w' hr hm=>hl f ?_
    subst hr;simp[Target.leads,h0,hm]
  | methodOf u name =>
   dsimp only;cases h0:args[0]? with
   |none=>exact aU kC hw es
   | some receiver =>
    refine oD (aU (φ:=fun _=>True) (Calm.t OC _) hw es) fun y w1 es1 hw1 _ h1=>?_
    have hrun:=jC h1;simp only[underlying,Sem.run_bind,run_program,Result.andThen_ok]at hrun;cases hu:P.underlying u with
    |none=>rw[hu]at hrun;cases hrun
    | some desc =>
     rw[hu]at hrun;cases hrun;have hl':∀ u' v f x w',(match y with|TypeDesc.interface _=>receiver|_=>Value.iface u receiver)=Value.iface u' v->(method (P.types.size+Made.depth) u' v name).run P w=.ok (f,x) w'->S f:=by
      intro u' v f x w' hr hm;refine hl f ?_;simp only[Target.leads,h0,hu,Option.map_some];cases y<;>simp_all
     cases y<;>exact uy hS hw1 hl'
theorem lM {c:Call} {t:TypeId} (hc:lH r c=true):dL OC P (fun d=>BM r d.target) (resolve ρ c t):=by
 unfold resolve;unfold lH at hc;cases hcc:c.callee with
 |builtin b =>
  rw[hcc]at hc;simp only[Bool.and_eq_true,Bool.or_eq_true,Bool.not_eq_true']at hc;exact⟨hc.1,fun h=>hc.2.resolve_right (by simp[h])⟩
 |value f =>
  show dL OC P _ (Deferred.ofValue _ _);unfold Deferred.ofValue;split<;>trivial
 |invoke x n=>trivial
theorem G6 {d:Deferred} (h:iZ d):BM false d.target:=by
 unfold iZ at h;unfold BM;split<;>simp_all
theorem rU {d:Deferred} (h:BM false d.target):iZ d:=by
 unfold iZ;unfold BM at h;split<;>simp_all
theorem vC (hS:ED P S) (hρ:∀ v,ρ (.const v)=v) {o:Oper} (ho:qj r o.op=true) (hw:ay OC w)
 (hl:∀ f,o.about P w ρ=some f->S f):Fine P (jM OC S r) (execOp ρ o) w es:=by
 unfold Oper.about at hl;unfold execOp;cases hop:o.op<;>rw[hop]at ho hl<;>dsimp only[qj]at ho<;>first
  |(cases ho;done)
  |exact aU (tX inferInstance) hw es
  |exact aU (RJ inferInstance) hw es
  |(refine aU (φ:=jM OC S r) (jH ?_) hw es;exact trivial)
  |skip
 case pick c a b =>
  refine aU (fU (s:=asBool (ρ c)) inferInstance fun _=>jH ?_) hw es;trivial
 case send ch x=>exact aU (jH ⟨ho,rfl,_,rfl⟩) hw es
 case recv ty ch ok =>
  refine aU (fU inferInstance fun d=>?_) hw es;cases d<;>first|exact kC|skip
  exact fU inferInstance fun z=>jH ⟨ho,rfl,_,rfl⟩
 case makeChan ty x =>
  refine aU (tX ?_) hw es;unfold JF at ho;split at ho
  ·rename_i k n;have hn:n=0:=by simpa using ho
   subst hn;rw[hρ];unfold Instr.makeChan;show Calm (underlying ty >>= _);refine gQ inferInstance fun d=>?_
   cases d <;> first | exact (Oy:Calm (stuck "MakeChan: channel type expected" : Sem Value)) | skip
   dsimp only;refine gQ inferInstance fun ti=>?_
   split
   ·refine gQ ⟨fun C P=>dN _⟩ fun _=>?_
    exact gQ (AX fun _=>⟨rfl,rfl,rfl⟩) fun _=>inferInstance
   ·exact gQ (AX fun _=>⟨rfl,rfl,rfl⟩) fun _=>inferInstance
  ·cases ho
 case nilCheck x =>
  refine aU ?_ hw es;dsimp only;repeat' (first|exact dN _|(refine fU inferInstance fun _=>?_)|split|trivial)
 case call c =>
  refine oD (aU (lM ho) hw es) fun d w1 es1 hw1 hd h1=>?_
  have hrun:=jC h1;refine uT hS hd hw1 fun f hf=>hl f ?_
  dsimp only;rw[hrun];exact hf
 next c =>
  simp only[Bool.and_eq_true]at ho;exact aU (dL.bind (ψ:=jM OC S r) (fun d _=>jH (show jM OC S r (.spawn d)from ho.1)) (lM ho.2)) hw es
 next c =>
  refine aU (dL.bind (fun d hd=>jH ?_) (lM ho)) hw es;exact rU hd
end
open Go.Conc (G)
def CP:GStep->Prop
 |.go g _ _=>g.status=.running/\∃ d,g.dying=some d/\d.calling=false/\d.todo=[]
 |.ended .. | .spawn .. => True
 |.comm _ cases b _ w _=>(b=true/\∃ c,cases=#[c])/\ay OC w
 |_=>False
def Moves (f0:FuncId) (F:Bool->List Frame->World->GStep) (mine:List Frame) (w:World) (j:Nat):Prop :=
 (∃ fr' mine' w' es,uw f0 fr' mine'/\ay OC w'/\(∀ e∈es,ND e)/\w.heap.size<=w'.heap.size/\w'.drawn=w.drawn+j/\w'.tape=w.tape /\
  ∀ main cs τ d,Agree w j τ d->F main (mine ++ cs) (w.re τ d)=.go (G fr' (mine' ++ cs)) (w'.re τ (d+j)) es) \/
 (∀ cs τ d,Agree w j τ d->CP (F true (mine ++ cs) (w.re τ d)))
def Result.on {α:Type} (r:Result α) (w:World):Result α :=
 match r with
 |.ok a _=>.ok a w
 |.halt h _=>.halt h w
theorem aaP {α:Type} (r:Result α) (τ:Nat->Question->Nat) (d:Nat):r.re τ d=Result.on r (r.world.re τ d):=by cases r<;>rfl
theorem Qr {c:Prop} [Decidable c] {a b:GStep} (ha:CP a) (hb:CP b):CP (if c then a else b):=by split<;>assumption
theorem bW {es:Array Event} {g:GStep} (h:CP g):CP (GStep.after es g):=by
 cases g<;>exact h
theorem sU (P:Program) (fr:Frame) (cs:List Frame) (m:String) (w:World):CP (endFatal P fr cs none m w):=by
 unfold endFatal;dsimp only;split
 ·exact⟨rfl,_,rfl,rfl,rfl⟩
 ·trivial
 ·trivial
theorem wU {es:Array Event} (h:∀ x∈es,x∈(#[]:Array Event)\/ND x):∀ x∈es,ND x:=fun x hx=>(h x hx).elim (fun h=>by simp at h) id
theorem mem_seen {P:Program} {fn:FuncId} {es:Array Event} {e:Event} (h:e∈seen P fn es):e∈es:=by
 unfold seen at h;obtain⟨l⟩:=es;have key:∀ (l:List Event) (q:Bool) (kept:Array Event),e∈(l.foldl (fun(x:Bool × Array Event) e=>match e.loc with | .mark (.extern f)=>((P.funcs[f]?).any (·.norace),x.2)|_=>(x.1,if x.1 && !e.sync then x.2 else x.2.push e)) (q,kept)).2->e∈kept\/e∈l:=by
  intro l
  induction l with
  |nil=>exact fun q kept h=>.inl h
  | cons x l ih =>
   intro q kept h;rw[List.foldl_cons]at h;have:∀ q' kept',(∀ y∈kept',y∈kept\/y=x)->e∈(l.foldl (fun(x:Bool × Array Event) e=>match e.loc with | .mark (.extern f)=>((P.funcs[f]?).any (·.norace),x.2)|_=>(x.1,if x.1 && !e.sync then x.2 else x.2.push e)) (q',kept')).2->e∈kept\/e∈x::l:=by
    intro q' kept' hk h;rcases ih q' kept' h with h1|h1
    ·rcases hk e h1 with h2 | rfl
     ·exact .inl h2
     ·exact .inr (by simp)
    ·exact .inr (by simp[h1])
   revert h;dsimp only;split
   ·exact this _ _ fun y hy=>.inl hy
   ·refine this _ _ fun y hy=>?_
    split at hy
    ·exact .inl hy
    ·rcases Array.mem_push.1 hy with h1 | h1
     ·exact .inl h1
     ·exact .inr h1
 have h':=key l ((P.funcs[fn]?).any (·.norace)) #[] (by dsimp only at h;rw[<- Array.foldl_toList]at h;exact h);rcases h' with h1|h1
 ·simp at h1
 ·simpa using h1
theorem yO {P:Program} {fn:FuncId} {es:Array Event} (h:∀ x∈es,ND x):∀ x∈seen P fn es,ND x:=fun x hx=>h x (mem_seen hx)
section
variable {fr:Frame}
variable {P:Program} {S:FuncId->Prop} {f0:FuncId} {F:Bool->List Frame->World->GStep} {mine:List Frame} {w:World}
theorem jR {fr':Frame} {mine':List Frame} (h:∀ main cs w,F main (mine ++ cs) w=.go (G fr' (mine' ++ cs)) w #[]) (hst:uw f0 fr' mine') (hw:ay OC w):Moves f0 F mine w 0 :=
 .inl ⟨fr',mine',w,#[],hst,hw,by simp,Nat.le_refl _,rfl,rfl,fun main cs τ d _=>h main cs (w.re τ d)⟩
theorem kS (h:∀ cs w,CP (F true (mine ++ cs) w)):Moves f0 F mine w 0:=.inr fun _ _ _ _=>h _ _
theorem Moves.congr {F':Bool->List Frame->World->GStep} {j:Nat} (h:Moves f0 F mine w j) (he:∀ main cs w,F' main cs w=F main cs w):Moves f0 F' mine w j:=by
 have:F'=F:=by funext m c w;exact he m c w
 rw[this];exact h
theorem nK {α:Type} {φ:α->Prop} {s:Sem α} {fn:FuncId} {K:Bool->List Frame->Result α->GStep} (hs:Fine P φ s w #[])
 (hF:∀ main cs w,F main cs w=GStep.after (seen P fn (s.runT P w #[]).2) (K main cs (s.runT P w #[]).1))
 (hk:∀ r,(match r with | .ok a _=>φ a | .halt h _=>uY h)->ay OC r.world->s.run P w=r->∃ j,Moves f0 (fun main cs w=>K main cs (Result.on r w)) mine r.world j):∃ j,Moves f0 F mine w j:=by
 obtain⟨hfa,j,hd,ht,hl⟩:=hs;cases hr:s.runT P w #[]with
 | mk r es =>
  rw[hr]at hfa hd ht hl;obtain⟨j',hm⟩:=hk r hfa.leaf hfa.heap (jC hr);refine⟨j+j',?_⟩;have hag:∀ τ d,Agree w (j+j') τ d->Agree r.world j' τ (d+j):=by
   intro τ d ha i hi q;have hd1:r.world.drawn=w.drawn+j:=hd;have ht1:r.world.tape=w.tape:=ht;rw[hd1,ht1,show d+j+i=d+(j+i)from by omega,ha (j+i) (by omega) q,show w.drawn+(j+i)=w.drawn+j+i from by omega]
  have hrun:∀ main cs τ d,Agree w (j+j') τ d->F main cs (w.re τ d)=GStep.after (seen P fn es) (K main cs (Result.on r (r.world.re τ (d+j)))):=by
   intro main cs τ d ha;rw[hF,hl τ d (ha.mono (by omega)),aaP]
  rcases hm with⟨fr',mine',w',es',h1,h2,h3,h4,h5,h6,h7⟩|hb
  ·refine .inl ⟨fr',mine',w',seen P fn es ++ es',h1,h2,?_,Nat.le_trans hfa.size h4,?_,h6.trans ht,fun main cs τ d ha=>?_⟩
   ·intro e he;rcases Array.mem_append.1 he with h | h
    ·exact yO (wU hfa.nd) e h
    ·exact h3 e h
   ·have:r.world.drawn=w.drawn+j:=hd;omega
   ·have h8:=h7 main cs τ (d+j) (hag τ d ha);rw[hrun main _ τ d ha];rw[show(K main (mine ++ cs) (Result.on r (r.world.re τ (d+j))))=_ from h8];rw[show d+(j+j')=d+j+j' from by omega];rfl
  ·refine .inr fun cs τ d ha=>?_
   rw[hrun true _ τ d ha];exact bW (hb cs τ (d+j) (hag τ d ha))
theorem qw {s:Sem Next} (hS:ED P S) (hst:uw f0 fr mine) (hs:Fine P (jM OC S fr.roundOf.isNone) s w #[]) :
  ∃ j,Moves f0 (fun _ cs w=>stepG.apply P true fr cs none s w) mine w j:=by
 have hk:=hst.ok;have hearly:(fr.kind == CallKind.early)=false:=by rcases hk.kind with h|h<;>rw[h]<;>rfl
 have hno_call:∀ d r s k,fr.todo=.call d true r s::k->False:=fun d r s k h=>by
  have:=hk.todo;rw[h]at this;exact(this (.call d true r s) (by simp)).elim
 obtain⟨hfa,j,hd,ht,hl⟩:=hs;refine⟨j,?_⟩;cases hr:s.runT P w #[]with
 | mk r es =>
  rw[hr]at hfa hd ht hl;have hnd:=yO (P:=P) (fn:=fr.fn) (wU hfa.nd);cases r with
  | ok x w' =>
   have key:∀ (fr':Frame) (mine':List Frame),uw f0 fr' mine'->(∀ cs τ d,Agree w j τ d->stepG.apply P true fr (mine ++ cs) none s (w.re τ d)=.go (G fr' (mine' ++ cs)) (w'.re τ (d+j)) (seen P fr.fn es)) ->
     Moves f0 (fun _ cs w=>stepG.apply P true fr cs none s w) mine w j :=
    fun fr' mine' h1 h2=>.inl ⟨fr',mine',w',_,h1,hfa.heap,hnd,hfa.size,hd,ht,fun _ cs τ d ha=>h2 cs τ d ha⟩
   have hx:=hfa.leaf;cases x<;>first|(exact hx.elim)|skip
   case comm cases b sh =>
    refine .inr fun cs τ d ha=>?_
    unfold stepG.apply;simp only[if_true,hl τ d ha,Result.re,hearly,Bool.false_eq_true,if_false];exact bW ⟨hx.2,hfa.heap⟩
   case spawn dd =>
    refine .inr fun cs τ d ha=>?_
    unfold stepG.apply;simp only[if_true,hl τ d ha,Result.re,hearly,Bool.false_eq_true,if_false];refine bW (Qr ?_ ?_)
    ·exact⟨rfl,_,rfl,rfl,rfl⟩
    ·trivial
   case value v =>
    refine key (fr.finish v) mine (hst.set (aZ hk v).1 (aZ hk v).2.1 (aZ hk v).2.2.1 (aZ hk v).2.2.2) fun cs τ d ha=>?_
    unfold stepG.apply;simp only[if_true,hl τ d ha,Result.re,hearly,Bool.false_eq_true,if_false,GStep.after,Array.append_empty,G]
   case skip =>
    refine key (fr.finish undef) mine (hst.set (aZ hk _).1 (aZ hk _).2.1 (aZ hk _).2.2.1 (aZ hk _).2.2.2) fun cs τ d ha=>?_
    unfold stepG.apply;simp only[if_true,hl τ d ha,Result.re,hearly,Bool.false_eq_true,if_false,GStep.after,Array.append_empty,G]
   case enter f args =>
    refine key (Frame.enter P f args .normal) (fr::mine) (hst.push (akV hS hx args (.inl rfl))) fun cs τ d ha=>?_
    unfold stepG.apply;simp only[if_true,hl τ d ha,Result.re,hearly,Bool.false_eq_true,if_false,GStep.after,Array.append_empty,G,List.cons_append]
   case round l f tmps assign body =>
    refine key (Frame.round l f tmps assign body .normal) (fr::mine) (hst.push (uh hx.1 hx.2 (.inl rfl))) fun cs τ d ha=>?_
    unfold stepG.apply;simp only[if_true,hl τ d ha,Result.re,hearly,Bool.false_eq_true,if_false,GStep.after,Array.append_empty,G,List.cons_append]
   next df =>
    have h1:qh {fr with defers:=df::fr.defers}:=⟨hk.todo,fun x hxx=>(List.mem_cons.1 hxx).elim (fun h=>h ▸ hx) (hk.defers x),hk.kind⟩;have h2:=aZ h1 undef;refine key ({fr with defers:=df::fr.defers}.finish undef) mine (hst.set h2.1 h2.2.1 h2.2.2.1 h2.2.2.2) fun cs τ d ha=>?_
    unfold stepG.apply;simp only[if_true,hl τ d ha,Result.re,hearly,Bool.false_eq_true,if_false,GStep.after,Array.append_empty,G]
   case recover =>
    have hro:fr.roundOf=none:=by
     have:fr.roundOf.isNone=true:=hx;simpa using this
    have base:∀ cs τ d,Agree w j τ d->stepG.apply P true fr cs none s (w.re τ d)=GStep.after (seen P fr.fn es) (match tryRecover fr cs with
      |some (v,callers)=>.go {frame:=fr.finish v,callers,status:=.running,dying:=none} (w'.re τ (d+j))
      |none=>.go {frame:=fr.finish .nilIface,callers:=cs,status:=.running,dying:=none} (w'.re τ (d+j))):=by
     intro cs τ d ha;unfold stepG.apply;simp only[if_true,hl τ d ha,Result.re,hearly,Bool.false_eq_true,if_false,hro];rfl
    have nil:∀ v,uw f0 (fr.finish v) mine:=fun v=>hst.set (aZ hk v).1 (aZ hk v).2.1 (aZ hk v).2.2.1 (aZ hk v).2.2.2
    have hno:(∀ cs,tryRecover fr (mine ++ cs)=none)->Moves f0 (fun _ cs w=>stepG.apply P true fr cs none s w) mine w j:=by
     intro hno;refine key (fr.finish .nilIface) mine (nil _) fun cs τ d ha=>?_
     rw[base _ τ d ha,hno];simp[GStep.after,G]
    rcases hk.kind with hkk|hkk
    ·exact hno fun cs=>by unfold tryRecover;rw[hkk]
    ·cases mine with
     |nil=>have:=hst.2.2.1;rw[hkk]at this;cases this
     | cons c cs0 =>
      cases hm:c.mode with
      |run=>exact hno fun cs=>by unfold tryRecover;simp[hkk,hm]
      |returning=>exact hno fun cs=>by unfold tryRecover;simp[hkk,hm]
      | panicking chain =>
       cases chain with
       |nil=>exact hno fun cs=>by unfold tryRecover;simp[hkk,hm]
       | cons p older =>
        obtain⟨v,rec,ge⟩:=p;cases rec with
        |true=>exact hno fun cs=>by unfold tryRecover;simp[hkk,hm]
        | false =>
         cases ge with
         |true=>exact hno fun cs=>by unfold tryRecover;simp[hkk,hm]
         | false =>
          have hc:qh c:=hst.2.ok;have hst2:uw f0 (fr.finish v) ({c with mode:=.panicking ({v,recovered:=true}::older)}::cs0) :=
           ⟨(aZ hk v).1,hst.2.set ⟨hc.todo,hc.defers,hc.kind⟩ rfl rfl rfl⟩
          refine key (fr.finish v) _ hst2 fun cs τ d ha=>?_
          rw[base _ τ d ha];have:tryRecover fr (c::cs0 ++ cs)=some (v,{c with mode:=.panicking ({v,recovered:=true}::older)}::(cs0 ++ cs)):=by
           unfold tryRecover;simp[hkk,hm]
          rw[this];simp[GStep.after,G]
  | halt h w' =>
   have hx:=hfa.leaf;have key:∀ (l:List PanicEntry),(∀ cs τ d,Agree w j τ d->stepG.apply P true fr (mine ++ cs) none s (w.re τ d)=.go (G (fr.raise l) (mine ++ cs)) (w'.re τ (d+j)) (seen P fr.fn es)) ->
     Moves f0 (fun _ cs w=>stepG.apply P true fr cs none s w) mine w j :=
    fun l h2=>.inl ⟨fr.raise l,mine,w',_,hst.set (dI hk l).1 (dI hk l).2.1 (dI hk l).2.2.1 (dI hk l).2.2.2,hfa.heap,hnd,hfa.size,hd,ht,fun _ cs τ d ha=>h2 cs τ d ha⟩
   cases h<;>first|(exact hx.elim)|skip
   case panic v =>
    refine key [{v,recovered:=false}] fun cs τ d ha=>?_
    unfold stepG.apply;simp only[if_true,hl τ d ha,Result.re,hearly,Bool.false_eq_true,if_false,GStep.after,Array.append_empty,G]
   case goexit =>
    refine key [goexitEntry] fun cs τ d ha=>?_
    unfold stepG.apply;simp only[if_true,hl τ d ha,Result.re,hearly,Bool.false_eq_true,if_false,GStep.after,Array.append_empty,G]
   all_goals
    refine .inr fun cs τ d ha=>?_
    unfold stepG.apply;simp only[if_true,hl τ d ha,Result.re,hearly,Bool.false_eq_true,if_false]
   case exit c=>exact bW trivial
   case fatal m=>exact bW (sU _ _ _ _ _)
   case throw m=>exact bW ⟨rfl,_,rfl,rfl,rfl⟩
   case unsupported u=>cases u<;>first|exact hx.elim|exact bW trivial
   case stuck m=>exact bW trivial
theorem Ey {x:Item} {k:List Item} (h:qh fr) (hk:fr.todo=x::k):iC fr.roundOf.isNone x/\∀ y∈k,iC fr.roundOf.isNone y:=by
 have:=h.todo;rw[hk]at this;exact⟨this x (by simp),fun y hy=>this y (by simp[hy])⟩
theorem AL (h:qh fr) {todo:List Item} (ht:∀ x∈todo,iC fr.roundOf.isNone x):qh {fr with todo}:=⟨ht,h.defers,h.kind⟩
theorem GX {r:Bool} {id:Nat}:∀ {k k':List Item},exitTo id k=some k'->(∀ y∈k,iC r y)->∀ y∈k',iC r y:=by
 intro k
 induction k with
 |nil=>intro k' h;simp[exitTo]at h
 | cons x k ih =>
  intro k' h hk;have hk':∀ y∈k,iC r y:=fun y hy=>hk y (by simp[hy])
  cases x<;>simp only[exitTo]at h<;>first
   |exact ih h hk'
   | (split at h
      ·cases h;exact hk'
      ·exact ih h hk')
theorem pU {c:Frame} {rest:List Frame} {v:Value} (hk:fr.kind=.normal\/fr.kind=.deferred) (hst:uw f0 c rest) :
  ∃ c',uw f0 c' rest/\∀ main cs w,doReturn P main fr (c::rest ++ cs) none v w=.go (G c' (rest ++ cs)) w #[]:=by
 rcases hk with hk|hk
 ·exact⟨c.finish v,hst.set (aZ hst.ok v).1 (aZ hst.ok v).2.1 (aZ hst.ok v).2.2.1 (aZ hst.ok v).2.2.2,fun main cs w=>by
   simp only[doReturn,List.cons_append,hk,G]⟩
 ·refine ⟨match c.mode with
    |.panicking ({recovered:=true,.. }::older) =>
     match older.dropWhile (!·.goexit)with
     | []=>{c with mode:=.returning}
     |rest=>{c with mode:=.panicking rest}
    |_=>c,?_,fun main cs w=>by simp only[doReturn,List.cons_append,hk,G];rfl⟩
  have hm:∀ m,uw f0 {c with mode:=m} rest:=fun m=>hst.set ⟨hst.ok.todo,hst.ok.defers,hst.ok.kind⟩ rfl rfl rfl
  split
  ·split
   ·exact hm _
   ·exact hm _
  ·exact hst
def Aw:Option Code->Bool
 |none|some .ret=>true
 |_=>false
theorem vM {jump:Option Code} (hst:uw f0 fr mine) (hw:ay OC w) (hj:∀ c,jump=some c->OC c)
  (hF:∀ main cs w,F main cs w=(match fr.roundOf with
   | none=>if Aw jump then .go (G { fr with mode:=.returning } cs) w else .ended (.stuck "exit, goto: no such block or label" (fr.pos P)) w
   |some l =>
    let(r,es):=(Instr.endRound l jump).runT P w #[]
    GStep.after (seen P fr.fn es) <| match r with
    |.ok v w=>doReturn P main fr cs none v w
    | .halt _ w=>.ended (.stuck "range over a function: no such loop" (fr.pos P)) w)):∃ j,Moves f0 F mine w j:=by
 cases hro:fr.roundOf with
 |none =>
  by_cases h:Aw jump=true
  ·refine⟨0,jR (fr':={fr with mode:=.returning}) (mine':=mine) (fun main cs w=>?_) (hst.set ⟨hst.ok.todo,hst.ok.defers,hst.ok.kind⟩ rfl rfl rfl) hw⟩;rw[hF,hro];simp only[h,if_true]
  ·refine⟨0,kS fun cs w=>?_⟩;rw[hF,hro];simp only[h];trivial
 | some l =>
  cases mine with
  |nil=>have:=hst.2.1;rw[hro]at this;cases this
  | cons c rest =>
   refine nK (fn:=fr.fn) (K:=fun main cs r=>match r with
    |.ok v w=>doReturn P main fr cs none v w
    | .halt _ w=>.ended (.stuck "range over a function: no such loop" (fr.pos P)) w) (aU (Gl hj) hw #[]) (fun main cs w=>by rw [hF,hro]) fun r hr hhr _=>?_
   cases r with
   |ok v w' =>
    obtain⟨c',h1,h2⟩:=pU (P:=P) (v:=v) hst.ok.kind hst.2;exact⟨0,jR (fun main cs w=>h2 main cs w) h1 hhr⟩
   |halt h w'=>exact⟨0,kS fun cs w=>trivial⟩
theorem Oo (hS:ED P S) (hst:uw f0 fr mine) (hw:ay OC w) (hm:fr.mode=.run) (hl:∀ f,fr.about P w=some f->S f) :
  ∃ j,Moves f0 (fun main cs w=>stepG.exec P main true fr cs none w) mine w j:=by
 have hk:=hst.ok;have to:∀ {todo:List Item} (h:∀ main cs w,stepG.exec P main true fr cs none w=.go (G {fr with todo} cs) w #[]) (ht:∀ x∈todo,iC fr.roundOf.isNone x),
   ∃ j,Moves f0 (fun main cs w=>stepG.exec P main true fr cs none w) mine w j :=
  fun h ht=>⟨0,jR (fun main cs w=>h main _ w) (hst.set (AL hk ht) rfl rfl rfl) hw⟩
 have bad:(∀ main cs w,CP (stepG.exec P main true fr cs none w))->∃ j,Moves f0 (fun main cs w=>stepG.exec P main true fr cs none w) mine w j :=
  fun h=>⟨0,kS fun cs w=>h _ _ w⟩
 cases htd:fr.todo with
 |nil=>exact vM (jump:=none) hst hw (by simp) fun main cs w=>by simp only[stepG.exec,htd];cases fr.roundOf<;>rfl
 | cons x k =>
  obtain⟨hx,hkk⟩:=Ey hk htd;cases x with
  |call d wr res sv=>exact hx.elim
  |extern row args=>exact hx.elim
  |inScope c=>exact to (todo:=k) (fun main cs w=>by simp only[stepG.exec,htd,G]) hkk
  |inBlock id=>exact to (todo:=k) (fun main cs w=>by simp only[stepG.exec,htd,G]) hkk
  | inLoop body =>
   refine to (todo:=.code body::.inLoop body::k) (fun main cs w=>by simp only[stepG.exec,htd,G]) fun y hy=>?_
   rcases List.mem_cons.1 hy with rfl|hy
   ·exact hx
   ·rcases List.mem_cons.1 hy with rfl | hy
    ·exact hx
    ·exact hkk y hy
  |beginRound =>
   refine (qw (S:=S) hS hst (s:=do fr.roundOf.elim (stuck "beginRound: no round") Instr.beginRound;pure .skip) ?_).imp fun j h=>h.congr fun main cs w=>by simp only [stepG.exec,htd]
   cases hro:fr.roundOf with
   |none=>exact aU (dL.bind (φ:=fun _=>True) (fun _ _=>jH (show jM OC S _ .skip from trivial)) (by exact kC)) hw #[]
   |some l=>exact aU (dL.bind (fun _ _=>jH (show jM OC S _ .skip from trivial)) (BQ (l:=l))) hw #[]
  |inRangeFunc l=>exact bad fun main cs w=>by simp only[stepG.exec,htd];trivial
  | endRangeFunc l =>
   refine nK (fn:=fr.fn) (K:=fun main cs r=>match r with
    |.ok jump w=>.go (G {fr with todo:=(jump.map Item.code).toList ++ k} cs) w
    |.halt (.panic v) w=>.go (G (fr.raise [{v,recovered:=false}]) cs) w
    | .halt _ w=>.ended (.stuck "range over a function: no such loop" (fr.pos P)) w) (aU Jr hw #[]) (fun main cs w=>by simp only [stepG.exec,htd,G];rfl) fun r hr hhr _=>?_
   cases r with
   | ok jump w' =>
    refine⟨0,jR (fun main cs w=>rfl) (hst.set (AL hk fun y hy=>?_) rfl rfl rfl) hhr⟩;rcases List.mem_append.1 hy with hy|hy
    ·cases jump with
     |none=>simp at hy
     |some c =>
      simp only[Option.map_some,Option.toList_some,List.mem_singleton]at hy;subst hy;exact gW (hr c rfl)
    ·exact hkk y hy
   |halt h w' =>
    cases h with
    |panic v=>exact⟨0,jR (fun main cs w=>rfl) (hst.set (dI hk _).1 (dI hk _).2.1 (dI hk _).2.2.1 (dI hk _).2.2.2) hhr⟩
    |_=>exact⟨0,kS fun cs w=>trivial⟩
  | inRegion ops todo =>
   cases todo with
   |nil=>exact to (todo:=k) (fun main cs w=>by simp only[stepG.exec,htd,G]) hkk
   | cons i rest =>
    by_cases hwt:(((ops[i]?).map (Region.wanted · (yielded ops fr.tmps))).getD false)=true
    ·cases hop:ops[i]? with
     |none=>rw[hop]at hwt;cases hwt
     | some o =>
      have hoo:qj fr.roundOf.isNone o.op=true:=by
       have hx':(ops.all fun o=>qj fr.roundOf.isNone o.op)=true:=hx;rw[Array.all_eq_true]at hx';obtain⟨hi,rfl⟩:=Array.getElem?_eq_some_iff.1 hop;exact hx' i hi
      have hfo:fr.oper? = some o:=by unfold Frame.oper?;rw[htd];exact hop
      have hab:∀ f,o.about P w fr.eval=some f->S f:=by
       intro f hf;refine hl f ?_;unfold Frame.about;simp only[hm,htd,hop];exact hf
      by_cases hdf:∃ l c,fr.roundOf=some l/\o.op=.defer c
      ·obtain ⟨l,c,hro,hoc⟩:=hdf;have hoc':lH false c=true:=by rw [hoc] at hoo;exact hoo
       refine(qw (S:=S) hS hst (s:=do Instr.deferInRound l (<- resolve fr.eval c o.type);pure .skip) ?_).imp fun j h=>h.congr fun main cs w=>by
        simp only[stepG.exec,htd,hwt,if_true,stepG.oper,hfo,hro,hoc]
       refine aU ?_ hw #[];refine dL.bind (fun d hd=>?_) (lM hoc');refine dL.bind (fun _ _=>jH (show jM OC S _ .skip from trivial)) (y7 (rU hd))
      ·refine (qw (S:=S) hS hst (s:=execOp fr.eval o) (vC hS (fun _=>rfl) hoo hw hab)).imp fun j h=>h.congr fun main cs w=>?_
       simp only[stepG.exec,htd,hwt,if_true,stepG.oper,hfo];split
       ·rename_i l c h1 h2;exact(hdf ⟨l,c,h1,h2⟩).elim
       ·rfl
    ·refine⟨0,jR (fun main cs w=>?_) (hst.set (aZ hk undef).1 (aZ hk undef).2.1 (aZ hk undef).2.2.1 (aZ hk undef).2.2.2) hw⟩;simp only[stepG.exec,htd,hwt,G];rfl
  | code c =>
   have hc:bY fr.roundOf.isNone c=true:=hx;cases c with
   |ret=>exact vM (jump:=some .ret) hst hw (by rintro c h;cases h;rfl) fun main cs w=>by simp only[stepG.exec,htd];cases fr.roundOf<;>rfl
   |skip=>exact to (todo:=k) (fun main cs w=>by simp only[stepG.exec,htd,G]) hkk
   |label l=>exact to (todo:=k) (fun main cs w=>by simp only[stepG.exec,htd,G]) hkk
   | seq a b =>
    simp only[bY,Bool.and_eq_true]at hc;refine to (todo:=.code a::.code b::k) (fun main cs w=>by simp only[stepG.exec,htd,G]) fun y hy=>?_
    rcases List.mem_cons.1 hy with rfl|hy
    ·exact hc.1
    ·rcases List.mem_cons.1 hy with rfl | hy
     ·exact hc.2
     ·exact hkk y hy
   | cond e a b =>
    simp only[bY,Bool.and_eq_true]at hc;by_cases hb:∃ b,fr.eval e=.bool b
    ·obtain ⟨t,ht⟩:=hb;refine to (todo:=.code (if t then a else b)::k) (fun main cs w=>by simp only [stepG.exec,htd,ht,G]) fun y hy=>?_
     rcases List.mem_cons.1 hy with rfl|hy
     ·show bY _ _=true;cases t
      ·exact hc.2
      ·exact hc.1
     ·exact hkk y hy
    ·refine bad fun main cs w=>?_
     simp only[stepG.exec,htd];split
     ·rename_i b' h';exact(hb ⟨b',h'⟩).elim
     ·trivial
   | block id body =>
    refine to (todo:=.code body::.inBlock id::k) (fun main cs w=>by simp only[stepG.exec,htd,G]) fun y hy=>?_
    rcases List.mem_cons.1 hy with rfl|hy
    ·exact hc
    ·rcases List.mem_cons.1 hy with rfl | hy
     ·trivial
     ·exact hkk y hy
   | loop body =>
    refine to (todo:=.code body::.inLoop body::k) (fun main cs w=>by simp only[stepG.exec,htd,G]) fun y hy=>?_
    rcases List.mem_cons.1 hy with rfl|hy
    ·exact hc
    ·rcases List.mem_cons.1 hy with rfl | hy
     ·exact hc
     ·exact hkk y hy
   | scope body =>
    refine to (todo:=.code body::.inScope body::k) (fun main cs w=>by simp only[stepG.exec,htd,G]) fun y hy=>?_
    rcases List.mem_cons.1 hy with rfl|hy
    ·exact hc
    ·rcases List.mem_cons.1 hy with rfl | hy
     ·trivial
     ·exact hkk y hy
   |goto l=>cases hc
   |exit id =>
    cases he:exitTo id k with
    |some k'=>exact to (todo:=k') (fun main cs w=>by simp only[stepG.exec,htd,he,Option.elim_some,G]) (GX he hkk)
    |none=>exact vM (jump:=some (.exit id)) hst hw (by rintro c h;cases h;rfl) fun main cs w=>by simp only[stepG.exec,htd,he,Option.elim_none];cases fr.roundOf<;>rfl
   |refuse why=>exact bad fun main cs w=>by simp only[stepG.exec,htd];trivial
   | region id ops draw =>
    have hops:(ops.all fun o=>qj fr.roundOf.isNone o.op)=true:=hc;cases draw with
    |false =>
     refine to (todo:=.inRegion ops (List.range ops.size)::k) (fun main cs w=>by simp only[stepG.exec,htd,G];rfl) fun y hy=>?_
     rcases List.mem_cons.1 hy with rfl|hy
     ·exact hops
     ·exact hkk y hy
    | true =>
     refine⟨1,.inl ⟨{fr with todo:=.inRegion ops (Region.schedule (P.follows .mixedOrders) ops (w.tape w.drawn (.order fr.fn id)))::k},mine,{w with drawn:=w.drawn+1},#[],hst.set (AL hk fun y hy=>?_) rfl rfl rfl,hw,by simp,Nat.le_refl _,rfl,rfl,fun main cs τ d ha=>?_⟩⟩
     ·rcases List.mem_cons.1 hy with rfl | hy
      ·exact hops
      ·exact hkk y hy
     ·have h0:=ha 0 (by omega) (.order fr.fn id);simp only[Nat.add_zero]at h0;simp only[stepG.exec,htd,G,choose,Sem.run,Question.forced,Question.cut,QH,Ko,h0,Bool.not_true,Bool.false_eq_true,if_false];rfl
   | rangeFunc f params assign body =>
    simp only[bY,Bool.and_eq_true]at hc;refine nK (fn:=fr.fn) (K:=fun main cs r=>match r with
     | .ok (l,mark) w=>stepG.apply P true { fr with todo:=.inRangeFunc l::k,defers:=mark ++ fr.defers } cs none (do
       let d <- resolve ({fr with todo:=.inRangeFunc l::k,defers:=mark ++ fr.defers}:Frame).eval {callee:=.value f,args:=#[.const (.func (.yield l) #[] #[])],argTypes:=#[]} 0
       invoke d.target d.args) w
     | .halt _ w=>.ended (.stuck "range over a function: no such loop" (fr.pos P)) w) (aU (FM hc.1 hc.2) hw #[]) (fun main cs w=>by simp only [stepG.exec,htd];rfl) fun r hr hhr hrun=>?_
    cases r with
    |halt h w'=>exact⟨0,kS fun cs w=>trivial⟩
    | ok lm w' =>
     obtain⟨l,mark⟩:=lm;have hfr:qh {fr with todo:=.inRangeFunc l::k,defers:=mark ++ fr.defers}:=by
      refine⟨fun y hy=>?_,fun d hd=>?_,hk.kind⟩
      ·rcases List.mem_cons.1 hy with rfl | hy
       ·trivial
       ·exact hkk y hy
      ·exact(List.mem_append.1 hd).elim (hr d) (hk.defers d)
     refine qw (S:=S) hS (hst.set hfr rfl rfl rfl) ?_;have heval:({fr with todo:=.inRangeFunc l::k,defers:=mark ++ fr.defers}:Frame).eval=fr.eval:=by funext x;cases x<;>rfl
     rw[heval];refine oD (aU (lM (r:=fr.roundOf.isNone) rfl) hhr #[]) fun d w1 es1 hw1 hd h1=>?_
     have hrun1:(resolve fr.eval {callee:=.value f,args:=#[.const (.func (.yield l) #[] #[])],argTypes:=#[]} 0).run P w'=.ok d w1:=jC h1;refine uT hS hd hw1 fun g hg=>hl g ?_
     unfold Frame.about;simp only[hm,htd,hrun,hrun1];exact hg
theorem yu {fr:Frame} {df:Deferred} (hS:ED P S) (hst:uw f0 fr mine) (hw:ay OC w) (hd:iZ df) (hl:∀ f,df.target.leads P w df.args=some f->S f) :
  ∃ j,Moves f0 (fun _ cs w=>callDeferred P fr cs none df w) mine w j:=by
 have hk:=hst.ok;by_cases hnil:df.target=.nil/\∃ chain,fr.mode=.panicking chain
 ·obtain⟨h1,chain,h2⟩:=hnil;exact⟨0,kS fun cs w=>by unfold callDeferred;simp only[h1,h2];trivial⟩
 have hs:Fine P (jM OC S false) (invoke df.target df.args) w #[]:=uT hS (G6 hd) hw hl;obtain⟨hfa,j,hdr,ht,hloc⟩:=hs;refine⟨j,?_⟩;cases hr:(invoke df.target df.args).runT P w #[]with
 | mk r es =>
  rw[hr]at hfa hdr ht hloc;have hnd:=yO (P:=P) (fn:=fr.fn) (wU hfa.nd);cases r with
  | ok x w' =>
   have key:∀ (fr':Frame) (mine':List Frame),uw f0 fr' mine'->(∀ cs τ d',Agree w j τ d'->callDeferred P fr (mine ++ cs) none df (w.re τ d')=.go (G fr' (mine' ++ cs)) (w'.re τ (d'+j)) (seen P fr.fn es)) ->
     Moves f0 (fun _ cs w=>callDeferred P fr cs none df w) mine w j :=
    fun fr' mine' h1 h2=>.inl ⟨fr',mine',w',_,h1,hfa.heap,hnd,hfa.size,hdr,ht,fun _ cs τ d ha=>h2 cs τ d ha⟩
   have hx:=hfa.leaf;cases x<;>first|(exact hx.elim)|skip
   case recover=>cases (show false=true from hx)
   case enter f args =>
    refine key (Frame.enter P f args .deferred) (fr::mine) (hst.push (akV hS hx args (.inr rfl))) fun cs τ d ha=>?_
    unfold callDeferred;rw[if_neg (by intro h;apply hnil;revert h;cases df.target<;>cases fr.mode<;>simp)];simp only[hloc τ d ha,Result.re,GStep.after,Array.append_empty,G,List.cons_append]
   case round l f tmps assign body =>
    refine key (Frame.round l f tmps assign body .deferred) (fr::mine) (hst.push (uh hx.1 hx.2 (.inr rfl))) fun cs τ d ha=>?_
    unfold callDeferred;rw[if_neg (by intro h;apply hnil;revert h;cases df.target<;>cases fr.mode<;>simp)];simp only[hloc τ d ha,Result.re,GStep.after,Array.append_empty,G,List.cons_append]
   all_goals
    refine key fr mine hst fun cs τ d ha=>?_
    unfold callDeferred;rw[if_neg (by intro h;apply hnil;revert h;cases df.target<;>cases fr.mode<;>simp)];simp only[hloc τ d ha,Result.re,GStep.after,Array.append_empty,G]
  | halt h w' =>
   have hx:=hfa.leaf;have key:∀ (l:List PanicEntry),(∀ cs τ d',Agree w j τ d'->callDeferred P fr (mine ++ cs) none df (w.re τ d')=.go (G (fr.raise l) (mine ++ cs)) (w'.re τ (d'+j)) (seen P fr.fn es)) ->
     Moves f0 (fun _ cs w=>callDeferred P fr cs none df w) mine w j :=
    fun l h2=>.inl ⟨fr.raise l,mine,w',_,hst.set (dI hk l).1 (dI hk l).2.1 (dI hk l).2.2.1 (dI hk l).2.2.2,hfa.heap,hnd,hfa.size,hdr,ht,fun _ cs τ d ha=>h2 cs τ d ha⟩
   cases h<;>first|(exact hx.elim)|skip
   case panic v =>
    refine key [{v,recovered:=false}] fun cs τ d ha=>?_
    unfold callDeferred;rw[if_neg (by intro h;apply hnil;revert h;cases df.target<;>cases fr.mode<;>simp)];simp only[hloc τ d ha,Result.re,GStep.after,Array.append_empty,G]
   case goexit =>
    refine key [goexitEntry] fun cs τ d ha=>?_
    unfold callDeferred;rw[if_neg (by intro h;apply hnil;revert h;cases df.target<;>cases fr.mode<;>simp)];simp only[hloc τ d ha,Result.re,GStep.after,Array.append_empty,G]
   all_goals
    refine .inr fun cs τ d ha=>?_
    unfold callDeferred;dsimp only;rw[if_neg (by intro h;apply hnil;revert h;cases df.target<;>cases fr.mode<;>simp)];simp only[hloc τ d ha,Result.re]
   case exit c=>exact bW trivial
   case fatal m=>exact bW (sU _ _ _ _ _)
   case throw m=>exact bW ⟨rfl,_,rfl,rfl,rfl⟩
   case unsupported u=>exact bW trivial
   case stuck m=>exact bW trivial
theorem lD (fn:Func) (tmps:Array Value):Calm (results fn tmps):=by
 unfold results;refine gQ (TI _ (fun c=>?_) _) fun vs=>inferInstance
 split
 ·infer_instance
 ·infer_instance
theorem I8 (hS:ED P S) (hst:uw f0 fr mine) (hw:ay OC w) (hm:fr.mode≠.run) (hbase:mine=[]->fr.defers≠[]) (hl:∀ f,fr.about P w=some f->S f) :
  ∃ j,Moves f0 (fun main cs w=>unwind P main fr cs none w) mine w j:=by
 have hk:=hst.ok;cases hds:fr.defers with
 | cons d ds =>
  have hdd:iZ d:=hk.defers d (by simp[hds]);have hds':qh {fr with defers:=ds}:=⟨hk.todo,fun x hx=>hk.defers x (by simp[hds,hx]),hk.kind⟩;by_cases hcol:∃ b,d.target=.collected b
  ·obtain ⟨b,hb⟩:=hcol;obtain ⟨tg,args⟩:=d;dsimp only at hb;subst hb;refine nK (fn:=fr.fn) (K:=fun main cs r=>match r with
    |.ok calls w=>.go (G {fr with defers:=calls ++ ds} cs) w
    | .halt _ w=>.ended (.stuck "the deferred calls of a range-over-func loop have been taken" (fr.pos P)) w) (aU zI hw #[]) (fun main cs w=>by simp only [unwind,hds,G];rfl) fun r hr hhr _=>?_
   cases r with
   |ok calls w' =>
    refine⟨0,jR (fun main cs w=>rfl) (hst.set ⟨hk.todo,fun x hx=>?_,hk.kind⟩ rfl rfl rfl) hhr⟩;exact(List.mem_append.1 hx).elim (hr x) (hds'.defers x)
   |halt h w'=>exact⟨0,kS fun cs w=>trivial⟩
  ·refine (yu (df:=d) hS (hst.set hds' rfl rfl rfl) hw hdd fun f hf=>hl f ?_).imp fun j h=>h.congr fun main cs w=>?_
   ·unfold Frame.about;cases hmm:fr.mode with
    |run=>exact(hm hmm).elim
    |_=>simp only[hds];exact hf
   ·unfold unwind;obtain⟨tg,args⟩:=d;simp only[hds];cases tg<;>first|rfl|exact(hcol ⟨_,rfl⟩).elim
 | nil =>
  cases mine with
  |nil=>exact(hbase rfl hds).elim
  | cons c rest =>
   cases hmm:fr.mode with
   |run=>exact(hm hmm).elim
   | panicking chain =>
    have hcat:fr.catches P=false:=by
     unfold Frame.catches;split
     ·rename_i d wr resume sv k h1 h2;exact(Ey hk h2).1.elim
     ·rfl
    refine⟨0,jR (fr':=c.raise chain) (mine':=rest) (fun main cs w=>?_) (hst.2.set (dI hst.2.ok chain).1 (dI hst.2.ok chain).2.1 (dI hst.2.ok chain).2.2.1 (dI hst.2.ok chain).2.2.2) hw⟩;simp only[unwind,hds,hmm,hcat,List.cons_append,G];rfl
   | returning =>
    cases hfn:P.funcs[fr.fn]? with
    |none =>
     obtain⟨c',h1,h2⟩:=pU (P:=P) (v:=fr.tmps.getD 0 undef) hk.kind hst.2;exact⟨0,jR (fun main cs w=>by simp only[unwind,hds,hmm,hfn];exact h2 main cs w) h1 hw⟩
    | some fn =>
     refine nK (fn:=fr.fn) (K:=fun main cs r=>match r with
      |.ok v w=>doReturn P main fr cs none v w
      |.halt (.stuck s) w=>.ended (.stuck s (fr.pos P)) w
      | .halt _ w=>.ended (.stuck "return: the result variables cannot be read" (fr.pos P)) w) (aU (φ:=fun _=>True) ((lD fn fr.tmps).t OC P) hw #[]) (fun main cs w=>by simp only [unwind,hds,hmm,hfn];rfl) fun r hr hhr _=>?_
     cases r with
     |ok v w' =>
      obtain⟨c',h1,h2⟩:=pU (P:=P) (v:=v) hk.kind hst.2;exact⟨0,jR (fun main cs w=>h2 main cs w) h1 hhr⟩
     |halt h w'=>cases h<;>exact⟨0,kS fun cs w=>trivial⟩
theorem moves (hS:ED P S) (hst:uw f0 fr mine) (hw:ay OC w) (hbase:mine=[]->fr.mode=.run\/fr.defers≠[]) (hl:∀ f,fr.about P w=some f->S f) :
  ∃ j,Moves f0 (fun main cs w=>stepG P main (G fr cs) w) mine w j:=by
 by_cases hm:fr.mode=.run
 ·refine (Oo hS hst hw hm hl).imp fun j h=>h.congr fun main cs w=>?_
  simp only[stepG,G,hm]
 ·refine (I8 hS hst hw hm (fun h=>(hbase h).resolve_left hm) hl).imp fun j h=>h.congr fun main cs w=>?_
  simp only[stepG,G]
end
end Go.Tm
namespace Go.Tm
open Go
open Go.Conc (G solo stepT_solo)
section
variable {w w':World} {fr:Frame} {cs:List Frame} {es:Array Event} {g:Goroutine}
variable {P:Program} {S:FuncId->Prop} {f0:FuncId}
theorem Sz {α:Type} {φ:α->Prop} {s:Sem α} (hs:dL OC P φ s) (hw:ay OC w):∃ j,(s.run P w).world.drawn=w.drawn+j/\(s.run P w).world.tape=w.tape/\ay OC (s.run P w).world/\∀ τ d,Agree w j τ d->s.run P (w.re τ d)=(s.run P w).re τ (d+j):=by
 obtain⟨j,h1,h2,h3⟩:=xQ s hs w #[] hw;have e:∀ w,(s.runT P w #[]).1=s.run P w:=fun w=>by rw[Sem.runT_eq]
 have hf:=tK s hs w #[] #[] 0 hw (by simp) (by omega);refine⟨j,by rw[<- e];exact h1,by rw[<- e];exact h2,by rw[<- e];exact hf.heap,fun τ d ha=>?_⟩;rw[<- e,<- e,h3 τ d ha]
theorem Tz {m m':Machine} (h:step P m=.next m'):m.gs.size<=m'.gs.size:=stepT_size P m m' _ h
theorem OH {I:Machine->Prop} {m m':Machine} (h:StepsIn I P m m'):m.gs.size<=m'.gs.size:=by
 induction h with
 |refl=>exact Nat.le_refl _
 |head _ hs _ ih=>exact Nat.le_trans (Tz hs) ih
theorem um {o:Outcome} (h:stepG P true (G fr cs) w=.ended o w' es):step P (lone fr cs w)=.ended o w':=by
 refine step_lone_ended (w':=w') (o:=o) ?_;rw[show stepG P true {frame:=fr,callers:=cs,status:=.running,dying:=none} w=_ from h];rfl
theorem jZ (h:stepG P true (G fr cs) w=.go g w' es):step P (lone fr cs w)=.next (solo g w'):=by
 exact Go.Conc.step_solo_go (rfl) h
theorem Ip {a:Goroutine} (h:a.status=.blocked) (m':Machine):step P (solo a w)≠.next m':=by
 simp only[step,stepT,move,ask,askOn,solo,runnable_eq,due,ahead,Goroutine.canRun];simp[List.range_succ,pure,h];generalize endWith _ _ _ _=e;cases e<;>simp
theorem Ll {c:CommCase} {sh:CommShape} (h:stepG P true (G fr cs) w=.comm g #[c] true sh w' es) (hw:ay OC w') {m1:Machine}
 (hs:step P (lone fr cs w)=.next m1):∃ a,a.status=.blocked/\m1=solo a w':=by
 have hs':(stepT P (solo (G fr cs) w)).1=.next m1:=hs;rw[stepT_solo rfl]at hs';have e0:solo (G fr cs) w=Go.Conc.crowd #[G fr cs] w none:=rfl;rw[e0]at hs';have hi:(#[G fr cs]:Array Goroutine)[0]? = some (G fr cs):=rfl;have h':stepG P (0 == 0) (G fr cs) w=.comm g #[c] true sh w' es:=h;by_cases hill:Go.Conc.illMade w' c=true
 ·exfalso;rw [Go.Conc.runT_crowd_comm hi h'] at hs';have hany:(#[(c:CommCase)]).any (Go.Conc.illMade w')=true:=by simp [hill]
  have hcomm:∀ rest gs,communicate P rest gs 0 g #[c] true sh w'=(.ended (.stuck "a communication at a channel whose block is no channel's" (g.frame.pos P)) w',#[]):=fun rest gs=>by
   unfold communicate;exact if_pos hany
  rw[hcomm]at hs';cases hs'
 ·have hno:∀ cc∈#[(c:CommCase)],Go.Conc.NoWays w' ((#[G fr cs]:Array Goroutine).setIfInBounds 0 Go.Conc.ph) cc:=by
   intro cc hcc;simp only[List.mem_toArray,List.mem_singleton]at hcc;have hf:Go.Conc.illMade w' c=false:=by simpa using hill
   rw[hcc];refine⟨hf,?_⟩;unfold ways;unfold Go.Conc.illMade at hf;cases hch:c.chan with
   | chan r =>
    rw[hch]at hf;cases r with
    |none=>rfl
    | some r =>
     dsimp only at hf |-;cases ho:w'.heap[r]? with
     |none=>rfl
     | some o =>
      rw[ho]at hf;cases o with
      | chan cap buf closed st rc tm =>
       obtain⟨rfl,rfl,rfl⟩:=hw r _ ho;have hp:∀ b,partners #[Go.Conc.ph] r b=[]:=by
        intro b;refine Go.Conc.partners_nil fun j y hy=>?_
        have hj:j=0:=by have:j<1:=(Array.getElem?_eq_some_iff.1 hy).1;omega
        subst hj;cases hy;exact Go.Conc.offersAt_ph _ _
       cases c.send<;>simp[hp]
      |_=>cases hf
   |_=>rfl
  rw[Go.Conc.crowd_waits hi h' hno]at hs';cases hs';exact⟨_,rfl,rfl⟩
inductive Term (P:Program) (Stop:Frame->List Frame->World->Prop):Frame->List Frame->World->Prop
 |stop {fr mine w}:Stop fr mine w->Term P Stop fr mine w
 | step {fr mine w} (fr':Nat->Frame) (mine':Nat->List Frame) (w':Nat->World) (es:Nat->Array Event):(∀ d,∀ e∈es d,ND e)->(∀ d,w.heap.size<=(w' d).heap.size) ->
   (∀ d main cs,stepG P main (G fr (mine ++ cs)) (w.at d)=.go (G (fr' d) (mine' d ++ cs)) (w' d) (es d))->(∀ d,Term P Stop (fr' d) (mine' d) (w' d))->Term P Stop fr mine w
theorem Term.step' {Stop:Frame->List Frame->World->Prop} {mine:List Frame} 
  (h:∀ d,∃ fr' mine' w' es,(∀ e∈es,ND e)/\w.heap.size<=w'.heap.size/\(∀ main cs,stepG P main (G fr (mine ++ cs)) (w.at d)=.go (G fr' (mine' ++ cs)) w' es)/\Term P Stop fr' mine' w'):Term P Stop fr mine w:=by
 have a:=fun d=>Classical.choose_spec (h d)
 have b:=fun d=>Classical.choose_spec (a d)
 have c:=fun d=>Classical.choose_spec (b d)
 have e:=fun d=>Classical.choose_spec (c d)
 exact .step _ _ _ _ (fun d=>(e d).1) (fun d=>(e d).2.1) (fun d=>(e d).2.2.1) (fun d=>(e d).2.2.2)
structure Cfg (P:Program) (f0:FuncId) (Stop:Frame->List Frame->World->Prop) (T:Nat->Question->Nat) where
 fr:Frame
 mine:List Frame
 w:World
 stk:uw f0 fr mine
 heap:ay OC w
 not:¬ Term P Stop fr mine w
 tape:w.tape=T
def SH (f0:FuncId) (Stop:Frame->List Frame->World->Prop):Frame->List Frame->World->Prop:=fun fr mine w=>Stop fr mine w/\ay OC w/\uw f0 fr mine
end
end Go.Tm
namespace Go.Tm
open Go
open Go.Conc
variable {fn:FuncId} {pos:String} {es:Array Event}
def Og:Go.Loc->Prop:=fun _=>False
theorem ZR (x:MemAct):∃ B,x.low B:=by
 cases x with
 |access e =>
  obtain⟨l,wr,sy⟩:=e;cases l with
  |cell a=>exact⟨a.block+1,Nat.lt_succ_self _⟩
  |obj r=>exact⟨r+1,Nat.lt_succ_self _⟩
  |_=>exact⟨0,trivial⟩
 |mark m=>cases m with
  |acquire a|release a|releaseMerge a|read a|write a=>exact⟨a.block+1,Nat.lt_succ_self _⟩
  |_=>exact⟨0,trivial⟩
 |go _|start=>exact⟨0,trivial⟩
 |send c _|sendDone c _|recv c _ _|recvDone c _|close c|recvClosed c=>exact⟨c+1,Nat.lt_succ_self _⟩
theorem Io (es:Array Event):∃ B,∀ e∈es,(MemAct.ofEvent e).low B:=by
 obtain⟨l⟩:=es
 induction l with
 |nil=>exact⟨0,by simp⟩
 |cons e l ih =>
  obtain⟨B,hB⟩:=ih;obtain⟨B',hB'⟩:=ZR (MemAct.ofEvent e);refine⟨B+B',fun x hx=>?_⟩;simp only[List.mem_toArray,List.mem_cons]at hx;rcases hx with rfl|hx
  ·exact MemAct.low_mono (by omega) hB'
  ·exact MemAct.low_mono (by omega) (hB x (by simpa using hx))
def Past' (t:Trace):Prop:=∃ B,Past Og B t
theorem Past'.own {t:Trace} (h:Past' t) (hes:∀ e∈es,ND e):Past' (t ++ MemOp.ofEvents 0 fn pos es):=by
 obtain⟨B,h⟩:=h;obtain⟨B',hB'⟩:=Io es;refine⟨B+B',(h.mono (by omega)).own fun e he=>⟨fun x hx hs=>hs.elim,(hes e he).1,(hes e he).2,MemAct.low_mono (by omega) (hB' e he)⟩⟩
theorem Past'.mute {t:Trace} (h:Past' t) {g:Nat} (hg:g≠0) (hm:∀ e∈es,e.mute=true):Past' (t ++ MemOp.ofEvents g fn pos es):=by
 obtain⟨B,h⟩:=h;exact⟨B,h.mute hg hm⟩
structure Com (P:Program) (gs:Array Goroutine) (a:Goroutine) (t:Trace):Prop where
 zero:gs[0]? = some a
 old:∃ q,Leavers P t gs q
 past:Past' t
def kU (P:Program) (a:Goroutine) (w:World) (Q:Goroutine->World->Prop):Prop :=
 ∀ gs sl t d,Com P gs a t->∃ N gs' a' w' sl' t',runNT P N (crowd gs (w.at d) sl) t=(.next (crowd gs' w' sl'),t')/\Com P gs' a' t'/\Q a' w'
section
variable {a:Goroutine} {w:World} {Q Q':Goroutine->World->Prop}
variable {P:Program}
theorem runNT_add (N M:Nat) (m:Machine) (t:Trace) (m':Machine) (t':Trace) (h:runNT P N m t=(.next m',t')):runNT P (N+M) m t=runNT P M m' t':=by
 induction N generalizing m t with
 |zero=>cases h;rw[Nat.zero_add]
 | succ N ih =>
  rw[show N+1+M=(N+M)+1 from by omega];simp only[runNT]at h |-;cases hs:stepT P m with
  |mk s ops =>
   rw[hs]at h;cases s with
   |next m1=>exact ih _ _ h
   |ended o w=>cases h
theorem kU.mono (h:kU P a w Q) (hq:∀ a w,Q a w->Q' a w):kU P a w Q' :=
 fun gs sl t d hc=>let⟨N,gs',a',w',sl',t',h1,h2,h3⟩:=h gs sl t d hc;⟨N,gs',a',w',sl',t',h1,h2,hq _ _ h3⟩
theorem kU.bind (h:kU P a w Q) (hq:∀ a w,Q a w->kU P a w Q'):kU P a w Q':=by
 intro gs sl t d hc;obtain⟨N,gs',a',w',sl',t',h1,h2,h3⟩:=h gs sl t d hc;obtain⟨M,gs2,a2,w2,sl2,t2,h4,h5,h6⟩:=hq a' w' h3 gs' sl' t' w'.drawn h2;refine⟨N+M,gs2,a2,w2,sl2,t2,?_,h5,h6⟩;rw[runNT_add N M _ _ _ _ h1];exact h4
theorem kU.at {d:Nat} (h:kU P a w Q):kU P a (w.at d) Q:=fun gs sl t d' hc=>h gs sl t d' hc
theorem vS {a:Goroutine} {w:World} {Q:Goroutine->World->Prop} (ha:a.status=.running)
  (h:∀ d,∃ a' w' es,stepG P true a (w.at d)=.go a' w' es/\(∀ e∈es,ND e)/\kU P a' w' Q):kU P a w Q:=by
 intro gs sl t d hc;obtain ⟨h0,⟨q,hL⟩,hP⟩:=hc;have key:∀ (M:Nat) (gs:Array Goroutine) (sl:Option (Nat × Nat)) (t:Trace) (d:Nat) (q:Nat->Nat),Go.ConcN.sumTo gs.size q<=M->gs[0]? = some a->Leavers P t gs q->Past' t ->
   ∃ N gs' a' w' sl' t',runNT P N (crowd gs (w.at d) sl) t=(.next (crowd gs' w' sl'),t')/\Com P gs' a' t'/\Q a' w':=by
  intro M
  induction M using Nat.strongRecOn with
  | _ M ih =>
   intro gs sl t d q hM h0 hL hP;have haw:∀ g∈gs,awake g:=by
    intro g hg;obtain⟨i,hi,rfl⟩:=Array.mem_iff_getElem.1 hg;rcases Nat.eq_zero_or_pos i with rfl|hpos
    ·have:gs[0]=a:=by simpa [Array.getElem?_eq_getElem hi] using h0
     rw[this];exact awake_of (.inl ha)
    ·exact awake_of ((hL.old i _ hpos (Array.getElem?_eq_getElem hi)).status.elim .inl fun x=>.inr (.inr x))
   obtain⟨i,g,d',sl',hi,hg,hst⟩:=crowd_pick (P:=P) (w:=w.at d) (sl:=sl) haw ⟨0,a,h0,ha⟩;rcases Nat.eq_zero_or_pos i with rfl|hpos
   ·obtain rfl:g=a:=by rw [h0] at hi;exact (Option.some.inj hi).symm
    obtain⟨a',w',es,hgo,hnd,hrest⟩:=h d';have hrunT:=runT_crowd_go (P:=P) (sl:=sl') (i:=0) hi (show stepG P (0 == 0) g (w.at d')=_ from hgo);have hlt:0<gs.size:=(Array.getElem?_eq_some_iff.1 h0).1;obtain⟨N,gs',a'',w'',sl'',t',hr,hC,hQ⟩:=hrest ((gs.map (woken P g a' w')).setIfInBounds 0 a') sl' (t ++ MemOp.ofEvents 0 g.frame.fn g.frame.place es) w'.drawn
     ⟨by simp [hlt],⟨q,⟨fun j x hj hx=>by
      have hne:0≠j:=by omega
      rw[Array.getElem?_setIfInBounds_ne hne,Array.getElem?_map]at hx;obtain⟨y,hy,rfl⟩:=Option.map_eq_some_iff.1 hx;have hq:=hL.old j y hj hy;rw[woken_quitsD hq,Deaf_other t (by omega) _ (fun op hop=>by obtain⟨e,_,rfl⟩:=Go.Conc.mem_ofEvents hop;rfl)];exact hq,fun j hj=>by
      rw[Deaf_other t (g':=0) (by simp at hj;omega) _ (fun op hop=>by obtain⟨e,_,rfl⟩:=Go.Conc.mem_ofEvents hop;rfl)];exact hL.above j (by simpa using hj)⟩⟩,hP.own hnd⟩
    refine⟨N+1,gs',a'',w'',sl'',t',?_,hC,hQ⟩;simp only[runNT,hst];rw[show((w.at d).at d')=w.at d' from rfl,hrunT];exact hr
   ·have hq:=hL.old i g hpos hi;have hi0:(i == 0)=false:=by simp;omega
    have hlt:i<gs.size:=(Array.getElem?_eq_some_iff.1 hi).1;cases hqi:q i with
    |zero=>rw[hqi]at hq;rw[hq.1]at hg;cases hg
    | succ k =>
     rw[hqi]at hq;rcases hq with⟨hf,_⟩|⟨_,g',es,hm,hstp,hq'⟩
     ·rw[hf]at hg;cases hg
     have hsum:Go.ConcN.sumTo gs.size (Go.ConcN.upd q i k)+(k+1)=Go.ConcN.sumTo gs.size q+k:=by
      have:=Go.ConcN.sumTo_upd q k id hlt;simpa[hqi]using this
     have hrunT:=runT_crowd_go (P:=P) (sl:=sl') (i:=i) hi (by rw[hi0];exact hstp (w.at d'));have hsz:((gs.map (woken P g g' (w.at d'))).setIfInBounds i g').size=gs.size:=by simp
     obtain⟨N,gs',a'',w'',sl'',t',hr,hC,hQ⟩:=ih (M-1) (by omega) ((gs.map (woken P g g' (w.at d'))).setIfInBounds i g') sl' (t ++ MemOp.ofEvents i g.frame.fn g.frame.place es) d' (Go.ConcN.upd q i k) (by rw[hsz];omega)
      (by
       have hne:i≠0:=by omega
       rw[Array.getElem?_setIfInBounds_ne hne,Array.getElem?_map,h0];simp[woken_run ha])
      ⟨fun j x hj hx=>by
       by_cases hji:i=j
       ·subst hji;rw[Array.getElem?_setIfInBounds_self_of_lt (by simpa using hlt)]at hx;obtain rfl:=Option.some.inj hx;rw[Go.ConcN.upd_same,Deaf_own];exact hq'
       ·rw[Array.getElem?_setIfInBounds_ne hji,Array.getElem?_map]at hx;obtain⟨y,hy,rfl⟩:=Option.map_eq_some_iff.1 hx;have hqj:=hL.old j y hj hy;rw[woken_quitsD hqj,Go.ConcN.upd_ne q k (Ne.symm hji),Deaf_other t hji _ (fun op hop=>by obtain⟨e,_,rfl⟩:=Go.Conc.mem_ofEvents hop;rfl)];exact hqj,fun j hj=>by
       rw[Deaf_other t (g':=i) (by simp at hj;omega) _ (fun op hop=>by obtain⟨e,_,rfl⟩:=Go.Conc.mem_ofEvents hop;rfl)];exact hL.above j (by simpa using hj)⟩
      (hP.mute (by omega) hm)
     refine⟨N+1,gs',a'',w'',sl'',t',?_,hC,hQ⟩;simp only[runNT,hst];rw[show((w.at d).at d')=w.at d' from rfl,hrunT];exact hr
 exact key _ gs sl t d q (Nat.le_refl _) h0 hL hP
theorem Ns (h:∀ d,Q a (w.at d)):kU P a w Q :=
 fun gs sl t d hc=>⟨0,gs,a,w.at d,sl,t,rfl,hc,h d⟩
theorem uS {Stop:Frame->List Frame->World->Prop} (hstop:∀ fr mine w d,Stop fr mine w->Stop fr mine (w.at d)) {fr:Frame} {mine:List Frame} {w:World} (h:Term P Stop fr mine w) (cs:List Frame) :
  kU P (G fr (mine ++ cs)) w (fun a' w'=>∃ fr' mine',a'=G fr' (mine' ++ cs)/\Stop fr' mine' w'):=by
 induction h with
 |stop hs=>exact Ns fun d=>⟨_,_,rfl,hstop _ _ _ _ hs⟩
 |step fr' mine' w' es hnd hsz hstep _ ih=>exact vS rfl fun d=>⟨_,_,_,hstep d true cs,hnd d,ih d⟩
end
def Ins (R:Ending->World->Prop):Prop:=∀ e w τ d,R e w->R e (w.re τ d)
def kL (P:Program) (f:FuncId) (args:Array Value) (w:World) (R:Ending->World->Prop):Prop :=
 ∀ cs,kU P (G (Frame.enter P f args .normal) cs) w (fun a' w'=>∃ e fr,a'=G fr cs/\R e w'/\fr.fn=f/\fr.leaving P w' e/\e≠.outgrown/\ay OC w')
section
variable {w:World} {f:FuncId}
variable {P:Program} {f0:FuncId}
theorem kD {fr:Frame} {e:Ending} (hw:ay OC w) (h:fr.leaving P w e) (τ:Nat->Question->Nat) (d:Nat):fr.leaving P (w.re τ d) e:=by
 cases e with
 |outgrown=>trivial
 |panicked chain=>exact h
 |returned v =>
  obtain⟨hm,hd,hk,fn,hf,hr⟩:=h;obtain⟨j,h1,h2,h3,h4⟩:=Sz (P:=P) (φ:=fun _=>True) (s:=results fn fr.tmps) ((lD fn fr.tmps).t OC P) hw;rw[hr]at h1 h4;have hj:j=0:=by have:w.drawn=w.drawn+j:=h1;omega
  subst hj;exact⟨hm,hd,hk,fn,hf,h4 τ d (fun i hi=>by omega)⟩
theorem G8 {S:FuncId->Prop} (hS:ED P S) (hf:S f) (args:Array Value):uw f (Frame.enter P f args .normal) []:=⟨akV hS hf args (.inl rfl),rfl,rfl,rfl⟩
theorem kL.mono {args:Array Value} {R R':Ending->World->Prop} (h:kL P f args w R) (hr:∀ e w,R e w->R' e w):kL P f args w R' :=
 fun cs=>(h cs).mono fun _ _ ⟨e,fr,h1,h2,h3⟩=>⟨e,fr,h1,hr _ _ h2,h3⟩
section
variable {fr:Frame} {c:Code} {S:FuncId->Prop} {r:Bool} {o:Oper} {ops:Array Oper} {i:Nat} {rest:List Nat} {v:Value} {f:FuncId} {R:Ending->World->Prop}
variable {b:Frame} {a:Act} {k:List Item} {cs:List Frame} {w:World} {Q:Goroutine->World->Prop}
theorem Fz {fr':Frame} (h:∀ w,stepG P true (G fr cs) w=.go (G fr' cs) w) (h':kU P (G fr' cs) w Q):kU P (G fr cs) w Q :=
 vS rfl fun d=>⟨_,_,_,h _,by simp,h'.at⟩
theorem Tv {id:Nat}  (h:kU P (G (b.at a (.code c::.inBlock id::k)) cs) w Q):kU P (G (b.at a (.code (.block id c)::k)) cs) w Q:=Fz (fun _=>stepG_block) h
theorem WL (h:kU P (G (b.at a (.code c::.inLoop c::k)) cs) w Q):kU P (G (b.at a (.code (.loop c)::k)) cs) w Q:=Fz (fun _=>stepG_loop) h
theorem CV (h:kU P (G {b.at a (.code .ret::k)with mode:=.returning} cs) w Q):kU P (G (b.at a (.code .ret::k)) cs) w Q:=Fz (fun _=>stepG_ret') h
theorem Q9 (hS:ED P S) {fn:FuncId} (ho:qj r o.op=true) (hw:ay OC w) (hl:∀ f,o.about P w a.eval=some f->S f) :
  (∀ e∈listed P fn a o w,ND e)/\∀ x w',(execOp a.eval o).run P w=.ok x w'->ay OC w':=by
 have hf:=(vC hS (fun _=>rfl) ho hw hl (es:=#[])).facts;have hnd:=wU hf.nd;rw[Sem.runT_eq]at hnd hf;refine⟨fun e he=>?_,fun x w' hr=>?_⟩
 ·unfold listed at he;exact hnd e (mem_seen he)
 ·have:=hf.heap;rw[hr]at this;exact this
def aaH (P:Program) (o:Oper) (b:Frame) (a:Act) (ops:Array Oper) (i:Nat) (rest:List Nat) (k:List Item) (cs:List Frame) (Q:Goroutine->World->Prop):Result Next->Prop
 |.ok (.value v) w'=>ay OC w'->kU P (G (b.at (a.put o.dst v) (.inRegion ops rest::k)) cs) w' Q
 |.ok .skip w'=>ay OC w'->kU P (G (b.at (a.put o.dst undef) (.inRegion ops rest::k)) cs) w' Q
 |.ok (.enter f args) w'=>ay OC w'->kU P (G (Frame.enter P f args .normal) (b.at a (.inRegion ops (i::rest)::k)::cs)) w' Q
 |.ok (.defer df) w'=>ay OC w'->kU P (G (b.at ({a with defers:=df::a.defers}.put o.dst undef) (.inRegion ops rest::k)) cs) w' Q
 |_=>False
theorem Ou (hS:ED P S) (ho:ops[i]? = some o) (hwt:Region.wanted o (yielded ops a.tmps)=true) (hk:b.kind≠.early) (hok:qj r o.op=true)
 (hw:ay OC w) (hl:∀ d f,o.about P (w.at d) a.eval=some f->S f) (h:∀ d,aaH P o b a ops i rest k cs Q ((execOp a.eval o).run P (w.at d))) :
  kU P (G (b.at a (.inRegion ops (i::rest)::k)) cs) w Q:=by
 refine vS rfl fun d=>?_
 obtain⟨hnd,hh⟩:=Q9 (P:=P) (a:=a) (w:=w.at d) (fn:=b.fn) hS hok hw (hl d);have hd:=h d;cases hr:(execOp a.eval o).run P (w.at d)with
 |halt hh w'=>rw[hr]at hd;exact hd.elim
 | ok x w' =>
  have hw':=hh x w' hr;rw[hr]at hd;cases x<;>first|exact hd.elim|skip
  case value v=>exact⟨_,_,_,stepG_value ho hwt hk hr,hnd,hd hw'⟩
  case skip=>exact⟨_,_,_,stepG_none ho hwt hk hr,hnd,hd hw'⟩
  case enter f args=>exact⟨_,_,_,stepG_enter ho hwt hk hr,hnd,hd hw'⟩
  next df =>
   refine⟨_,_,_,?_,hnd,hd hw'⟩;have hfin:({b.at a (.inRegion ops (i::rest)::k)with defers:=df::a.defers}:Frame).finish undef=b.at ({a with defers:=df::a.defers}.put o.dst undef) (.inRegion ops rest::k):=by
    have:=Frame.finish_at b {a with defers:=df::a.defers} ops i rest k undef;rw[ho]at this;exact this
   have hk':(b.kind == CallKind.early)=false:=by simpa using hk
   rw[stepG_oper ho hwt];have hfin':=hfin;simp only[Frame.at]at hfin' |-;simp only[stepG.apply,if_true,Sem.runT_eq,hr,hk',Bool.false_eq_true,if_false,GStep.after,Array.append_empty,hfin',G,listed]
theorem Ji {c:Frame} (hw:ay OC w) (h:fr.leaving P w (.returned v)) (h':kU P (G (c.finish v) cs) w Q):kU P (G fr (c::cs)) w Q:=by
 refine vS rfl fun d=>?_
 obtain⟨hm,hd,hk,fn,hf,hr⟩:=kD hw h w.tape d;refine⟨G (c.finish v) cs,w.at d,seen P fr.fn ((results fn fr.tmps).events P (w.at d) #[]),?_,?_,h'.at⟩
 ·have hr':(results fn fr.tmps).run P (w.at d)=.ok v (w.at d):=hr;have hu:stepG P true (G fr (c::cs)) (w.at d)=unwind P true fr (c::cs) none (w.at d):=by simp only [stepG,G,hm]
  rw[hu];simp only[unwind,hd,hm,hf,Sem.runT_eq,hr',doReturn,hk,GStep.after,Array.append_empty,G]
 ·have hf':=tK (P:=P) (C:=OC) (φ:=fun _=>True) (results fn fr.tmps) ((lD fn fr.tmps).t OC P) (w.at d) #[] #[] 0 hw (by simp) (by omega);have:=wU hf'.nd;rw[Sem.runT_eq]at this;exact yO this
theorem Ju {c:Frame} {chain:List PanicEntry} (h:fr.leaving P w (.panicked chain)) (h':kU P (G (c.raise chain) cs) w Q):kU P (G fr (c::cs)) w Q:=by
 obtain⟨hm,hd,fn,hf⟩:=h;refine vS rfl fun d=>⟨G (c.raise chain) cs,w.at d,#[],?_,by simp,h'.at⟩
 have hu:stepG P true (G fr (c::cs)) (w.at d)=unwind P true fr (c::cs) none (w.at d):=by simp only[stepG,G,hm]
 rw[hu];simp[unwind,Frame.catches,hm,hd,hf,G]
theorem xI {args:Array Value} (ho:ops[i]? = some o) (hc:kL P f args w R)
  (hret:∀ v w',R (.returned v) w'->ay OC w'->kU P (G (b.at (a.put o.dst v) (.inRegion ops rest::k)) cs) w' Q)
  (hpan:∀ ch w',R (.panicked ch) w'->ay OC w'->kU P (G ((b.at a (.inRegion ops (i::rest)::k)).raise ch) cs) w' Q) :
  kU P (G (Frame.enter P f args .normal) (b.at a (.inRegion ops (i::rest)::k)::cs)) w Q:=by
 refine(hc _).bind fun a' w' ⟨e,fr,h1,h2,h3,h4,h5,h6⟩=>?_
 subst h1;cases e with
 |outgrown=>exact(h5 rfl).elim
 |panicked ch=>exact Ju h4 (hpan ch w' h2 h6)
 |returned v =>
  refine Ji h6 h4 ?_;rw[Frame.finish_at,ho];exact hret v w' h2 h6
theorem Hz {fn:Func} {todo:List Item} (hb:b.fn=f) (hbk:b.kind=.normal) (hd:a.defers=[]) (hf:P.funcs[f]? = some fn) (hw:ay OC w) (hr:(results fn a.tmps).run P w=.ok v w) (hR:R (.returned v) w) (hins:Ins R) :
  kU P (G {b.at a todo with mode:=.returning} cs) w (fun a' w'=>∃ e fr,a'=G fr cs/\R e w'/\fr.fn=f/\fr.leaving P w' e/\e≠.outgrown/\ay OC w'):=by
 subst hb;refine Ns fun d=>⟨.returned v,_,rfl,hins _ _ w.tape d hR,rfl,?_,by simp,hw⟩
 have hl:({b.at a todo with mode:=.returning}:Frame).leaving P w (.returned v):=⟨rfl,hd,hbk,fn,hf,hr⟩;exact kD hw hl w.tape d
end
theorem jD {f:FuncId} {fn:Func} {c:Code} {args:Array Value} {w:World} {R:Ending->World->Prop} (hf:P.funcs[f]? = some fn) (hb:fn.body=some c)
  (h:∀ (cs:List Frame) (b:Frame),b.fn=f->b.kind=.normal->b.roundOf=none->kU P (G (b.at {tmps:=args ++ Array.replicate (fn.ntmps-args.size) undef,defers:=[]} [.code c]) cs) w (fun a' w'=>∃ e fr,a'=G fr cs/\R e w'/\fr.fn=f/\fr.leaving P w' e/\e≠.outgrown/\ay OC w')) :
  kL P f args w R:=by
 intro cs;let b:Frame:={(default:Frame)with fn:=f,kind:=.normal,roundOf:=none};have henter:Frame.enter P f args .normal=b.at {tmps:=args ++ Array.replicate (fn.ntmps-args.size) undef,defers:=[]} [.code c]:=by
  simp[Frame.enter,Frame.at,hf,hb,b]
 rw[henter];exact h cs b rfl rfl rfl
theorem DF {f:FuncId} {args:Array Value} {w:World} {Post:Value->World->Prop} (hf0:P.inits.idxOf? f=none) (hpost:∀ v w d,Post v w->Post v (w.at d)) (h:kL P f args w (fun e w'=>∃ v,e=.returned v/\Post v w')) :
  ∃ N last o w' t',runNT P (N+1) (solo (G (Frame.enter P f args .normal) []) w) #[]=(.ended o w',t')/\runN P N (solo (G (Frame.enter P f args .normal) []) w)=.next last/\step P last=.ended o w'/\Good P Post last o w' t':=by
 obtain⟨N,gs',a',w',sl',t',h1,h2,e,fr,h3,⟨v,h4,h5⟩,h6,h7,h8,h9⟩:=h [] #[G (Frame.enter P f args .normal) []] none #[] w.drawn ⟨rfl,⟨_,leavers_one P _⟩,⟨0,past_nil⟩⟩;subst h4;subst h3;subst h6;obtain⟨q,hL⟩:=h2.old;obtain⟨B,hP⟩:=h2.past;obtain⟨hm,hd,hk,fn,hf,hr⟩:=h7;have hev:∀ d,∀ e∈seen P fr.fn ((results fn fr.tmps).events P (w'.at d) #[]),ND e:=by
  intro d;have hf':=tK (P:=P) (C:=OC) (φ:=fun _=>True) (results fn fr.tmps) ((lD fn fr.tmps).t OC P) (w'.at d) #[] #[] 0 h9 (by simp) (by omega);have:=wU hf'.nd;rw[Sem.runT_eq]at this;exact yO this
 have hrd:∀ d,(results fn fr.tmps).run P (w'.at d)=.ok v (w'.at d):=by
  intro d;obtain⟨_,_,_,fn2,hf2,hr2⟩:=kD (e:=.returned v) h9 ⟨hm,hd,hk,fn,hf,hr⟩ w'.tape d;rw[hf]at hf2;cases hf2;exact hr2
 have hsame:∀ d,(results fn fr.tmps).events P (w'.at d) #[]=(results fn fr.tmps).events P w' #[]:=by
  intro d;obtain⟨j,hj,_,hl⟩:=xQ (P:=P) (C:=OC) (φ:=fun _=>True) (results fn fr.tmps) ((lD fn fr.tmps).t OC P) w' #[] h9;rw[Sem.runT_eq]at hl hj;rw[hr]at hl hj;have hj0:j=0:=by have:w'.drawn=w'.drawn+j:=hj;omega
  subst hj0;have:=hl w'.tape d (fun i hi=>by omega);rw[Sem.runT_eq]at this;have h2:=congrArg Prod.snd this;exact h2
 obtain⟨B',hB'⟩:=Io (seen P fr.fn ((results fn fr.tmps).events P w' #[]));obtain⟨N2,last,o,w2,t2,k1,k2,k3,k4⟩:=beside_ends (P:=P) (Shun:=Og) (B:=B+B') (D:=fun _ _ es=>∀ e∈es,EvL Og (B+B') e) (Post:=Post) (fun _ _ _ h=>h) (sl:=sl') (n:=0) h2.zero hL (hP.mono (by omega)) (w:=w') (by
  intro w1 hw1;obtain⟨d,rfl⟩:=hw1;refine⟨rfl,v,seen P fr.fn ((results fn fr.tmps).events P (w'.at d) #[]),?_,?_,hpost _ _ d h5⟩
  ·have hu:stepG P true (G fr []) (w'.at d)=unwind P true fr [] none (w'.at d):=by simp only [stepG,G,hm]
   rw[hu];simp only[unwind,hd,hm,hf,Sem.runT_eq,hrd d,doReturn,hk,GStep.after,hf0];rfl
  ·intro e he;exact⟨fun x hx hs=>hs.elim,(hev d e he).1,(hev d e he).2,MemAct.low_mono (by omega) (hB' e (by rw[hsame]at he;exact he))⟩)
 have hs:crowd #[G (Frame.enter P fr.fn args .normal) []] (w.at w.drawn) none=solo (G (Frame.enter P fr.fn args .normal) []) w:=rfl;rw[hs]at h1;refine⟨N+N2,last,o,w2,t2,?_,?_,k3,k4⟩
 ·rw[show N+N2+1=N+(N2+1)from by omega,runNT_add N _ _ _ _ _ h1];exact k1
 ·have:(runNT P N (solo (G (Frame.enter P fr.fn args .normal) []) w) #[]).1=runN P N (solo (G (Frame.enter P fr.fn args .normal) []) w):=runNT_fst _ _ _ _;rw[h1]at this;have h3:=runNT_fst P (N+N2) (solo (G (Frame.enter P fr.fn args .normal) []) w) #[];rw[runNT_add N _ _ _ _ _ h1,runNT_fst]at h3;rw[<- h3];exact k2
end
end Go.Tm
