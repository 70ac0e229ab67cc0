/- A part of the proof: T0, T1, E2. -/
import Derived.Conc.Beside
set_option linter.unusedVariables false
set_option linter.unusedSimpArgs false
set_option maxHeartbeats 8000000
namespace Go.Tm
open Go
def oL:Builtin→Bool
 | .append | .cap | .copy | .delete | .len | .max | .min | .panic | .recover | .clear=>true
 | _=>false
def isRecover:Builtin→Bool
 | .recover=>true
 | _=>false
def iZ (d:Deferred):Prop :=
 match d.target with
 | .builtin b .. => oL b=true∧isRecover b=false
 | .coroexit _=>False
 | _=>True
def lQ (C:Code→Prop):Obj→Prop
 | .loop l=>C l.assign∧C l.body∧(∀ c,l.pending=some c→C c)
 | .chan cap buf closed _ _ _=>cap=0∧buf=#[]∧closed=false
 | .pending .. => False
 | .deferred (some ds)=>∀ d∈ds,iZ d
 | _=>True
def uY:Halt→Prop
 | .blocked | .waiting=>False
 | .unsupported (.initOrder _)=>False
 | _=>True
def dL (C:Code→Prop) (P:Program) {α:Type} (φ:α→Prop):Sem α→Prop
 | .pure a=>φ a
 | .load _ _ k=>∀ v,dL C P φ (k v)
 | .store _ _ _ k=>dL C P φ k
 | .new o k=>lQ C o∧∀ n,dL C P φ (k n)
 | .shape _ k=>∀ s,dL C P φ (k s)
 | .freeze _ _ k=>dL C P φ k
 | .frozen _ k=>∀ b,dL C P φ (k b)
 | .getObj _ k=>∀ o,lQ C o→dL C P φ (k o)
 | .setObj _ o k=>lQ C o∧dL C P φ k
 | .choose _ k=>∀ n,dL C P φ (k n)
 | .sys c k=>c=.env∧∀ r,dL C P φ (k r)
 | .program k=>dL C P φ (k P)
 | .mark m k=>m≠.disable∧m≠.enable∧dL C P φ k
 | .halt h=>uY h
section
variable {C:Code→Prop} {P:Program} {α β:Type} {φ:α→Prop} {ψ:β→Prop}
theorem dL.mono {φ':α→Prop} (h:∀ a,φ a→φ' a) {s:Sem α} (x:dL C P φ s):dL C P φ' s:=by
 induction s with
 | pure a=>exact h _ x
 | load m a k ih=>exact fun v=>ih v (x v)
 | store m a v k ih=>exact ih x
 | new o k ih=>exact ⟨x.1,fun n=>ih n (x.2 n)⟩
 | shape r k ih=>exact fun v=>ih v (x v)
 | freeze a n k ih=>exact ih x
 | frozen a k ih=>exact fun v=>ih v (x v)
 | getObj r k ih=>exact fun v hv=>ih v (x v hv)
 | setObj r o k ih=>exact ⟨x.1,ih x.2⟩
 | choose q k ih=>exact fun v=>ih v (x v)
 | sys c k ih=>exact ⟨x.1,fun v=>ih v (x.2 v)⟩
 | program k ih=>exact ih _ x
 | mark m k ih=>exact ⟨x.1,x.2.1,ih x.2.2⟩
 | halt h=>exact x
theorem dL.bind {f:α→Sem β} (hf:∀ a,φ a→dL C P ψ (f a)) {s:Sem α} (x:dL C P φ s):dL C P ψ (s >>= f):=by
 show dL C P ψ (s.bind f)
 induction s with
 | pure a=>exact hf _ x
 | load m a k ih=>exact fun v=>ih v (x v)
 | store m a v k ih=>exact ih x
 | new o k ih=>exact ⟨x.1,fun n=>ih n (x.2 n)⟩
 | shape r k ih=>exact fun v=>ih v (x v)
 | freeze a n k ih=>exact ih x
 | frozen a k ih=>exact fun v=>ih v (x v)
 | getObj r k ih=>exact fun v hv=>ih v (x v hv)
 | setObj r o k ih=>exact ⟨x.1,ih x.2⟩
 | choose q k ih=>exact fun v=>ih v (x v)
 | sys c k ih=>exact ⟨x.1,fun v=>ih v (x.2 v)⟩
 | program k ih=>exact ih _ x
 | mark m k ih=>exact ⟨x.1,x.2.1,ih x.2.2⟩
 | halt h=>exact x
end
def strange:Obj→Bool
 | .loop _ | .deferred _ | .pending .. | .chan .. => true
 | _=>false
abbrev clean:Obj:=.finalizers #[] none
def Nr:Halt→Prop
 | .stuck _=>True
 | .unsupported (.initOrder _)=>False
 | .unsupported _=>True
 | _=>False
def IC:Halt→Prop
 | .unsupported (.initOrder _)=>False
 | _=>True
def JE {α:Type}:Sem α→Prop
 | .halt h=>Nr h
 | _=>False
def Shy (q:Bool) (C:Code→Prop) (P:Program) {α:Type} (φ:α→Prop):Sem α→Prop
 | .pure a=>φ a
 | .load _ _ k=>∀ v,Shy q C P φ (k v)
 | .store _ _ _ k=>Shy q C P φ k
 | .new o k=>lQ C o∧∀ n,Shy q C P φ (k n)
 | .shape _ k=>∀ s,Shy q C P φ (k s)
 | .freeze _ _ k=>Shy q C P φ k
 | .frozen _ k=>∀ b,Shy q C P φ (k b)
 | .getObj _ k=>(∀ o,lQ C o→Shy q C P φ (k o))∧∀ o,strange o=true→JE (k clean)∨k clean=k o
 | .setObj _ o k=>(lQ C o∧o≠clean)∧Shy q C P φ k
 | .choose _ k=>∀ n,Shy q C P φ (k n)
 | .sys c k=>(q=true→c=.env)∧∀ r,Shy q C P φ (k r)
 | .program k=>Shy q C P φ (k P)
 | .mark m k=>(q=true→m≠.disable∧m≠.enable)∧Shy q C P φ k
 | .halt h=>(q=true→uY h)∧IC h
section
variable {q:Bool} {C:Code→Prop} {P:Program} {α β:Type} {φ:α→Prop} {ψ:β→Prop}
theorem Na {f:α→Sem β} {s:Sem α} (h:JE s):JE (s.bind f):=by
 cases s <;> first | exact (show False from h).elim | exact h
theorem Shy.mono {φ':α→Prop} (h:∀ a,φ a→φ' a) {s:Sem α} (x:Shy q C P φ s):Shy q C P φ' s:=by
 induction s with
 | pure a=>exact h _ x
 | load m a k ih=>exact fun v=>ih v (x v)
 | store m a v k ih=>exact ih x
 | new o k ih=>exact ⟨x.1,fun n=>ih n (x.2 n)⟩
 | shape r k ih=>exact fun v=>ih v (x v)
 | freeze a n k ih=>exact ih x
 | frozen a k ih=>exact fun v=>ih v (x v)
 | getObj r k ih=>exact ⟨fun o ho=>ih o (x.1 o ho),x.2⟩
 | setObj r o k ih=>exact ⟨x.1,ih x.2⟩
 | choose q k ih=>exact fun v=>ih v (x v)
 | sys c k ih=>exact ⟨x.1,fun v=>ih v (x.2 v)⟩
 | program k ih=>exact ih _ x
 | mark m k ih=>exact ⟨x.1,ih x.2⟩
 | halt h=>exact x
theorem Shy.bind {f:α→Sem β} (hf:∀ a,φ a→Shy q C P ψ (f a)) {s:Sem α} (x:Shy q C P φ s):Shy q C P ψ (s >>= f):=by
 show Shy q C P ψ (s.bind f)
 induction s with
 | pure a=>exact hf a x
 | load m a k ih=>exact fun v=>ih v (x v)
 | store m a v k ih=>exact ih x
 | new o k ih=>exact ⟨x.1,fun n=>ih n (x.2 n)⟩
 | shape r k ih=>exact fun v=>ih v (x v)
 | freeze a n k ih=>exact ih x
 | frozen a k ih=>exact fun v=>ih v (x v)
 | getObj r k ih =>
  refine ⟨fun o ho=>ih o (x.1 o ho),fun o ho=>?_⟩
  rcases x.2 o ho with h | h
  ·exact .inl (Na h)
  ·exact .inr (show (k clean).bind f=(k o).bind f by rw [h])
 | setObj r o k ih=>exact ⟨x.1,ih x.2⟩
 | choose q k ih=>exact fun v=>ih v (x v)
 | sys c k ih=>exact ⟨x.1,fun v=>ih v (x.2 v)⟩
 | program k ih=>exact ih _ x
 | mark m k ih=>exact ⟨x.1,ih x.2⟩
 | halt h=>exact x
theorem KN {s:Sem α} (x:Shy true C P φ s):dL C P φ s:=by
 induction s with
 | pure a=>exact x
 | load m a k ih=>exact fun v=>ih v (x v)
 | store m a v k ih=>exact ih x
 | new o k ih=>exact ⟨x.1,fun n=>ih n (x.2 n)⟩
 | shape r k ih=>exact fun v=>ih v (x v)
 | freeze a n k ih=>exact ih x
 | frozen a k ih=>exact fun v=>ih v (x v)
 | getObj r k ih=>exact fun o ho=>ih o (x.1 o ho)
 | setObj r o k ih=>exact ⟨x.1.1,ih x.2⟩
 | choose q k ih=>exact fun v=>ih v (x v)
 | sys c k ih=>exact ⟨x.1 rfl,fun v=>ih v (x.2 v)⟩
 | program k ih=>exact ih _ x
 | mark m k ih=>exact ⟨(x.1 rfl).1,(x.1 rfl).2,ih x.2⟩
 | halt h=>exact x.1 rfl
end
class ak {α:Type} (s:Sem α):Prop where
 t:∀ (C:Code→Prop) (P:Program),Shy true C P (fun _=>True) s
section
variable {α β:Type}
theorem aW {s:Sem α} {f:α→Sem β} (h:ak s) (hf:∀ a,ak (f a)):ak (s >>= f):=⟨fun C P=>Shy.bind (fun a _=>(hf a).t C P) (h.t C P)⟩
instance YJ {s:Sem α} {f:α→Sem β} [h:ak s] [hf:∀ a,ak (f a)]:ak (s >>= f):=aW h hf
instance aa8 {s:Sem α} {f:α→β} [h:ak s]:ak (f <$> s):=(aW h (fun a=>(⟨fun _ _=>trivial⟩:ak (pure (f a):Sem β))):ak (s >>= fun a=>pure (f a)))
theorem J8 {c:Prop} [Decidable c] {a b:Sem α} (ha:ak a) (hb:ak b):ak (if c then a else b):=by split <;> assumption
instance FD {a:α}:ak (pure a:Sem α):=⟨fun _ _=>trivial⟩
instance aak {a:α}:ak (Sem.pure a:Sem α):=⟨fun _ _=>trivial⟩
instance aF {s:String}:ak (stuck s:Sem α):=⟨fun _ _=>⟨fun _=>trivial,trivial⟩⟩
instance Yy {v:Value}:ak (goPanic v:Sem α):=⟨fun _ _=>⟨fun _=>trivial,trivial⟩⟩
instance aan {s:String}:ak (throw s:Sem α):=⟨fun _ _=>⟨fun _=>trivial,trivial⟩⟩
instance aam {s:String}:ak (fatal s:Sem α):=⟨fun _ _=>⟨fun _=>trivial,trivial⟩⟩
instance {s:String}:ak (unsupported (.extern s):Sem α):=⟨fun _ _=>⟨fun _=>trivial,trivial⟩⟩
instance {s:String}:ak (unsupported (.noEntry s):Sem α):=⟨fun _ _=>⟨fun _=>trivial,trivial⟩⟩
instance {s:String}:ak (unsupported (Unsupported.elab s):Sem α):=⟨fun _ _=>⟨fun _=>trivial,trivial⟩⟩
instance {s:String}:ak (unsupported (.unsafePointer s):Sem α):=⟨fun _ _=>⟨fun _=>trivial,trivial⟩⟩
instance {s:String}:ak (unsupported (.resourceLimit s):Sem α):=⟨fun _ _=>⟨fun _=>trivial,trivial⟩⟩
instance:ak (unsupported .evalOrder:Sem α):=⟨fun _ _=>⟨fun _=>trivial,trivial⟩⟩
instance:ak (unsupported .addressObserved:Sem α):=⟨fun _ _=>⟨fun _=>trivial,trivial⟩⟩
instance Yu:ak program:=⟨fun _ _=>trivial⟩
instance aaK {a:Addr} {m:Mode}:ak (load a m):=⟨fun _ _ _=>trivial⟩
instance aap {a:Addr} {v:Value} {m:Mode}:ak (store a v m):=⟨fun _ _=>trivial⟩
instance aai {r:Nat}:ak (shape r):=⟨fun _ _ _=>trivial⟩
instance Y2 {a:Addr} {n:Nat}:ak (freeze a n):=⟨fun _ _=>trivial⟩
instance Zi {a:Addr}:ak (frozen a):=⟨fun _ _ _=>trivial⟩
theorem XI {β:Type} {r:Nat} {f:Obj→Sem β} (h1:∀ o,ak (f o)) (h2:∀ o,strange o=true→JE (f clean)∨f clean=f o):ak (getObj r >>= f):=⟨fun C P=>⟨fun o _=>(h1 o).t C P,fun o ho=>h2 o ho⟩⟩
instance Zy {q:Question}:ak (choose q):=⟨fun _ _ _=>trivial⟩
instance aa5:ak (sys .env):=⟨fun _ _=>⟨fun _=>rfl,fun _=>trivial⟩⟩
instance ZF:ak (mark .noRoom):=⟨fun _ _=>⟨fun _=>⟨by simp,by simp⟩,trivial⟩⟩
instance ZO {f:FuncId}:ak (mark (.extern f)):=⟨fun _ _=>⟨fun _=>⟨by simp,by simp⟩,trivial⟩⟩
theorem iP {o:Obj} (h:∀ C,lQ C o):ak (newObj o):=⟨fun C _=>⟨h C,fun _=>trivial⟩⟩
theorem uf {r:Nat} {o:Obj} (h:∀ C,lQ C o) (hc:o≠clean):ak (setObj r o):=⟨fun C _=>⟨⟨h C,hc⟩,trivial⟩⟩
instance {c:Array Value} {e:TypeId} {f:Nat × Nat}:ak (newObj (.cells c e f)):=iP fun _=>trivial
instance {a:Addr} {l:Bool}:ak (newObj (.number a l)):=iP fun _=>trivial
instance {a:Addr} {l:TypeId}:ak (newObj (.view a l)):=iP fun _=>trivial
instance {es:Array MapEntry} {c:Nat}:ak (newObj (.map es c)):=iP fun _=>trivial
instance {x:ByteArray} {c:Nat}:ak (newObj (.stringIter x c)):=iP fun _=>trivial
instance {m:Option Nat} {s:Nat} {a:Array Nat} {l:Nat}:ak (newObj (.mapIter m s a l)):=iP fun _=>trivial
instance:ak (newObj (.deferred (some []))):=iP fun _=>by simp [lQ]
instance {r:Nat} {es:Array MapEntry} {c:Nat}:ak (setObj r (.map es c)):=uf (fun _=>trivial) (by simp)
instance {r:Nat} {x:ByteArray} {c:Nat}:ak (setObj r (.stringIter x c)):=uf (fun _=>trivial) (by simp)
instance {r:Nat} {m:Option Nat} {s:Nat} {a:Array Nat} {l:Nat}:ak (setObj r (.mapIter m s a l)):=uf (fun _=>trivial) (by simp)
instance {r:Nat}:ak (setObj r (.deferred none)):=uf (fun _=>trivial) (by simp)
instance abb {c:Prop} [Decidable c] {a b:Sem α} [ak a] [ak b]:ak (if c then a else b):=by split <;> infer_instance
theorem sS {γ:Type} (f:β→γ→Sem β) (h:∀ b c,ak (f b c)):∀ (l:List γ) (b:β),ak (l.foldlM f b)
 | [],b=>by simp only [List.foldlM_nil];infer_instance
 | c :: l,b=>by simp only [List.foldlM_cons];exact aW (h b c) fun b'=>sS f h l b'
theorem pI {γ:Type} (f:γ→β→Sem (ForInStep β)) (h:∀ c b,ak (f c b)):∀ (l:List γ) (b:β),ak (forIn l b f)
 | [],b=>by simp only [List.forIn_nil];infer_instance
 | c :: l,b=>by
  rw [List.forIn_cons]
  refine aW (h c b) fun r=>?_
  cases r
  ·infer_instance
  ·exact pI f h l _
end
section
variable {α β γ:Type}
theorem FY (f:γ→β→Sem (ForInStep β)) (h:∀ c b,ak (f c b)) (l:Array γ) (b:β):ak (forIn l b f):=by
 rw [← Array.forIn_toList];exact pI f h _ _
theorem Cc (f:Nat→β→Sem (ForInStep β)) (h:∀ c b,ak (f c b)) (l:Std.Legacy.Range) (b:β):ak (forIn l b f):=by
 rw [Std.Legacy.Range.forIn_eq_forIn_range'];exact pI f h _ _
theorem Em (f:β→Sem γ) (h:∀ c,ak (f c)) (l:Array β):ak (l.mapM f):=by
 rw [Array.mapM_eq_foldlM,← Array.foldlM_toList]
 exact sS _ (fun b c=>by have:=h c;infer_instance) _ _
end
theorem ks {α:Type} {s:Sem α} (h:ak s:=by repeat' (first | infer_instance | (refine XI ?_ (fun o ho=>by cases o <;> first | exact .inl trivial | exact .inr rfl | (exfalso;simp [strange] at ho;done))) | (apply FY;intro _ _) | (apply Cc;intro _ _) | (apply Em;intro _) | apply J8 | apply aW | intro _ | dsimp only | split)):ak s:=h
section
instance {t:TypeId}:ak (typeInfo t):=by
 unfold typeInfo
 exact ks
instance {t:TypeId}:ak (underlying t):=by
 unfold underlying
 exact ks
instance {s:String}:ak (cutType s):=by
 unfold cutType
 exact ks
instance {s:String}:ak (globalAddr s):=by
 unfold globalAddr
 exact ks
instance {t:TypeId}:ak (typeStr t):=by
 unfold typeStr
 exact ks
instance {t:TypeId}:ak (zeroValue t):=by
 unfold zeroValue
 exact ks
instance {t:TypeId}:ak (sizeOf t):=by
 unfold sizeOf
 exact ks
instance {t:TypeId}:ak (isAgg t):=by
 unfold isAgg
 exact ks
instance {r:Nat}:ak (viewAt r):=by
 unfold viewAt
 exact ks
instance {r:Nat}:ak (numberAt r):=by
 unfold numberAt
 exact ks
instance {a:Addr} {l:Bool}:ak (asNumber a l):=by
 unfold asNumber
 exact ks
instance {a:Addr}:ak (behindNumber a):=by
 unfold behindNumber
 exact ks
instance {a:Addr}:ak (backFromNumber a):=by
 unfold backFromNumber
 exact ks
instance {a:Addr}:ak (noView a):=by
 unfold noView
 exact ks
instance {a:Addr}:ak (markStringish a):=by
 unfold markStringish
 exact ks
instance {a:Addr}:ak (stringish a):=by
 unfold stringish
 exact ks
instance {a b:Addr}:ak (mayBeOne a b):=by
 unfold mayBeOne
 exact ks
instance {a b:Addr}:ak (sameAddr a b):=by
 unfold sameAddr
 exact ks
instance {a b:Option Addr}:ak (samePointer a b):=by
 unfold samePointer
 exact ks
theorem qG (a:Addr):∀ (n i:Nat) (acc:Array Value),ak (loadCellsFrom a i n acc)
 | 0,i,acc=>by unfold loadCellsFrom;infer_instance
 | n+1,i,acc=>by unfold loadCellsFrom;exact aW inferInstance fun v=>qG a n _ _
instance {a:Addr} {n:Nat}:ak (loadCells a n):=by unfold loadCells;exact qG a n 0 #[]
theorem vG (a:Addr):∀ (vs:List Value) (i:Nat),ak (storeCells a vs i)
 | [],i=>by unfold storeCells;infer_instance
 | v :: vs,i=>by unfold storeCells;exact aW inferInstance fun _=>vG a vs _
instance {a:Addr} {vs:List Value} {i:Nat}:ak (storeCells a vs i):=vG a vs i
instance {t:TypeId} {a:Addr}:ak (loadVar t a):=by
 unfold loadVar
 exact ks
instance {t:TypeId} {a:Addr} {v:Value}:ak (storeVar t a v):=by
 unfold storeVar
 exact ks
instance {t:TypeId} {c:Array Value}:ak (newRow t c):=by
 unfold newRow
 exact ks
instance {t:TypeId} {v:Value}:ak (newVar t v):=by
 unfold newVar
 exact ks
instance {t:TypeId}:ak (elemOf t):=by
 unfold elemOf
 exact ks
instance {t:TypeId} {cs:Array Value} {off:Nat}:ak (part t cs off):=by
 unfold part
 exact ks
instance {α:Type} {s:String}:ak ((panicString s:Sem α)):=by
 unfold panicString
 exact ks
instance {α:Type} {e:RuntimeError}:ak ((runtimePanic e:Sem α)):=by
 unfold runtimePanic
 exact ks
instance {α:Type} {k:IntKind} {x y:Int} {c:BoundsCode}:ak ((boundsPanic k x y c:Sem α)):=by
 unfold boundsPanic
 exact ks
instance {v:Value}:ak (asIntOf v):=by
 unfold asIntOf
 exact ks
instance {v:Value}:ak (asInt v):=by
 unfold asInt
 exact ks
instance {v:Value}:ak (asBool v):=by
 unfold asBool
 exact ks
instance {v:Value}:ak (asString v):=by
 unfold asString
 exact ks
instance {v:Value}:ak (asAgg v):=by
 unfold asAgg
 exact ks
instance {v:Value}:ak (asAddr v):=by
 unfold asAddr
 exact ks
instance {n:Nat}:ak (askRoom n):=by
 unfold askRoom
 exact ks
instance {a:Addr}:ak (byteOf a):=by
 unfold byteOf
 exact ks
instance {a:Addr} {c b:Nat}:ak (partAt a c b):=by
 unfold partAt
 exact ks
instance {a:Addr} {f:Field}:ak (fieldPlace a f):=by
 unfold fieldPlace
 exact ks
instance {a:Addr} {u:TypeId} {n:Nat}:ak (variablesAt a u n):=by
 unfold variablesAt
 exact ks
instance {e:TypeId} {h:Bool} {o:Value}:ak (Instr.alloc e h o):=by
 unfold Instr.alloc
 exact ks
instance {v:Value}:ak (Instr.sureAddr v):=by
 unfold Instr.sureAddr
 exact ks
instance {t:TypeId} {a:Value}:ak (Instr.loadAt t a):=by
 unfold Instr.loadAt
 exact ks
instance {t:TypeId} {a v:Value}:ak (Instr.storeAt t a v):=by
 unfold Instr.storeAt
 exact ks
instance {t:TypeId} {a:Value} {f:Nat}:ak (Instr.fieldAt t a f):=by
 unfold Instr.fieldAt
 exact ks
instance {t:TypeId} {a i:Value}:ak (Instr.indexAt t a i):=by
 unfold Instr.indexAt
 exact ks
instance {x:Value} {y:Nat} {c:BoundsCode}:ak (Instr.sliceBound x y c):=by
 unfold Instr.sliceBound
 exact ks
instance {b:Bool} {l c:Nat} {x y z:Option Value}:ak (Instr.sliceBounds b l c x y z):=by
 unfold Instr.sliceBounds
 exact ks
instance {t:TypeId} {v:Value} {x y z:Option Value}:ak (Instr.slice t v x y z):=by
 unfold Instr.slice
 exact ks
instance {t:TypeId} {v:Value} {x y z:Option Value}:ak (Instr.sliceAt t v x y z):=by
 unfold Instr.sliceAt
 exact ks
instance {t:TypeId} {v:Value}:ak (Instr.arrayAt t v):=by
 unfold Instr.arrayAt
 exact ks
instance {t:TypeId} {v:Value}:ak (Instr.box t v):=by
 unfold Instr.box
 exact ks
instance {t:TypeId} {p:Array (Nat × Value)}:ak (Instr.build t p):=by
 unfold Instr.build
 exact ks
instance {t:TypeId} {n:Nat} {p:Array (Nat × Value)}:ak (Instr.buildSlice t n p):=by
 unfold Instr.buildSlice
 exact ks
instance {t:TypeId} {v:Value}:ak (Instr.makeInterface t v):=by
 unfold Instr.makeInterface
 exact ks
instance {f:Fn} {a b:Array Value}:ak (Instr.makeFunc f a b):=by
 unfold Instr.makeFunc
 exact ks
instance {t:TypeId} {r:Option Value}:ak (Instr.makeMap t r):=by
 unfold Instr.makeMap
 exact ks
instance {t:TypeId} {l c:Value}:ak (Instr.makeSlice t l c):=by
 unfold Instr.makeSlice
 exact ks
instance {t:TypeId} {v:Value} {f:Nat}:ak (Instr.field t v f):=by
 unfold Instr.field
 exact ks
instance {t:TypeId} {v i:Value}:ak (Instr.index t v i):=by
 unfold Instr.index
 exact ks
theorem BK:∀ (d:Nat) (t:TypeId) (x y:Value),ak (Op.equalIn d t x y)
 | 0,t,x,y=>by unfold Op.equalIn;infer_instance
 | d+1,t,x,y=>by
  have ih:=BK d
  unfold Op.equalIn
  exact ks
instance {t:TypeId} {x y:Value}:ak (Op.equal t x y):=BK _ t x y
theorem xq:∀ (d:Nat) (t:TypeId) (x y:Value),ak (Op.eqGuardIn d t x y)
 | 0,t,x,y=>by unfold Op.eqGuardIn;infer_instance
 | d+1,t,x,y=>by
  have ih:=xq d
  unfold Op.eqGuardIn
  exact ks
instance {d:Nat} {t:TypeId} {x y:Value}:ak (Op.eqGuardIn d t x y):=xq d t x y
theorem zl (e:Bool):∀ (d:Nat) (t:TypeId) (x:Value),ak (Instr.checkKey e d t x)
 | 0,t,x=>by unfold Instr.checkKey;infer_instance
 | d+1,t,x=>by
  have ih:=zl e d
  unfold Instr.checkKey
  exact ks
instance {e:Bool} {d:Nat} {t:TypeId} {x:Value}:ak (Instr.checkKey e d t x):=zl e d t x
theorem uN (t:TypeId) (k:Value):∀ (es:List MapEntry) (i:Nat),ak (Instr.findAsking t k es i)
 | [],i=>by unfold Instr.findAsking;infer_instance
 | e :: es,i=>by
  have ih:=uN t k es (i+1)
  unfold Instr.findAsking
  infer_instance
instance {t:TypeId} {k:Value} {es:List MapEntry} {i:Nat}:ak (Instr.findAsking t k es i):=uN t k es i
instance {t:TypeId} {k:Value} {es:List MapEntry}:ak (Instr.findKey t k es):=by
 unfold Instr.findKey
 exact ks
instance {t:TypeId} {x i:Value} {c:Bool}:ak (Instr.lookup t x i c):=by
 unfold Instr.lookup
 exact ks
instance {x y:Value}:ak (Instr.keyThatStays x y):=by
 unfold Instr.keyThatStays
 exact ks
instance {t:TypeId} {m k v:Value}:ak (Instr.mapUpdate t m k v):=by
 unfold Instr.mapUpdate
 exact ks
instance {t:TypeId} {x:Value}:ak (Instr.range t x):=⟨fun C P=>by
 unfold Instr.range
 refine Shy.bind (φ:=fun _=>True) (fun d _=>?_) (ak.t C P)
 dsimp only
 split
 ·exact ⟨trivial,fun _=>trivial⟩
 ·exact ⟨trivial,fun _=>trivial⟩
 ·exact ⟨fun o _=>by cases o <;> first | exact ⟨trivial,fun _=>trivial⟩ | exact ⟨fun _=>trivial,trivial⟩,fun o _=>.inl trivial⟩
 ·exact ⟨fun _=>trivial,trivial⟩⟩
instance {x:Value} {b:Bool} {t:TypeId}:ak (Instr.next x b t):=by
 unfold Instr.next
 exact ks
instance {x:Value} {t u:TypeId} {b:Bool}:ak (Instr.typeAssert x t u b):=by
 unfold Instr.typeAssert
 exact ks
instance {x:Value} {i:Nat}:ak (Instr.extract x i):=by
 unfold Instr.extract
 exact ks
instance  : ak (Instr.panicnil):=by
 unfold Instr.panicnil
 exact ks
instance {x:Value}:ak (Instr.panic x):=by
 unfold Instr.panic
 exact ks
instance {o:BinOp} {k:IntKind} {x y:Int}:ak (Op.intArith o k x y):=by
 unfold Op.intArith
 exact ks
instance {o:BinOp} {k:IntKind} {x y:Int}:ak (Op.intDiv o k x y):=by
 unfold Op.intDiv
 exact ks
instance {o:BinOp} {k:IntKind} {x y:Int}:ak (Op.intBits o k x y):=by
 unfold Op.intBits
 exact ks
instance {o:BinOp} {k:IntKind} {x:Int} {k':IntKind} {y:Int}:ak (Op.shift o k x k' y):=by
 unfold Op.shift
 exact ks
instance {o:BinOp} {x y:Int}:ak (Op.intCmp o x y):=by
 unfold Op.intCmp
 exact ks
instance {o:BinOp} {x y:ByteArray}:ak (Op.stringOp o x y):=by
 unfold Op.stringOp
 exact ks
instance {o:UnOp} {x:Value}:ak (Op.unary o x):=by
 unfold Op.unary
 exact ks
instance {a b:Addr}:ak (Op.twoPlaces a b):=by
 unfold Op.twoPlaces
 exact ks
instance {k:IntKind} {a b:Addr}:ak (Op.addrSub k a b):=by
 unfold Op.addrSub
 exact ks
instance {o:BinOp} {a b:Addr}:ak (Op.addrCmp o a b):=by
 unfold Op.addrCmp
 exact ks
instance {k:IntKind} {a:Addr} {n:Int}:ak (Op.addrMod k a n):=by
 unfold Op.addrMod
 exact ks
instance {o:BinOp} {k:FloatKind} {x y:Nat}:ak (Op.floatArith o k x y):=by
 unfold Op.floatArith
 exact ks
instance {o:BinOp} {k:FloatKind} {x y:Nat}:ak (Op.floatCmp o k x y):=by
 unfold Op.floatCmp
 exact ks
instance {k:FloatKind} {b:Nat} {k':FloatKind}:ak (Conv.floatToFloat k b k'):=by
 unfold Conv.floatToFloat
 exact ks
instance {o:BinOp} {k:FloatKind} {x y:Nat}:ak (Op.Complex.arith o k x y):=by
 unfold Op.Complex.arith
 exact ks
instance {o:BinOp} {k:FloatKind} {x y:Nat}:ak (Op.Complex.cmp o k x y):=by
 unfold Op.Complex.cmp
 exact ks
instance {k:FloatKind} {x:Nat} {k':FloatKind}:ak (Op.Complex.conv k x k'):=by
 unfold Op.Complex.conv
 exact ks
instance {x y:Nat}:ak (Op.Complex.add x y):=by
 unfold Op.Complex.add
 exact ks
instance {x y:Nat}:ak (Op.Complex.sub x y):=by
 unfold Op.Complex.sub
 exact ks
instance {x y:Nat}:ak (Op.Complex.mul x y):=by
 unfold Op.Complex.mul
 exact ks
instance {x y:Nat}:ak (Op.Complex.quo x y):=by
 unfold Op.Complex.quo
 exact ks
instance {a b c e:Nat}:ak (Op.Complex.product a b c e):=by
 unfold Op.Complex.product
 exact ks
instance {s a b c e:Nat}:ak (Op.Complex.corrected s a b c e):=by
 unfold Op.Complex.corrected
 exact ks
instance {a b c e:Nat}:ak (Op.Complex.quotient a b c e):=by
 unfold Op.Complex.quotient
 exact ks
instance {o:BinOp} {k:FloatKind} {a b c e:Nat}:ak (Op.complexOp o k a b c e):=by
 unfold Op.complexOp
 exact ks
instance {k:IntKind} {n:Int}:ak (Conv.intToInt k n):=by
 unfold Conv.intToInt
 exact ks
instance {k:FloatKind} {n:Int}:ak (Conv.intToFloat k n):=by
 unfold Conv.intToFloat
 exact ks
instance {k:FloatKind} {b:Nat} {k':IntKind}:ak (Conv.floatToInt k b k'):=by
 unfold Conv.floatToInt
 exact ks
instance {k:FloatKind} {x y:Nat} {k':FloatKind}:ak (Conv.complexToComplex k x y k'):=by
 unfold Conv.complexToComplex
 exact ks
instance {n:Int}:ak (Conv.intToString n):=by
 unfold Conv.intToString
 exact ks
instance {e:TypeId} {s:ByteArray}:ak (Conv.stringToBytes e s):=by
 unfold Conv.stringToBytes
 exact ks
instance {e:TypeId} {s:ByteArray}:ak (Conv.stringToRunes e s):=by
 unfold Conv.stringToRunes
 exact ks
instance {x:Value}:ak (Conv.bytesToString x):=by
 unfold Conv.bytesToString
 exact ks
instance {x:Value}:ak (Conv.runesToString x):=by
 unfold Conv.runesToString
 exact ks
instance {a:Addr}:ak (Conv.seenAt a):=by
 unfold Conv.seenAt
 exact ks
instance {a:Addr} {n:Nat}:ak (Builtin.holdsCells a n):=by
 unfold Builtin.holdsCells
 exact ks
instance {s l n:Nat} {b:Option Addr} {x:Value}:ak (Builtin.mayShare s l n b x):=by
 unfold Builtin.mayShare
 exact ks
instance {v:Value}:ak (Builtin.lenOf v):=by
 unfold Builtin.lenOf
 exact ks
instance {s n:Nat} {v:Value}:ak (Builtin.firstCells s n v):=by
 unfold Builtin.firstCells
 exact ks
instance {a:Array TypeId} {t:TypeId} {x:Array Value}:ak (Builtin.append_ a t x):=by
 unfold Builtin.append_
 exact ks
instance {a:Array TypeId} {t:TypeId} {x:Array Value}:ak (Builtin.cap_ a t x):=by
 unfold Builtin.cap_
 exact ks
instance {a:Array TypeId} {t:TypeId} {x:Array Value}:ak (Builtin.copy_ a t x):=by
 unfold Builtin.copy_
 exact ks
instance {a:Array TypeId} {t:TypeId} {x:Array Value}:ak (Builtin.delete_ a t x):=by
 unfold Builtin.delete_
 exact ks
instance {a:Array TypeId} {t:TypeId} {x:Array Value}:ak (Builtin.len_ a t x):=by
 unfold Builtin.len_
 exact ks
instance {a:Array TypeId} {t:TypeId} {x:Array Value}:ak (Builtin.clear_ a t x):=by
 unfold Builtin.clear_
 exact ks
instance {x y:Value}:ak (Builtin.max2 x y):=by
 unfold Builtin.max2
 exact ks
instance {x y:Value}:ak (Builtin.min2 x y):=by
 unfold Builtin.min2
 exact ks
instance {a:Array TypeId} {t:TypeId} {x:Array Value}:ak (Builtin.max_ a t x):=by
 unfold Builtin.max_
 split
 ·infer_instance
 ·exact sS _ (fun _ _=>inferInstance) _ _
instance {a:Array TypeId} {t:TypeId} {x:Array Value}:ak (Builtin.min_ a t x):=by
 unfold Builtin.min_
 split
 ·infer_instance
 ·exact sS _ (fun _ _=>inferInstance) _ _
theorem FU (t:TypeId) (x y:Value):ak (Builtin.unsafeAdd_ #[] t #[x,y]):=by
 unfold Builtin.unsafeAdd_
 cases x
 case pointer ptr =>
  refine aW (s:=asInt y) inferInstance fun n=>?_
  exact ks
 all_goals exact (aF:ak (stuck _:Sem Value))
instance {t:TypeId} {x y:Value}:ak (Builtin.unsafeAdd_ #[] t #[x,y]):=FU t x y
instance {t:TypeId} {x y:Value}:ak (movedNumber t x y):=by
 unfold movedNumber
 exact ks
instance {t:TypeId} {x y:Value}:ak (movedPointer t x y):=by
 unfold movedPointer
 exact ks
instance {o:BinOp} {t:TypeId} {x y:Operand} {a b:Value}:ak (eqGuard o t x y a b):=by
 unfold eqGuard
 exact ks
instance {o:BinOp} {t:TypeId} {x y:Value}:ak (binOp o t x y):=by
 unfold binOp
 exact ks
end
section
instance {t:TypeId} {p:Place}:ak (p.get t):=by cases p <;> (unfold Place.get;infer_instance)
theorem Ew:∀ (l:List FieldStep) (t:TypeId) (x:Place),ak (follow l t x)
 | [],t,x=>by unfold follow;infer_instance
 | s :: l,t,x=>by
  have ih:=Ew l
  unfold follow
  exact ks
instance {l:List FieldStep} {t:TypeId} {x:Place}:ak (follow l t x):=Ew l t x
theorem NJ (a:Array TypeId) (t:TypeId) (x y z:Value):ak (Builtin.ssaWrapNilChk_ a t #[x,y,z]):=by
 unfold Builtin.ssaWrapNilChk_
 cases y <;> first | exact (aF:ak (stuck "ssa:wrapnilchk: a pointer and two strings expected" : Sem Value)) | skip
 cases z <;> first | exact (aF:ak (stuck "ssa:wrapnilchk: a pointer and two strings expected" : Sem Value)) | skip
 cases x <;> first | exact (aF:ak (stuck "ssa:wrapnilchk: pointer expected" : Sem Value)) | skip
 rename_i p
 cases p with
 | some p=>exact (FD:ak (pure _:Sem Value))
 | none =>
  refine aW (s:=choose (Question.extern "ssa:wrapnilchk.dereferenced" 2)) inferInstance fun r=>?_
  exact ks
instance {a:Array TypeId} {t:TypeId} {x y z:Value}:ak (Builtin.ssaWrapNilChk_ a t #[x,y,z]):=NJ a t x y z
instance {t:TypeId} {x:Place} {b:Bool} {w:Option String}:ak (receiverAt t x b w):=by
 unfold receiverAt
 exact ks
instance {t:TypeId} {v:Value} {p:Array FieldStep} {b:Bool}:ak (receiverVia t v p b):=by
 unfold receiverVia
 exact ks
theorem Es:∀ (n:Nat) (t:TypeId) (v:Value) (s:String),ak (method n t v s)
 | 0,t,v,s=>by unfold method;infer_instance
 | n+1,t,v,s=>by
  have ih:=Es n
  unfold method
  exact ks
instance {n:Nat} {t:TypeId} {v:Value} {s:String}:ak (method n t v s):=Es n t v s
theorem uG:∀ (l:List FieldStep) (t:TypeId) (x:Option Value),ak (followBlind l t x)
 | [],t,x=>by unfold followBlind;infer_instance
 | s :: l,t,x=>by
  have ih:=uG l
  unfold followBlind
  exact ks
instance {l:List FieldStep} {t:TypeId} {x:Option Value}:ak (followBlind l t x):=uG l t x
theorem zD:∀ (n:Nat) (t:TypeId) (v:Value) (s:String),ak (nilAhead n t v s)
 | 0,t,v,s=>by unfold nilAhead;infer_instance
 | n+1,t,v,s=>by
  have ih:=zD n
  unfold nilAhead
  exact ks
instance {n:Nat} {t:TypeId} {v:Value} {s:String}:ak (nilAhead n t v s):=zD n t v s
instance {v:Value} {a:Array Value}:ak (Deferred.ofValue v a):=by
 unfold Deferred.ofValue
 exact ks
instance {ρ:Operand→Value} {c:Call} {t:TypeId}:ak (resolve ρ c t):=by
 unfold resolve
 exact ks
end
def kF (C:Code→Prop) (r:Bool):Next→Prop
 | .value _ | .skip | .enter .. | .comm .. => True
 | .recover=>r=true
 | .round _ _ _ assign body=>C assign∧C body
 | .defer d=>iZ d
 | .spawn d=>iZ d
 | _=>False
section
variable {C:Code→Prop} {P:Program} {r:Bool}
theorem jL {α:Type} {φ:α→Prop} {a:α} (h:φ a):Shy true C P φ (pure a:Sem α):=h
theorem eP {α β:Type} {ψ:β→Prop} {s:Sem α} {f:α→Sem β} (h:ak s) (hf:∀ a,Shy true C P ψ (f a)):Shy true C P ψ (s >>= f):=Shy.bind (fun a _=>hf a) (h.t C P)
theorem wV {s:Sem Value} (h:ak s):Shy true C P (kF C r) (do pure (.value (← s)):Sem Next):=eP h fun _=>trivial
theorem VF {s:Sem Unit} (h:ak s):Shy true C P (kF C r) (do s;pure .skip:Sem Next):=eP h fun _=>trivial
theorem iQ {α:Type} {φ:α→Prop} {v:Value}:Shy true C P φ (goPanic v:Sem α):=⟨fun _=>trivial,trivial⟩
theorem kK {α:Type} {φ:α→Prop} {v:String}:Shy true C P φ (stuck v:Sem α):=⟨fun _=>trivial,trivial⟩
theorem dh {α:Type} {φ:α→Prop} (e:RuntimeError):Shy true C P φ (runtimePanic e:Sem α):=by
 unfold runtimePanic
 refine eP inferInstance fun p=>?_
 dsimp only
 split
 ·exact iQ
 ·exact iQ
 ·exact iQ
 ·exact iQ
 ·exact eP inferInstance fun _=>eP inferInstance fun _=>iQ
 ·exact eP inferInstance fun _=>eP inferInstance fun _=>iQ
 ·exact iQ
theorem kN {l:Nat}:Shy true C P (fun r:Loop=>C r.assign∧C r.body∧(∀ c,r.pending=some c→C c)) (Instr.getLoop l):=by
 unfold Instr.getLoop
 exact ⟨fun o ho=>by cases o <;> first | exact ho | exact ⟨fun _=>trivial,trivial⟩,fun o _=>.inl trivial⟩
theorem Gi {fn:FuncId} {tmps:Array Value} {params:Array Tmp} {assign body:Code} {around:Option Nat} (ha:C assign) (hb:C body) :
  Shy true C P (fun x:Nat × List Deferred=>∀ d∈x.2,iZ d) (Instr.enterLoop fn tmps params assign body around):=by
 unfold Instr.enterLoop
 cases around with
 | some l =>
  refine Shy.bind (φ:=fun _=>True) (fun r _=>?_) (Shy.mono (fun _ _=>trivial) kN)
  exact ⟨⟨ha,hb,by simp⟩,fun n d hd=>by cases hd⟩
 | none =>
  refine ⟨by simp [lQ],fun r=>⟨⟨ha,hb,by simp⟩,fun n d hd=>?_⟩⟩
  rcases List.mem_singleton.1 hd with rfl
  trivial
theorem Rw {l:Nat} {args:Array Value}:Shy true C P (kF C r) (Instr.yield l args):=by
 unfold Instr.yield
 refine Shy.bind (fun r hr=>?_) kN
 split
 ·exact eP inferInstance fun _=>⟨hr.1,hr.2.1⟩
 ·exact ⟨hr.1,hr.2.1⟩
theorem Dq {l:Nat}:Shy true C P (fun _=>True) (Instr.beginRound l):=by
 unfold Instr.beginRound
 refine Shy.bind (fun r hr=>?_) kN
 refine ⟨⟨⟨hr.1,hr.2.1,hr.2.2⟩,nofun⟩,?_⟩
 show Shy true C P _ (match r.state with | .ready=>_ | .done=>_ | .busy=>_ | .exhausted=>_)
 split
 ·first | trivial | exact ⟨fun _=>trivial,trivial⟩
 ·exact dh _
 ·exact dh _
 ·exact dh _
theorem JL {l:Nat} {jump:Option Code} (hj:∀ c,jump=some c→C c):Shy true C P (fun _=>True) (Instr.endRound l jump):=by
 unfold Instr.endRound
 refine Shy.bind (fun r hr=>?_) kN
 exact ⟨⟨⟨hr.1,hr.2.1,hj⟩,nofun⟩,trivial⟩
theorem Nj {l:Nat}:Shy true C P (fun j:Option Code=>∀ c,j=some c→C c) (Instr.endLoop l):=by
 unfold Instr.endLoop
 refine Shy.bind (fun r hr=>?_) kN
 split
 ·refine Shy.bind (φ:=fun _=>True) (fun _ _=>?_) (dh _)
  exact ⟨⟨⟨hr.1,hr.2.1,hr.2.2⟩,nofun⟩,hr.2.2⟩
 ·exact ⟨⟨⟨hr.1,hr.2.1,hr.2.2⟩,nofun⟩,hr.2.2⟩
theorem AB {l:Nat} {d:Deferred} (hd:iZ d):Shy true C P (fun _=>True) (Instr.deferInRound l d):=by
 unfold Instr.deferInRound
 refine Shy.bind (φ:=fun _=>True) (fun r _=>?_) (Shy.mono (fun _ _=>trivial) kN)
 refine ⟨fun o ho=>?_,fun o _=>.inl trivial⟩
 show Shy true C P _ (match o with | .deferred (some ds)=>_ | .deferred none=>_ | _=>_)
 cases o with
 | deferred c =>
  cases c with
  | none=>first | trivial | exact ⟨fun _=>trivial,trivial⟩
  | some ds =>
   refine ⟨⟨fun x hx=>?_,nofun⟩,trivial⟩
   rcases List.mem_cons.1 hx with rfl | h
   ·exact hd
   ·exact ho x h
 | _=>first | trivial | exact ⟨fun _=>trivial,trivial⟩
theorem Ag {b:Nat}:Shy true C P (fun ds:List Deferred=>∀ d∈ds,iZ d) (Instr.takeDeferred b):=by
 unfold Instr.takeDeferred
 refine ⟨fun o ho=>?_,fun o _=>.inl trivial⟩
 show Shy true C P _ (match o with | .deferred (some ds)=>_ | _=>_)
 cases o with
 | deferred c =>
  cases c with
  | none=>first | trivial | exact ⟨fun _=>trivial,trivial⟩
  | some ds=>exact ⟨⟨trivial,nofun⟩,ho⟩
 | _=>first | trivial | exact ⟨fun _=>trivial,trivial⟩
theorem MR {b:Builtin} (hb:oL b=true) (hr:isRecover b=true→r=true) (ats:Array TypeId) (t:TypeId) (cs:Array Bool) (args:Array Value):Shy true C P (kF C r) (builtin b ats t cs args):=by
 unfold builtin
 cases b <;> first | (cases hb;done) | exact wV inferInstance | exact hr rfl
def U0 (P:Program) (f:FuncId):Prop :=
 ∀ fn,P.funcs[f]? = some fn→(fn.name == "runtime.NumGoroutine")=false∧(fn.body.isNone=true→(Extern.findNext fn).isNone=true∧∀ e,Extern.find fn=some e→∀ args,ak (e args))
theorem tJ {f:FuncId} (h:U0 P f) (args:Array Value):Shy true C P (kF C r) (callFunc f args):=by
 unfold callFunc
 show Shy true C P _ (match P.funcs[f]? with | none=>_ | some fn=>_)
 cases hf:P.funcs[f]? with
 | none=>first | trivial | exact ⟨fun _=>trivial,trivial⟩
 | some fn =>
  obtain ⟨hn,hx⟩:=h fn hf
  simp only [hn,Bool.false_eq_true,if_false]
  split
  ·rename_i hb
   obtain ⟨h1,h2⟩:=hx hb
   refine eP inferInstance fun _=>?_
   cases hfn:Extern.findNext fn with
   | some e=>rw [hfn] at h1;cases h1
   | none =>
    show Shy true C P _ (match Extern.find fn with | some e=>_ | none=>_)
    cases he:Extern.find fn with
    | some e=>exact wV (h2 e he args)
    | none =>
     dsimp only
     split
     ·first | trivial | exact ⟨fun _=>trivial,trivial⟩
     ·first | trivial | exact ⟨fun _=>trivial,trivial⟩
  ·first | trivial | exact ⟨fun _=>trivial,trivial⟩
end
class Calm {α:Type} (s:Sem α):Prop where
 t:∀ (C:Code→Prop) (P:Program),dL C P (fun _=>True) s
section
variable {α β:Type}
theorem gQ {s:Sem α} {f:α→Sem β} (h:Calm s) (hf:∀ a,Calm (f a)):Calm (s >>= f):=⟨fun C P=>dL.bind (fun a _=>(hf a).t C P) (h.t C P)⟩
instance Yw {s:Sem α} {f:α→Sem β} [h:Calm s] [hf:∀ a,Calm (f a)]:Calm (s >>= f):=gQ h hf
instance aaS {s:Sem α} {f:α→β} [h:Calm s]:Calm (f <$> s):=(gQ h (fun a=>(⟨fun _ _=>trivial⟩:Calm (pure (f a):Sem β))):Calm (s >>= fun a=>pure (f a)))
theorem zY {c:Prop} [Decidable c] {a b:Sem α} (ha:Calm a) (hb:Calm b):Calm (if c then a else b):=by split <;> assumption
instance aao {a:α}:Calm (pure a:Sem α):=⟨fun _ _=>trivial⟩
end
section
variable {α β γ:Type}
instance JU {s:Sem α} [h:ak s]:Calm s:=⟨fun C P=>KN (h.t C P)⟩
instance YA {r:Nat}:Calm (getObj r):=⟨fun _ _ _ _=>trivial⟩
instance Oy {s:String}:Calm (stuck s:Sem α):=⟨fun _ _=>trivial⟩
theorem AX {o:Obj} (h:∀ C,lQ C o):Calm (newObj o):=⟨fun C _=>⟨h C,fun _=>trivial⟩⟩
theorem BG {γ:Type} (f:β→γ→Sem β) (h:∀ b c,Calm (f b c)):∀ (l:List γ) (b:β),Calm (l.foldlM f b)
 | [],b=>by simp only [List.foldlM_nil];infer_instance
 | c :: l,b=>by simp only [List.foldlM_cons];exact gQ (h b c) fun b'=>BG f h l b'
theorem TI (f:β→Sem γ) (h:∀ c,Calm (f c)) (l:Array β):Calm (l.mapM f):=by
 rw [Array.mapM_eq_foldlM,← Array.foldlM_toList]
 exact BG _ (fun b c=>by have:=h c;infer_instance) _ _
end
instance {r:Nat}:Calm (cellsIn r):=by
 unfold cellsIn
 repeat' (first | infer_instance | apply zY | apply gQ | intro _ | dsimp only | split)
instance {s t:TypeId} {x:Value}:Calm (Conv.unsafePointer s t x):=by
 unfold Conv.unsafePointer
 repeat' (first | infer_instance | apply zY | apply gQ | intro _ | dsimp only | split)
instance {s t:TypeId} {x:Value}:Calm (convert s t x):=by
 unfold convert
 repeat' (first | infer_instance | apply zY | apply gQ | intro _ | dsimp only | split)
def jM (C:Code→Prop) (S:FuncId→Prop) (r:Bool):Next→Prop
 | .value _ | .skip=>True
 | .recover=>r=true
 | .enter f _=>S f
 | .round _ _ _ assign body=>C assign∧C body
 | .defer d=>iZ d
 | .comm cases b _=>r=true∧b=true∧∃ c,cases=#[c]
 | .spawn _=>r=true
 | _=>False
section
variable {C:Code→Prop} {P:Program} {S:FuncId→Prop} {r:Bool}
theorem jH {α:Type} {φ:α→Prop} {a:α} (h:φ a):dL C P φ (pure a:Sem α):=h
theorem fU {α β:Type} {ψ:β→Prop} {s:Sem α} {f:α→Sem β} (h:Calm s) (hf:∀ a,dL C P ψ (f a)):dL C P ψ (s >>= f):=dL.bind (fun a _=>hf a) (h.t C P)
theorem tX {s:Sem Value} (h:Calm s):dL C P (jM C S r) (do pure (.value (← s)):Sem Next):=fU h fun _=>trivial
theorem RJ {s:Sem Unit} (h:Calm s):dL C P (jM C S r) (do s;pure .skip:Sem Next):=fU h fun _=>trivial
theorem iT {α:Type} {φ:α→Prop} {v:Value}:dL C P φ (goPanic v:Sem α):=trivial
theorem kC {α:Type} {φ:α→Prop} {v:String}:dL C P φ (stuck v:Sem α):=trivial
theorem dN {α:Type} {φ:α→Prop} (e:RuntimeError):dL C P φ (runtimePanic e:Sem α):=by
 unfold runtimePanic
 refine fU inferInstance fun p=>?_
 dsimp only
 split
 ·exact iT
 ·exact iT
 ·exact iT
 ·exact iT
 ·exact fU inferInstance fun _=>fU inferInstance fun _=>iT
 ·exact fU inferInstance fun _=>fU inferInstance fun _=>iT
 ·exact iT
theorem jG {l:Nat}:dL C P (fun r:Loop=>C r.assign∧C r.body∧(∀ c,r.pending=some c→C c)) (Instr.getLoop l):=by
 unfold Instr.getLoop
 intro o ho
 cases o <;> first | exact ho | trivial
theorem FM {fn:FuncId} {tmps:Array Value} {params:Array Tmp} {assign body:Code} {around:Option Nat} (ha:C assign) (hb:C body) :
  dL C P (fun x:Nat × List Deferred=>∀ d∈x.2,iZ d) (Instr.enterLoop fn tmps params assign body around):=by
 unfold Instr.enterLoop
 cases around with
 | some l =>
  refine dL.bind (φ:=fun _=>True) (fun r _=>?_) (dL.mono (fun _ _=>trivial) jG)
  exact ⟨⟨ha,hb,by simp⟩,fun n d hd=>by cases hd⟩
 | none =>
  refine ⟨by simp [lQ],fun r=>⟨⟨ha,hb,by simp⟩,fun n d hd=>?_⟩⟩
  rcases List.mem_singleton.1 hd with rfl
  trivial
theorem Ot {l:Nat} {args:Array Value}:dL C P (jM C S r) (Instr.yield l args):=by
 unfold Instr.yield
 refine dL.bind (fun r hr=>?_) jG
 split
 ·exact fU inferInstance fun _=>⟨hr.1,hr.2.1⟩
 ·exact ⟨hr.1,hr.2.1⟩
theorem BQ {l:Nat}:dL C P (fun _=>True) (Instr.beginRound l):=by
 unfold Instr.beginRound
 refine dL.bind (fun r hr=>?_) jG
 refine ⟨⟨hr.1,hr.2.1,hr.2.2⟩,?_⟩
 show dL C P _ (match r.state with | .ready=>_ | .done=>_ | .busy=>_ | .exhausted=>_)
 split
 ·trivial
 ·exact dN _
 ·exact dN _
 ·exact dN _
theorem Gl {l:Nat} {jump:Option Code} (hj:∀ c,jump=some c→C c):dL C P (fun _=>True) (Instr.endRound l jump):=by
 unfold Instr.endRound
 refine dL.bind (fun r hr=>?_) jG
 exact ⟨⟨hr.1,hr.2.1,hj⟩,trivial⟩
theorem Jr {l:Nat}:dL C P (fun j:Option Code=>∀ c,j=some c→C c) (Instr.endLoop l):=by
 unfold Instr.endLoop
 refine dL.bind (fun r hr=>?_) jG
 split
 ·refine dL.bind (φ:=fun _=>True) (fun _ _=>?_) (dN _)
  exact ⟨⟨hr.1,hr.2.1,hr.2.2⟩,hr.2.2⟩
 ·exact ⟨⟨hr.1,hr.2.1,hr.2.2⟩,hr.2.2⟩
theorem y7 {l:Nat} {d:Deferred} (hd:iZ d):dL C P (fun _=>True) (Instr.deferInRound l d):=by
 unfold Instr.deferInRound
 refine dL.bind (φ:=fun _=>True) (fun r _=>?_) (dL.mono (fun _ _=>trivial) jG)
 intro o ho
 show dL C P _ (match o with | .deferred (some ds)=>_ | .deferred none=>_ | _=>_)
 cases o with
 | deferred c =>
  cases c with
  | none=>trivial
  | some ds =>
   refine ⟨fun x hx=>?_,trivial⟩
   rcases List.mem_cons.1 hx with rfl | h
   ·exact hd
   ·exact ho x h
 | _=>trivial
theorem zI {b:Nat}:dL C P (fun ds:List Deferred=>∀ d∈ds,iZ d) (Instr.takeDeferred b):=by
 unfold Instr.takeDeferred
 intro o ho
 show dL C P _ (match o with | .deferred (some ds)=>_ | _=>_)
 cases o with
 | deferred c =>
  cases c with
  | none=>trivial
  | some ds=>exact ⟨trivial,ho⟩
 | _=>trivial
theorem IL {b:Builtin} (hb:oL b=true) (hr:isRecover b=true→r=true) (ats:Array TypeId) (t:TypeId) (cs:Array Bool) (args:Array Value):dL C P (jM C S r) (builtin b ats t cs args):=by
 unfold builtin
 cases b <;> first | (cases hb;done) | exact tX inferInstance | exact hr rfl
def aau (P:Program) (f:FuncId):Prop :=
 ∀ fn,P.funcs[f]? = some fn→(fn.name == "runtime.NumGoroutine")=false∧(fn.body.isNone=true→(Extern.findNext fn).isNone=true∧∀ e,Extern.find fn=some e→∀ args,Calm (e args))
theorem qH {f:FuncId} (h:aau P f) (hS:S f) (args:Array Value):dL C P (jM C S r) (callFunc f args):=by
 unfold callFunc
 show dL C P _ (match P.funcs[f]? with | none=>_ | some fn=>_)
 cases hf:P.funcs[f]? with
 | none=>trivial
 | some fn =>
  obtain ⟨hn,hx⟩:=h fn hf
  simp only [hn,Bool.false_eq_true,if_false]
  split
  ·rename_i hb
   obtain ⟨h1,h2⟩:=hx hb
   refine fU inferInstance fun _=>?_
   cases hfn:Extern.findNext fn with
   | some e=>rw [hfn] at h1;cases h1
   | none =>
    show dL C P _ (match Extern.find fn with | some e=>_ | none=>_)
    cases he:Extern.find fn with
    | some e=>exact tX (h2 e he args)
    | none =>
     dsimp only
     split
     ·trivial
     ·trivial
  ·exact hS
end
open Go.Extern Go.Extern.Rtype
instance {α:Type} {m:String}:ak (panicString m:Sem α):=by
 unfold panicString
 exact ks
instance {s:String}:ak (cutType s):=by
 unfold cutType
 exact ks
instance {t:TypeId}:ak (typeStr t):=by
 unfold typeStr
 exact ks
instance {v:Value}:ak (Rtype.ofHandle v):=by
 unfold Rtype.ofHandle
 exact ks
instance {t:TypeId}:ak (Rtype.handle t):=by
 unfold Rtype.handle
 exact ks
instance {w:String} {t:TypeId}:ak (Rtype.noPack w t):=by
 unfold Rtype.noPack
 exact ks
instance {w:String} {t:TypeId}:ak (Rtype.noPackHeld w t):=by
 unfold Rtype.noPackHeld
 exact ks
instance {w:String} {t:TypeId}:ak (Rtype.noPackNamed w t):=by
 unfold Rtype.noPackNamed
 exact ks
instance {w:String} {t:TypeId}:ak (Rtype.noPackMethods w t):=by
 unfold Rtype.noPackMethods
 exact ks
instance {t:TypeId}:ak (Rtype.spelt t):=by
 unfold Rtype.spelt
 exact ks
instance {t:TypeId}:ak (Rtype.under t):=by
 unfold Rtype.under
 exact ks
instance {t:TypeId}:ak (Rtype.kind t):=by
 unfold Rtype.kind
 exact ks
instance {t:TypeId}:ak (Rtype.hasName t):=by
 unfold Rtype.hasName
 exact ks
instance {t:TypeId}:ak (Rtype.elem? t):=by
 unfold Rtype.elem?
 exact ks
instance {t u:TypeId}:ak (Rtype.implements t u):=by
 unfold Rtype.implements
 exact ks
instance {t u:TypeId}:ak (Rtype.directlyAssignable t u):=by
 unfold Rtype.directlyAssignable
 exact ks
instance {t:TypeId}:ak (ReflectliteType.toType t):=by
 unfold ReflectliteType.toType
 exact ks
instance {v:Value}:ak (ReflectliteType.ofRtype v):=by
 unfold ReflectliteType.ofRtype
 cases v <;> first | exact aF | skip
 rename_i c
 obtain ⟨l⟩:=c
 match l with
 | []=>exact aF
 | [x0] =>
  refine aW inferInstance fun t=>aW inferInstance fun _=>inferInstance
 | _ :: _ :: _=>exact aF
instance {a:Array Value}:ak (ReflectliteType.typeOf a):=by
 unfold ReflectliteType.typeOf
 obtain ⟨l⟩:=a
 match l with
 | []=>exact aF
 | [x0] =>
  cases x0 <;> first | exact aF | exact FD | skip
  rename_i t v
  show ak (ReflectliteType.toType t)
  infer_instance
 | _ :: _ :: _=>exact aF
instance {f:TypeId→Sem Value} {a:Array Value} [∀ t,ak (f t)]:ak (ReflectliteType.method f a):=by
 unfold ReflectliteType.method
 obtain ⟨l⟩:=a
 match l with
 | []=>exact aF
 | [x0] =>
  exact aW inferInstance fun t=>inferInstance
 | _ :: _ :: _=>exact aF
instance {t:TypeId}:ak (ReflectliteType.elem t):=by
 unfold ReflectliteType.elem
 exact ks
instance {t:TypeId}:ak (ReflectliteType.name t):=by
 unfold ReflectliteType.name
 exact ks
instance {t:TypeId}:ak (ReflectliteType.pkgPath t):=by
 unfold ReflectliteType.pkgPath
 exact ks
instance {w:String} {f:TypeId→TypeId→Sem Bool} {a:Array Value} [∀ t u,ak (f t u)]:ak (ReflectliteType.relation w f a):=by
 unfold ReflectliteType.relation
 obtain ⟨l⟩:=a
 match l with
 | []=>exact aF
 | [_]=>exact aF
 | [x0,x1] =>
  cases x1 <;> first | exact aF | skip
  case nilIface=>exact (inferInstance:ak (panicString _:Sem Value))
  case iface t v=>exact aW inferInstance fun t=>aW inferInstance fun u=>aW inferInstance fun b=>inferInstance
 | _ :: _ :: _ :: _=>exact aF
instance {t u:TypeId}:ak (ReflectliteType.implements_ t u):=by
 unfold ReflectliteType.implements_
 exact ks
instance {t u:TypeId}:ak (ReflectliteType.assignableTo t u):=by
 unfold ReflectliteType.assignableTo
 exact ks
instance {f:TypeId→Sem Value} {a:Array Value} [∀ t,ak (f t)]:ak (ReflectliteType.abiMethod f a):=by
 unfold ReflectliteType.abiMethod
 obtain ⟨l⟩:=a
 match l with
 | []=>exact aF
 | [x0] =>
  exact aW inferInstance fun t=>aW inferInstance fun _=>inferInstance
 | _ :: _ :: _=>exact aF
instance {t:TypeId} {a:Addr} {n:Nat}:ak (ReflectliteValue.mk t a n):=by
 unfold ReflectliteValue.mk
 exact ks
instance {v:Value}:ak (ReflectliteValue.unpack v):=by
 unfold ReflectliteValue.unpack
 exact ks
instance {α:Type} {m:String} {k:Nat}:ak (ReflectliteValue.valueError m k:Sem α):=by
 unfold ReflectliteValue.valueError
 exact ks
instance {v:Value}:ak (ReflectliteValue.partsAny v):=by
 unfold ReflectliteValue.partsAny
 cases v <;> first | exact aF | skip
 rename_i c
 obtain ⟨l⟩:=c
 match l with
 | []=>exact aF
 | [_]=>exact aF
 | [_,_]=>exact aF
 | [x0,x1,x2] =>
  cases x2 <;> first | exact aF | skip
  rename_i k n
  cases k <;> first | exact aF | skip
  rcases n with (_ | n) | n
  ·exact FD
  all_goals
   cases x1 <;> first | exact aF | skip
   rename_i p
   cases p <;> first | exact aF | exact aW inferInstance fun t=>inferInstance
 | _ :: _ :: _ :: _ :: _=>exact aF
instance {v:Value}:ak (ReflectliteValue.parts v):=by
 unfold ReflectliteValue.parts
 exact ks
instance {z:Sem Value} {f:TypeId→Addr→Nat→Nat→Sem Value} {a:Array Value} [ak z] [∀ t a m n,ak (f t a m n)]:ak (ReflectliteValue.method z f a):=by
 unfold ReflectliteValue.method
 obtain ⟨l⟩:=a
 match l with
 | []=>exact aF
 | [x0] =>
  refine aW inferInstance fun o=>?_
  split <;> infer_instance
 | _ :: _ :: _=>exact aF
instance {z:Sem Value} {f:TypeId→Addr→Nat→Nat→Sem Value} {a:Array Value} [ak z] [∀ t a m n,ak (f t a m n)]:ak (ReflectliteValue.methodAny z f a):=by
 unfold ReflectliteValue.methodAny
 obtain ⟨l⟩:=a
 match l with
 | []=>exact aF
 | [x0] =>
  refine aW inferInstance fun o=>?_
  split <;> infer_instance
 | _ :: _ :: _=>exact aF
instance {t:TypeId} {a:Addr} {m n:Nat}:ak (ReflectliteValue.isNil t a m n):=by
 unfold ReflectliteValue.isNil
 exact ks
instance {t:TypeId} {a:Addr} {m n:Nat}:ak (ReflectliteValue.elem t a m n):=by
 unfold ReflectliteValue.elem
 exact ks
instance {a:Array Value}:ak (ReflectliteValue.set a):=by
 unfold ReflectliteValue.set
 obtain ⟨l⟩:=a
 match l with
 | []=>exact aF
 | [_]=>exact aF
 | [x0,x1] =>
  refine aW inferInstance fun o1=>aW inferInstance fun o2=>?_
  exact ks
 | _ :: _ :: _ :: _=>exact aF
instance {a:Array Value}:ak (ReflectliteValue.errorText a):=by
 unfold ReflectliteValue.errorText
 obtain ⟨l⟩:=a
 match l with
 | []=>exact aF
 | [x0] =>
  cases x0 <;> first | exact aF | skip
  rename_i p
  cases p with
  | none=>exact ⟨fun C P=>dh _⟩
  | some e =>
   show ak (load e >>= _)
   refine aW inferInstance fun v=>aW inferInstance fun m=>aW inferInstance fun k=>aW inferInstance fun n=>inferInstance
 | _ :: _ :: _=>exact aF
instance {s:String}:ak (RuntimeError.text s):=by
 unfold RuntimeError.text
 exact ks
instance {a:Array Value}:ak (RuntimeError.boundsError a):=by
 unfold RuntimeError.boundsError
 obtain ⟨l⟩:=a
 match l with
 | []=>exact aF
 | [x0] =>
  cases x0 <;> first | exact aF | skip
  rename_i c
  obtain ⟨l⟩:=c
  match l with
  | []=>exact aF
  | [_]=>exact aF
  | [_,_]=>exact aF
  | [_,_,_]=>exact aF
  | _ :: _ :: _ :: _ :: _ :: _=>exact aF
  | [a,b,c,d] =>
   cases a <;> first | exact aF | skip
   cases b <;> first | exact aF | skip
   cases c <;> first | exact aF | skip
   cases d <;> first | exact aF | skip
   rename_i k x k' y sg k2 code
   show ak (match (if sg && x < 0 then RuntimeError.boundsNegErrorFmts else RuntimeError.boundsErrorFmts)[code.toNat]? with | some fmt=>RuntimeError.text _ | none=>stuck _)
   generalize (if sg && x < 0 then RuntimeError.boundsNegErrorFmts else RuntimeError.boundsErrorFmts)[code.toNat]? = o
   cases o <;> infer_instance
 | _ :: _ :: _=>exact aF
instance {v:Value}:ak (RuntimeError.described v):=by
 unfold RuntimeError.described
 exact ks
instance {v:TypeInfo}:ak (RuntimeError.pkgpathOf v):=by
 unfold RuntimeError.pkgpathOf
 exact ks
instance {a:Array Value}:ak (RuntimeError.typeAssertionError a):=by
 unfold RuntimeError.typeAssertionError
 exact ks
instance {a:Array Value}:ak (RuntimeError.unhashableTypeError a):=by
 unfold RuntimeError.unhashableTypeError
 obtain ⟨l⟩:=a
 match l with
 | []=>exact aF
 | [x0] =>
  cases x0 <;> first | exact aF | skip
  rename_i c
  obtain ⟨l⟩:=c
  match l with
  | []=>exact aF
  | [x] =>
   refine aW inferInstance fun o=>?_
   cases o with
   | none=>exact ⟨fun C P=>dh _⟩
   | some t=>infer_instance
  | _ :: _ :: _=>exact aF
 | _ :: _ :: _=>exact aF
instance {a:Array Value}:ak (RuntimeError.nothing a):=by
 unfold RuntimeError.nothing
 exact ks
instance {t:TypeId} {a:Addr} {m n:Nat}:ak (ReflectliteValue.len t a m n):=by
 unfold ReflectliteValue.len
 exact ks
theorem gJ:∀ x∈ReflectliteType.rows,∀ a,ak (x.2 a):=by
 intro x hx a
 simp only [ReflectliteType.rows,List.mem_cons,List.not_mem_nil,or_false] at hx
 rcases hx with rfl | rfl | rfl | rfl | rfl | rfl | rfl | rfl | rfl | rfl | rfl | rfl <;> dsimp only <;> infer_instance
theorem mP:∀ x∈ReflectliteValue.rows,∀ a,ak (x.2 a):=by
 intro x hx a
 simp only [ReflectliteValue.rows,List.mem_cons,List.not_mem_nil,or_false] at hx
 rcases hx with rfl | rfl | rfl | rfl | rfl | rfl | rfl | rfl | rfl | rfl <;> dsimp only <;> infer_instance
theorem fE:∀ x∈RuntimeError.rows,∀ a,ak (x.2 a):=by
 intro x hx a
 simp only [RuntimeError.rows,List.mem_cons,List.not_mem_nil,or_false] at hx
 rcases hx with rfl | rfl | rfl | rfl | rfl | rfl | rfl | rfl | rfl | rfl | rfl | rfl | rfl | rfl | rfl <;> dsimp only <;> infer_instance
end Go.Tm
