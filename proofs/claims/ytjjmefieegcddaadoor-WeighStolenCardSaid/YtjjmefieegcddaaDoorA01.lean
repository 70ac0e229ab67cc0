/- A part of the proof: T0, T1. -/
import Derived.Conc.Beside
set_option linter.unusedVariables false
set_option linter.unusedSimpArgs false
namespace Go.Tm
open Go
def okBuiltin:Builtin→Bool
 | .append | .cap | .copy | .delete | .len | .max | .min | .panic | .recover | .clear=>true
 | _=>false
def isRecover:Builtin→Bool
 | .recover=>true
 | _=>false
def OkDef (d:Deferred):Prop :=
 match d.target with
 | .builtin b .. => okBuiltin b=true∧isRecover b=false
 | .coroexit _=>False
 | _=>True
def OkObj (C:Code→Prop):Obj→Prop
 | .loop l=>C l.assign∧C l.body∧(∀ c,l.pending=some c→C c)
 | .chan cap buf closed _ _ _=>cap=0∧buf=#[]∧closed=false
 | .pending .. => False
 | .deferred (some ds)=>∀ d∈ds,OkDef d
 | _=>True
def OkHalt:Halt→Prop
 | .blocked | .waiting=>False
 | .unsupported (.initOrder _)=>False
 | _=>True
def Tame (C:Code→Prop) (P:Program) {α:Type} (φ:α→Prop):Sem α→Prop
 | .pure a=>φ a
 | .load _ _ k=>∀ v,Tame C P φ (k v)
 | .store _ _ _ k=>Tame C P φ k
 | .new o k=>OkObj C o∧∀ n,Tame C P φ (k n)
 | .shape _ k=>∀ s,Tame C P φ (k s)
 | .freeze _ _ k=>Tame C P φ k
 | .frozen _ k=>∀ b,Tame C P φ (k b)
 | .getObj _ k=>∀ o,OkObj C o→Tame C P φ (k o)
 | .setObj _ o k=>OkObj C o∧Tame C P φ k
 | .choose _ k=>∀ n,Tame C P φ (k n)
 | .sys c k=>c=.env∧∀ r,Tame C P φ (k r)
 | .program k=>Tame C P φ (k P)
 | .mark m k=>m≠.disable∧m≠.enable∧Tame C P φ k
 | .halt h=>OkHalt h
section
variable {C:Code→Prop} {P:Program} {α β:Type} {φ:α→Prop} {ψ:β→Prop}
theorem Tame.mono {φ':α→Prop} (h:∀ a,φ a→φ' a) {s:Sem α} (x:Tame C P φ s):Tame C P φ' s:=by
 induction s with
 | pure a=>exact h _ x
 | load m a k ih=>exact fun v=>ih v (x v)
 | store m a v k ih=>exact ih x
 | new o k ih=>exact ⟨x.1,fun n=>ih n (x.2 n)⟩
 | shape r k ih=>exact fun v=>ih v (x v)
 | freeze a n k ih=>exact ih x
 | frozen a k ih=>exact fun v=>ih v (x v)
 | getObj r k ih=>exact fun v hv=>ih v (x v hv)
 | setObj r o k ih=>exact ⟨x.1,ih x.2⟩
 | choose q k ih=>exact fun v=>ih v (x v)
 | sys c k ih=>exact ⟨x.1,fun v=>ih v (x.2 v)⟩
 | program k ih=>exact ih _ x
 | mark m k ih=>exact ⟨x.1,x.2.1,ih x.2.2⟩
 | halt h=>exact x
theorem Tame.bind {f:α→Sem β} (hf:∀ a,φ a→Tame C P ψ (f a)) {s:Sem α} (x:Tame C P φ s):Tame C P ψ (s >>= f):=by
 show Tame C P ψ (s.bind f)
 induction s with
 | pure a=>exact hf _ x
 | load m a k ih=>exact fun v=>ih v (x v)
 | store m a v k ih=>exact ih x
 | new o k ih=>exact ⟨x.1,fun n=>ih n (x.2 n)⟩
 | shape r k ih=>exact fun v=>ih v (x v)
 | freeze a n k ih=>exact ih x
 | frozen a k ih=>exact fun v=>ih v (x v)
 | getObj r k ih=>exact fun v hv=>ih v (x v hv)
 | setObj r o k ih=>exact ⟨x.1,ih x.2⟩
 | choose q k ih=>exact fun v=>ih v (x v)
 | sys c k ih=>exact ⟨x.1,fun v=>ih v (x.2 v)⟩
 | program k ih=>exact ih _ x
 | mark m k ih=>exact ⟨x.1,x.2.1,ih x.2.2⟩
 | halt h=>exact x
end
def strange:Obj→Bool
 | .loop _ | .deferred _ | .pending .. | .chan .. => true
 | _=>false
abbrev clean:Obj:=.finalizers #[] none
def badH:Halt→Prop
 | .stuck _=>True
 | .unsupported (.initOrder _)=>False
 | .unsupported _=>True
 | _=>False
def NoInit:Halt→Prop
 | .unsupported (.initOrder _)=>False
 | _=>True
def isDead {α:Type}:Sem α→Prop
 | .halt h=>badH h
 | _=>False
def Shy (q:Bool) (C:Code→Prop) (P:Program) {α:Type} (φ:α→Prop):Sem α→Prop
 | .pure a=>φ a
 | .load _ _ k=>∀ v,Shy q C P φ (k v)
 | .store _ _ _ k=>Shy q C P φ k
 | .new o k=>OkObj C o∧∀ n,Shy q C P φ (k n)
 | .shape _ k=>∀ s,Shy q C P φ (k s)
 | .freeze _ _ k=>Shy q C P φ k
 | .frozen _ k=>∀ b,Shy q C P φ (k b)
 | .getObj _ k=>(∀ o,OkObj C o→Shy q C P φ (k o))∧∀ o,strange o=true→isDead (k clean)∨k clean=k o
 | .setObj _ o k=>(OkObj C o∧o≠clean)∧Shy q C P φ k
 | .choose _ k=>∀ n,Shy q C P φ (k n)
 | .sys c k=>(q=true→c=.env)∧∀ r,Shy q C P φ (k r)
 | .program k=>Shy q C P φ (k P)
 | .mark m k=>(q=true→m≠.disable∧m≠.enable)∧Shy q C P φ k
 | .halt h=>(q=true→OkHalt h)∧NoInit h
section
variable {q:Bool} {C:Code→Prop} {P:Program} {α β:Type} {φ:α→Prop} {ψ:β→Prop}
theorem isDead_bind {f:α→Sem β} {s:Sem α} (h:isDead s):isDead (s.bind f):=by
 cases s <;> first | exact (show False from h).elim | exact h
theorem Shy.mono {φ':α→Prop} (h:∀ a,φ a→φ' a) {s:Sem α} (x:Shy q C P φ s):Shy q C P φ' s:=by
 induction s with
 | pure a=>exact h _ x
 | load m a k ih=>exact fun v=>ih v (x v)
 | store m a v k ih=>exact ih x
 | new o k ih=>exact ⟨x.1,fun n=>ih n (x.2 n)⟩
 | shape r k ih=>exact fun v=>ih v (x v)
 | freeze a n k ih=>exact ih x
 | frozen a k ih=>exact fun v=>ih v (x v)
 | getObj r k ih=>exact ⟨fun o ho=>ih o (x.1 o ho),x.2⟩
 | setObj r o k ih=>exact ⟨x.1,ih x.2⟩
 | choose q k ih=>exact fun v=>ih v (x v)
 | sys c k ih=>exact ⟨x.1,fun v=>ih v (x.2 v)⟩
 | program k ih=>exact ih _ x
 | mark m k ih=>exact ⟨x.1,ih x.2⟩
 | halt h=>exact x
theorem Shy.bind {f:α→Sem β} (hf:∀ a,φ a→Shy q C P ψ (f a)) {s:Sem α} (x:Shy q C P φ s):Shy q C P ψ (s >>= f):=by
 show Shy q C P ψ (s.bind f)
 induction s with
 | pure a=>exact hf a x
 | load m a k ih=>exact fun v=>ih v (x v)
 | store m a v k ih=>exact ih x
 | new o k ih=>exact ⟨x.1,fun n=>ih n (x.2 n)⟩
 | shape r k ih=>exact fun v=>ih v (x v)
 | freeze a n k ih=>exact ih x
 | frozen a k ih=>exact fun v=>ih v (x v)
 | getObj r k ih =>
  refine ⟨fun o ho=>ih o (x.1 o ho),fun o ho=>?_⟩
  rcases x.2 o ho with h | h
  ·exact .inl (isDead_bind h)
  ·exact .inr (show (k clean).bind f=(k o).bind f by rw [h])
 | setObj r o k ih=>exact ⟨x.1,ih x.2⟩
 | choose q k ih=>exact fun v=>ih v (x v)
 | sys c k ih=>exact ⟨x.1,fun v=>ih v (x.2 v)⟩
 | program k ih=>exact ih _ x
 | mark m k ih=>exact ⟨x.1,ih x.2⟩
 | halt h=>exact x
theorem tame_of_shy {s:Sem α} (x:Shy true C P φ s):Tame C P φ s:=by
 induction s with
 | pure a=>exact x
 | load m a k ih=>exact fun v=>ih v (x v)
 | store m a v k ih=>exact ih x
 | new o k ih=>exact ⟨x.1,fun n=>ih n (x.2 n)⟩
 | shape r k ih=>exact fun v=>ih v (x v)
 | freeze a n k ih=>exact ih x
 | frozen a k ih=>exact fun v=>ih v (x v)
 | getObj r k ih=>exact fun o ho=>ih o (x.1 o ho)
 | setObj r o k ih=>exact ⟨x.1.1,ih x.2⟩
 | choose q k ih=>exact fun v=>ih v (x v)
 | sys c k ih=>exact ⟨x.1 rfl,fun v=>ih v (x.2 v)⟩
 | program k ih=>exact ih _ x
 | mark m k ih=>exact ⟨(x.1 rfl).1,(x.1 rfl).2,ih x.2⟩
 | halt h=>exact x.1 rfl
end
class Shyc {α:Type} (s:Sem α):Prop where
 t:∀ (C:Code→Prop) (P:Program),Shy true C P (fun _=>True) s
section
variable {α β:Type}
theorem shy_bind {s:Sem α} {f:α→Sem β} (h:Shyc s) (hf:∀ a,Shyc (f a)):Shyc (s >>= f):=⟨fun C P=>Shy.bind (fun a _=>(hf a).t C P) (h.t C P)⟩
instance shy_bind_i {s:Sem α} {f:α→Sem β} [h:Shyc s] [hf:∀ a,Shyc (f a)]:Shyc (s >>= f):=shy_bind h hf
instance shy_map {s:Sem α} {f:α→β} [h:Shyc s]:Shyc (f <$> s):=(shy_bind h (fun a=>(⟨fun _ _=>trivial⟩:Shyc (pure (f a):Sem β))):Shyc (s >>= fun a=>pure (f a)))
theorem shy_ite2 {c:Prop} [Decidable c] {a b:Sem α} (ha:Shyc a) (hb:Shyc b):Shyc (if c then a else b):=by split <;> assumption
instance shy_pure {a:α}:Shyc (pure a:Sem α):=⟨fun _ _=>trivial⟩
instance shy_pure' {a:α}:Shyc (Sem.pure a:Sem α):=⟨fun _ _=>trivial⟩
instance shy_stuck {s:String}:Shyc (stuck s:Sem α):=⟨fun _ _=>⟨fun _=>trivial,trivial⟩⟩
instance shy_goPanic {v:Value}:Shyc (goPanic v:Sem α):=⟨fun _ _=>⟨fun _=>trivial,trivial⟩⟩
instance shy_throw {s:String}:Shyc (throw s:Sem α):=⟨fun _ _=>⟨fun _=>trivial,trivial⟩⟩
instance shy_fatal {s:String}:Shyc (fatal s:Sem α):=⟨fun _ _=>⟨fun _=>trivial,trivial⟩⟩
instance {s:String}:Shyc (unsupported (.extern s):Sem α):=⟨fun _ _=>⟨fun _=>trivial,trivial⟩⟩
instance {s:String}:Shyc (unsupported (.noEntry s):Sem α):=⟨fun _ _=>⟨fun _=>trivial,trivial⟩⟩
instance {s:String}:Shyc (unsupported (Unsupported.elab s):Sem α):=⟨fun _ _=>⟨fun _=>trivial,trivial⟩⟩
instance {s:String}:Shyc (unsupported (.unsafePointer s):Sem α):=⟨fun _ _=>⟨fun _=>trivial,trivial⟩⟩
instance {s:String}:Shyc (unsupported (.resourceLimit s):Sem α):=⟨fun _ _=>⟨fun _=>trivial,trivial⟩⟩
instance:Shyc (unsupported .evalOrder:Sem α):=⟨fun _ _=>⟨fun _=>trivial,trivial⟩⟩
instance:Shyc (unsupported .addressObserved:Sem α):=⟨fun _ _=>⟨fun _=>trivial,trivial⟩⟩
instance shy_program:Shyc program:=⟨fun _ _=>trivial⟩
instance shy_load {a:Addr} {m:Mode}:Shyc (load a m):=⟨fun _ _ _=>trivial⟩
instance shy_store {a:Addr} {v:Value} {m:Mode}:Shyc (store a v m):=⟨fun _ _=>trivial⟩
instance shy_shape {r:Nat}:Shyc (shape r):=⟨fun _ _ _=>trivial⟩
instance shy_freeze {a:Addr} {n:Nat}:Shyc (freeze a n):=⟨fun _ _=>trivial⟩
instance shy_frozen {a:Addr}:Shyc (frozen a):=⟨fun _ _ _=>trivial⟩
theorem shy_get {β:Type} {r:Nat} {f:Obj→Sem β} (h1:∀ o,Shyc (f o)) (h2:∀ o,strange o=true→isDead (f clean)∨f clean=f o):Shyc (getObj r >>= f):=⟨fun C P=>⟨fun o _=>(h1 o).t C P,fun o ho=>h2 o ho⟩⟩
instance shy_choose {q:Question}:Shyc (choose q):=⟨fun _ _ _=>trivial⟩
instance shy_sys:Shyc (sys .env):=⟨fun _ _=>⟨fun _=>rfl,fun _=>trivial⟩⟩
instance shy_noRoom:Shyc (mark .noRoom):=⟨fun _ _=>⟨fun _=>⟨by simp,by simp⟩,trivial⟩⟩
instance shy_extern {f:FuncId}:Shyc (mark (.extern f)):=⟨fun _ _=>⟨fun _=>⟨by simp,by simp⟩,trivial⟩⟩
theorem shy_newObj {o:Obj} (h:∀ C,OkObj C o):Shyc (newObj o):=⟨fun C _=>⟨h C,fun _=>trivial⟩⟩
theorem shy_setObj {r:Nat} {o:Obj} (h:∀ C,OkObj C o) (hc:o≠clean):Shyc (setObj r o):=⟨fun C _=>⟨⟨h C,hc⟩,trivial⟩⟩
instance {c:Array Value} {e:TypeId} {f:Nat × Nat}:Shyc (newObj (.cells c e f)):=shy_newObj fun _=>trivial
instance {a:Addr} {l:Bool}:Shyc (newObj (.number a l)):=shy_newObj fun _=>trivial
instance {a:Addr} {l:TypeId}:Shyc (newObj (.view a l)):=shy_newObj fun _=>trivial
instance {es:Array MapEntry} {c:Nat}:Shyc (newObj (.map es c)):=shy_newObj fun _=>trivial
instance {x:ByteArray} {c:Nat}:Shyc (newObj (.stringIter x c)):=shy_newObj fun _=>trivial
instance {m:Option Nat} {s:Nat} {a:Array Nat} {l:Nat}:Shyc (newObj (.mapIter m s a l)):=shy_newObj fun _=>trivial
instance:Shyc (newObj (.deferred (some []))):=shy_newObj fun _=>by simp [OkObj]
instance {r:Nat} {es:Array MapEntry} {c:Nat}:Shyc (setObj r (.map es c)):=shy_setObj (fun _=>trivial) (by simp)
instance {r:Nat} {x:ByteArray} {c:Nat}:Shyc (setObj r (.stringIter x c)):=shy_setObj (fun _=>trivial) (by simp)
instance {r:Nat} {m:Option Nat} {s:Nat} {a:Array Nat} {l:Nat}:Shyc (setObj r (.mapIter m s a l)):=shy_setObj (fun _=>trivial) (by simp)
instance {r:Nat}:Shyc (setObj r (.deferred none)):=shy_setObj (fun _=>trivial) (by simp)
instance shy_ite {c:Prop} [Decidable c] {a b:Sem α} [Shyc a] [Shyc b]:Shyc (if c then a else b):=by split <;> infer_instance
theorem shy_foldlM {γ:Type} (f:β→γ→Sem β) (h:∀ b c,Shyc (f b c)):∀ (l:List γ) (b:β),Shyc (l.foldlM f b)
 | [],b=>by simp only [List.foldlM_nil];infer_instance
 | c :: l,b=>by simp only [List.foldlM_cons];exact shy_bind (h b c) fun b'=>shy_foldlM f h l b'
theorem shy_forIn_list {γ:Type} (f:γ→β→Sem (ForInStep β)) (h:∀ c b,Shyc (f c b)):∀ (l:List γ) (b:β),Shyc (forIn l b f)
 | [],b=>by simp only [List.forIn_nil];infer_instance
 | c :: l,b=>by
  rw [List.forIn_cons]
  refine shy_bind (h c b) fun r=>?_
  cases r
  ·infer_instance
  ·exact shy_forIn_list f h l _
end
section
variable {α β γ:Type}
theorem shy_forIn_arr (f:γ→β→Sem (ForInStep β)) (h:∀ c b,Shyc (f c b)) (l:Array γ) (b:β):Shyc (forIn l b f):=by
 rw [← Array.forIn_toList];exact shy_forIn_list f h _ _
theorem shy_forIn_range (f:Nat→β→Sem (ForInStep β)) (h:∀ c b,Shyc (f c b)) (l:Std.Legacy.Range) (b:β):Shyc (forIn l b f):=by
 rw [Std.Legacy.Range.forIn_eq_forIn_range'];exact shy_forIn_list f h _ _
theorem shy_mapM (f:β→Sem γ) (h:∀ c,Shyc (f c)) (l:Array β):Shyc (l.mapM f):=by
 rw [Array.mapM_eq_foldlM,← Array.foldlM_toList]
 exact shy_foldlM _ (fun b c=>by have:=h c;infer_instance) _ _
end
theorem ks {α:Type} {s:Sem α} (h:Shyc s:=by repeat' (first | infer_instance | (refine shy_get ?_ (fun o ho=>by cases o <;> first | exact .inl trivial | exact .inr rfl | (exfalso;simp [strange] at ho;done))) | (apply shy_forIn_arr;intro _ _) | (apply shy_forIn_range;intro _ _) | (apply shy_mapM;intro _) | apply shy_ite2 | apply shy_bind | intro _ | dsimp only | split)):Shyc s:=h
section
instance {t:TypeId}:Shyc (typeInfo t):=by
 unfold typeInfo
 exact ks
instance {t:TypeId}:Shyc (underlying t):=by
 unfold underlying
 exact ks
instance {s:String}:Shyc (cutType s):=by
 unfold cutType
 exact ks
instance {s:String}:Shyc (globalAddr s):=by
 unfold globalAddr
 exact ks
instance {t:TypeId}:Shyc (typeStr t):=by
 unfold typeStr
 exact ks
instance {t:TypeId}:Shyc (zeroValue t):=by
 unfold zeroValue
 exact ks
instance {t:TypeId}:Shyc (sizeOf t):=by
 unfold sizeOf
 exact ks
instance {t:TypeId}:Shyc (isAgg t):=by
 unfold isAgg
 exact ks
instance {r:Nat}:Shyc (viewAt r):=by
 unfold viewAt
 exact ks
instance {r:Nat}:Shyc (numberAt r):=by
 unfold numberAt
 exact ks
instance {a:Addr} {l:Bool}:Shyc (asNumber a l):=by
 unfold asNumber
 exact ks
instance {a:Addr}:Shyc (behindNumber a):=by
 unfold behindNumber
 exact ks
instance {a:Addr}:Shyc (backFromNumber a):=by
 unfold backFromNumber
 exact ks
instance {a:Addr}:Shyc (noView a):=by
 unfold noView
 exact ks
instance {a:Addr}:Shyc (markStringish a):=by
 unfold markStringish
 exact ks
instance {a:Addr}:Shyc (stringish a):=by
 unfold stringish
 exact ks
instance {a b:Addr}:Shyc (mayBeOne a b):=by
 unfold mayBeOne
 exact ks
instance {a b:Addr}:Shyc (sameAddr a b):=by
 unfold sameAddr
 exact ks
instance {a b:Option Addr}:Shyc (samePointer a b):=by
 unfold samePointer
 exact ks
theorem shy_loadCellsFrom (a:Addr):∀ (n i:Nat) (acc:Array Value),Shyc (loadCellsFrom a i n acc)
 | 0,i,acc=>by unfold loadCellsFrom;infer_instance
 | n+1,i,acc=>by unfold loadCellsFrom;exact shy_bind inferInstance fun v=>shy_loadCellsFrom a n _ _
instance {a:Addr} {n:Nat}:Shyc (loadCells a n):=by unfold loadCells;exact shy_loadCellsFrom a n 0 #[]
theorem shy_storeCells (a:Addr):∀ (vs:List Value) (i:Nat),Shyc (storeCells a vs i)
 | [],i=>by unfold storeCells;infer_instance
 | v :: vs,i=>by unfold storeCells;exact shy_bind inferInstance fun _=>shy_storeCells a vs _
instance {a:Addr} {vs:List Value} {i:Nat}:Shyc (storeCells a vs i):=shy_storeCells a vs i
instance {t:TypeId} {a:Addr}:Shyc (loadVar t a):=by
 unfold loadVar
 exact ks
instance {t:TypeId} {a:Addr} {v:Value}:Shyc (storeVar t a v):=by
 unfold storeVar
 exact ks
instance {t:TypeId} {c:Array Value}:Shyc (newRow t c):=by
 unfold newRow
 exact ks
instance {t:TypeId} {v:Value}:Shyc (newVar t v):=by
 unfold newVar
 exact ks
instance {t:TypeId}:Shyc (elemOf t):=by
 unfold elemOf
 exact ks
instance {t:TypeId} {cs:Array Value} {off:Nat}:Shyc (part t cs off):=by
 unfold part
 exact ks
instance {α:Type} {s:String}:Shyc ((panicString s:Sem α)):=by
 unfold panicString
 exact ks
instance {α:Type} {e:RuntimeError}:Shyc ((runtimePanic e:Sem α)):=by
 unfold runtimePanic
 exact ks
instance {α:Type} {k:IntKind} {x y:Int} {c:BoundsCode}:Shyc ((boundsPanic k x y c:Sem α)):=by
 unfold boundsPanic
 exact ks
instance {v:Value}:Shyc (asIntOf v):=by
 unfold asIntOf
 exact ks
instance {v:Value}:Shyc (asInt v):=by
 unfold asInt
 exact ks
instance {v:Value}:Shyc (asBool v):=by
 unfold asBool
 exact ks
instance {v:Value}:Shyc (asString v):=by
 unfold asString
 exact ks
instance {v:Value}:Shyc (asAgg v):=by
 unfold asAgg
 exact ks
instance {v:Value}:Shyc (asAddr v):=by
 unfold asAddr
 exact ks
instance {n:Nat}:Shyc (askRoom n):=by
 unfold askRoom
 exact ks
instance {a:Addr}:Shyc (byteOf a):=by
 unfold byteOf
 exact ks
instance {a:Addr} {c b:Nat}:Shyc (partAt a c b):=by
 unfold partAt
 exact ks
instance {a:Addr} {f:Field}:Shyc (fieldPlace a f):=by
 unfold fieldPlace
 exact ks
instance {a:Addr} {u:TypeId} {n:Nat}:Shyc (variablesAt a u n):=by
 unfold variablesAt
 exact ks
instance {e:TypeId} {h:Bool} {o:Value}:Shyc (Instr.alloc e h o):=by
 unfold Instr.alloc
 exact ks
instance {v:Value}:Shyc (Instr.sureAddr v):=by
 unfold Instr.sureAddr
 exact ks
instance {t:TypeId} {a:Value}:Shyc (Instr.loadAt t a):=by
 unfold Instr.loadAt
 exact ks
instance {t:TypeId} {a v:Value}:Shyc (Instr.storeAt t a v):=by
 unfold Instr.storeAt
 exact ks
instance {t:TypeId} {a:Value} {f:Nat}:Shyc (Instr.fieldAt t a f):=by
 unfold Instr.fieldAt
 exact ks
instance {t:TypeId} {a i:Value}:Shyc (Instr.indexAt t a i):=by
 unfold Instr.indexAt
 exact ks
instance {x:Value} {y:Nat} {c:BoundsCode}:Shyc (Instr.sliceBound x y c):=by
 unfold Instr.sliceBound
 exact ks
instance {b:Bool} {l c:Nat} {x y z:Option Value}:Shyc (Instr.sliceBounds b l c x y z):=by
 unfold Instr.sliceBounds
 exact ks
instance {t:TypeId} {v:Value} {x y z:Option Value}:Shyc (Instr.slice t v x y z):=by
 unfold Instr.slice
 exact ks
instance {t:TypeId} {v:Value} {x y z:Option Value}:Shyc (Instr.sliceAt t v x y z):=by
 unfold Instr.sliceAt
 exact ks
instance {t:TypeId} {v:Value}:Shyc (Instr.arrayAt t v):=by
 unfold Instr.arrayAt
 exact ks
instance {t:TypeId} {v:Value}:Shyc (Instr.box t v):=by
 unfold Instr.box
 exact ks
instance {t:TypeId} {p:Array (Nat × Value)}:Shyc (Instr.build t p):=by
 unfold Instr.build
 exact ks
instance {t:TypeId} {n:Nat} {p:Array (Nat × Value)}:Shyc (Instr.buildSlice t n p):=by
 unfold Instr.buildSlice
 exact ks
instance {t:TypeId} {v:Value}:Shyc (Instr.makeInterface t v):=by
 unfold Instr.makeInterface
 exact ks
instance {f:Fn} {a b:Array Value}:Shyc (Instr.makeFunc f a b):=by
 unfold Instr.makeFunc
 exact ks
instance {t:TypeId} {r:Option Value}:Shyc (Instr.makeMap t r):=by
 unfold Instr.makeMap
 exact ks
instance {t:TypeId} {l c:Value}:Shyc (Instr.makeSlice t l c):=by
 unfold Instr.makeSlice
 exact ks
instance {t:TypeId} {v:Value} {f:Nat}:Shyc (Instr.field t v f):=by
 unfold Instr.field
 exact ks
instance {t:TypeId} {v i:Value}:Shyc (Instr.index t v i):=by
 unfold Instr.index
 exact ks
theorem shy_equalIn:∀ (d:Nat) (t:TypeId) (x y:Value),Shyc (Op.equalIn d t x y)
 | 0,t,x,y=>by unfold Op.equalIn;infer_instance
 | d+1,t,x,y=>by
  have ih:=shy_equalIn d
  unfold Op.equalIn
  exact ks
instance {t:TypeId} {x y:Value}:Shyc (Op.equal t x y):=shy_equalIn _ t x y
theorem shy_eqGuardIn:∀ (d:Nat) (t:TypeId) (x y:Value),Shyc (Op.eqGuardIn d t x y)
 | 0,t,x,y=>by unfold Op.eqGuardIn;infer_instance
 | d+1,t,x,y=>by
  have ih:=shy_eqGuardIn d
  unfold Op.eqGuardIn
  exact ks
instance {d:Nat} {t:TypeId} {x y:Value}:Shyc (Op.eqGuardIn d t x y):=shy_eqGuardIn d t x y
theorem shy_checkKey (e:Bool):∀ (d:Nat) (t:TypeId) (x:Value),Shyc (Instr.checkKey e d t x)
 | 0,t,x=>by unfold Instr.checkKey;infer_instance
 | d+1,t,x=>by
  have ih:=shy_checkKey e d
  unfold Instr.checkKey
  exact ks
instance {e:Bool} {d:Nat} {t:TypeId} {x:Value}:Shyc (Instr.checkKey e d t x):=shy_checkKey e d t x
theorem shy_findAsking (t:TypeId) (k:Value):∀ (es:List MapEntry) (i:Nat),Shyc (Instr.findAsking t k es i)
 | [],i=>by unfold Instr.findAsking;infer_instance
 | e :: es,i=>by
  have ih:=shy_findAsking t k es (i+1)
  unfold Instr.findAsking
  infer_instance
instance {t:TypeId} {k:Value} {es:List MapEntry} {i:Nat}:Shyc (Instr.findAsking t k es i):=shy_findAsking t k es i
instance {t:TypeId} {k:Value} {es:List MapEntry}:Shyc (Instr.findKey t k es):=by
 unfold Instr.findKey
 exact ks
instance {t:TypeId} {x i:Value} {c:Bool}:Shyc (Instr.lookup t x i c):=by
 unfold Instr.lookup
 exact ks
instance {x y:Value}:Shyc (Instr.keyThatStays x y):=by
 unfold Instr.keyThatStays
 exact ks
instance {t:TypeId} {m k v:Value}:Shyc (Instr.mapUpdate t m k v):=by
 unfold Instr.mapUpdate
 exact ks
instance {t:TypeId} {x:Value}:Shyc (Instr.range t x):=⟨fun C P=>by
 unfold Instr.range
 refine Shy.bind (φ:=fun _=>True) (fun d _=>?_) (Shyc.t C P)
 dsimp only
 split
 ·exact ⟨trivial,fun _=>trivial⟩
 ·exact ⟨trivial,fun _=>trivial⟩
 ·exact ⟨fun o _=>by cases o <;> first | exact ⟨trivial,fun _=>trivial⟩ | exact ⟨fun _=>trivial,trivial⟩,fun o _=>.inl trivial⟩
 ·exact ⟨fun _=>trivial,trivial⟩⟩
instance {x:Value} {b:Bool} {t:TypeId}:Shyc (Instr.next x b t):=by
 unfold Instr.next
 exact ks
instance {x:Value} {t u:TypeId} {b:Bool}:Shyc (Instr.typeAssert x t u b):=by
 unfold Instr.typeAssert
 exact ks
instance {x:Value} {i:Nat}:Shyc (Instr.extract x i):=by
 unfold Instr.extract
 exact ks
instance  : Shyc (Instr.panicnil):=by
 unfold Instr.panicnil
 exact ks
instance {x:Value}:Shyc (Instr.panic x):=by
 unfold Instr.panic
 exact ks
instance {o:BinOp} {k:IntKind} {x y:Int}:Shyc (Op.intArith o k x y):=by
 unfold Op.intArith
 exact ks
instance {o:BinOp} {k:IntKind} {x y:Int}:Shyc (Op.intDiv o k x y):=by
 unfold Op.intDiv
 exact ks
instance {o:BinOp} {k:IntKind} {x y:Int}:Shyc (Op.intBits o k x y):=by
 unfold Op.intBits
 exact ks
instance {o:BinOp} {k:IntKind} {x:Int} {k':IntKind} {y:Int}:Shyc (Op.shift o k x k' y):=by
 unfold Op.shift
 exact ks
instance {o:BinOp} {x y:Int}:Shyc (Op.intCmp o x y):=by
 unfold Op.intCmp
 exact ks
instance {o:BinOp} {x y:ByteArray}:Shyc (Op.stringOp o x y):=by
 unfold Op.stringOp
 exact ks
instance {o:UnOp} {x:Value}:Shyc (Op.unary o x):=by
 unfold Op.unary
 exact ks
instance {a b:Addr}:Shyc (Op.twoPlaces a b):=by
 unfold Op.twoPlaces
 exact ks
instance {k:IntKind} {a b:Addr}:Shyc (Op.addrSub k a b):=by
 unfold Op.addrSub
 exact ks
instance {o:BinOp} {a b:Addr}:Shyc (Op.addrCmp o a b):=by
 unfold Op.addrCmp
 exact ks
instance {k:IntKind} {a:Addr} {n:Int}:Shyc (Op.addrMod k a n):=by
 unfold Op.addrMod
 exact ks
instance {o:BinOp} {k:FloatKind} {x y:Nat}:Shyc (Op.floatArith o k x y):=by
 unfold Op.floatArith
 exact ks
instance {o:BinOp} {k:FloatKind} {x y:Nat}:Shyc (Op.floatCmp o k x y):=by
 unfold Op.floatCmp
 exact ks
instance {k:FloatKind} {b:Nat} {k':FloatKind}:Shyc (Conv.floatToFloat k b k'):=by
 unfold Conv.floatToFloat
 exact ks
instance {o:BinOp} {k:FloatKind} {x y:Nat}:Shyc (Op.Complex.arith o k x y):=by
 unfold Op.Complex.arith
 exact ks
instance {o:BinOp} {k:FloatKind} {x y:Nat}:Shyc (Op.Complex.cmp o k x y):=by
 unfold Op.Complex.cmp
 exact ks
instance {k:FloatKind} {x:Nat} {k':FloatKind}:Shyc (Op.Complex.conv k x k'):=by
 unfold Op.Complex.conv
 exact ks
instance {x y:Nat}:Shyc (Op.Complex.add x y):=by
 unfold Op.Complex.add
 exact ks
instance {x y:Nat}:Shyc (Op.Complex.sub x y):=by
 unfold Op.Complex.sub
 exact ks
instance {x y:Nat}:Shyc (Op.Complex.mul x y):=by
 unfold Op.Complex.mul
 exact ks
instance {x y:Nat}:Shyc (Op.Complex.quo x y):=by
 unfold Op.Complex.quo
 exact ks
instance {a b c e:Nat}:Shyc (Op.Complex.product a b c e):=by
 unfold Op.Complex.product
 exact ks
instance {s a b c e:Nat}:Shyc (Op.Complex.corrected s a b c e):=by
 unfold Op.Complex.corrected
 exact ks
instance {a b c e:Nat}:Shyc (Op.Complex.quotient a b c e):=by
 unfold Op.Complex.quotient
 exact ks
instance {o:BinOp} {k:FloatKind} {a b c e:Nat}:Shyc (Op.complexOp o k a b c e):=by
 unfold Op.complexOp
 exact ks
instance {k:IntKind} {n:Int}:Shyc (Conv.intToInt k n):=by
 unfold Conv.intToInt
 exact ks
instance {k:FloatKind} {n:Int}:Shyc (Conv.intToFloat k n):=by
 unfold Conv.intToFloat
 exact ks
instance {k:FloatKind} {b:Nat} {k':IntKind}:Shyc (Conv.floatToInt k b k'):=by
 unfold Conv.floatToInt
 exact ks
instance {k:FloatKind} {x y:Nat} {k':FloatKind}:Shyc (Conv.complexToComplex k x y k'):=by
 unfold Conv.complexToComplex
 exact ks
instance {n:Int}:Shyc (Conv.intToString n):=by
 unfold Conv.intToString
 exact ks
instance {e:TypeId} {s:ByteArray}:Shyc (Conv.stringToBytes e s):=by
 unfold Conv.stringToBytes
 exact ks
instance {e:TypeId} {s:ByteArray}:Shyc (Conv.stringToRunes e s):=by
 unfold Conv.stringToRunes
 exact ks
instance {x:Value}:Shyc (Conv.bytesToString x):=by
 unfold Conv.bytesToString
 exact ks
instance {x:Value}:Shyc (Conv.runesToString x):=by
 unfold Conv.runesToString
 exact ks
instance {a:Addr}:Shyc (Conv.seenAt a):=by
 unfold Conv.seenAt
 exact ks
instance {a:Addr} {n:Nat}:Shyc (Builtin.holdsCells a n):=by
 unfold Builtin.holdsCells
 exact ks
instance {s l n:Nat} {b:Option Addr} {x:Value}:Shyc (Builtin.mayShare s l n b x):=by
 unfold Builtin.mayShare
 exact ks
instance {v:Value}:Shyc (Builtin.lenOf v):=by
 unfold Builtin.lenOf
 exact ks
instance {s n:Nat} {v:Value}:Shyc (Builtin.firstCells s n v):=by
 unfold Builtin.firstCells
 exact ks
instance {a:Array TypeId} {t:TypeId} {x:Array Value}:Shyc (Builtin.append_ a t x):=by
 unfold Builtin.append_
 exact ks
instance {a:Array TypeId} {t:TypeId} {x:Array Value}:Shyc (Builtin.cap_ a t x):=by
 unfold Builtin.cap_
 exact ks
instance {a:Array TypeId} {t:TypeId} {x:Array Value}:Shyc (Builtin.copy_ a t x):=by
 unfold Builtin.copy_
 exact ks
instance {a:Array TypeId} {t:TypeId} {x:Array Value}:Shyc (Builtin.delete_ a t x):=by
 unfold Builtin.delete_
 exact ks
instance {a:Array TypeId} {t:TypeId} {x:Array Value}:Shyc (Builtin.len_ a t x):=by
 unfold Builtin.len_
 exact ks
instance {a:Array TypeId} {t:TypeId} {x:Array Value}:Shyc (Builtin.clear_ a t x):=by
 unfold Builtin.clear_
 exact ks
instance {x y:Value}:Shyc (Builtin.max2 x y):=by
 unfold Builtin.max2
 exact ks
instance {x y:Value}:Shyc (Builtin.min2 x y):=by
 unfold Builtin.min2
 exact ks
instance {a:Array TypeId} {t:TypeId} {x:Array Value}:Shyc (Builtin.max_ a t x):=by
 unfold Builtin.max_
 split
 ·infer_instance
 ·exact shy_foldlM _ (fun _ _=>inferInstance) _ _
instance {a:Array TypeId} {t:TypeId} {x:Array Value}:Shyc (Builtin.min_ a t x):=by
 unfold Builtin.min_
 split
 ·infer_instance
 ·exact shy_foldlM _ (fun _ _=>inferInstance) _ _
theorem shy_unsafeAdd (t:TypeId) (x y:Value):Shyc (Builtin.unsafeAdd_ #[] t #[x,y]):=by
 unfold Builtin.unsafeAdd_
 cases x
 case pointer ptr =>
  refine shy_bind (s:=asInt y) inferInstance fun n=>?_
  exact ks
 all_goals exact (shy_stuck:Shyc (stuck _ : Sem Value))
instance {t:TypeId} {x y:Value}:Shyc (Builtin.unsafeAdd_ #[] t #[x,y]):=shy_unsafeAdd t x y
instance {t:TypeId} {x y:Value}:Shyc (movedNumber t x y):=by
 unfold movedNumber
 exact ks
instance {t:TypeId} {x y:Value}:Shyc (movedPointer t x y):=by
 unfold movedPointer
 exact ks
instance {o:BinOp} {t:TypeId} {x y:Operand} {a b:Value}:Shyc (eqGuard o t x y a b):=by
 unfold eqGuard
 exact ks
instance {o:BinOp} {t:TypeId} {x y:Value}:Shyc (binOp o t x y):=by
 unfold binOp
 exact ks
end
section
instance {t:TypeId} {p:Place}:Shyc (p.get t):=by cases p <;> (unfold Place.get;infer_instance)
theorem shy_follow:∀ (l:List FieldStep) (t:TypeId) (x:Place),Shyc (follow l t x)
 | [],t,x=>by unfold follow;infer_instance
 | s :: l,t,x=>by
  have ih:=shy_follow l
  unfold follow
  exact ks
instance {l:List FieldStep} {t:TypeId} {x:Place}:Shyc (follow l t x):=shy_follow l t x
theorem shy_nilChk (a:Array TypeId) (t:TypeId) (x y z:Value):Shyc (Builtin.ssaWrapNilChk_ a t #[x,y,z]):=by
 unfold Builtin.ssaWrapNilChk_
 cases y <;> first | exact (shy_stuck:Shyc (stuck "ssa:wrapnilchk: a pointer and two strings expected" : Sem Value)) | skip
 cases z <;> first | exact (shy_stuck:Shyc (stuck "ssa:wrapnilchk: a pointer and two strings expected" : Sem Value)) | skip
 cases x <;> first | exact (shy_stuck:Shyc (stuck "ssa:wrapnilchk: pointer expected" : Sem Value)) | skip
 rename_i p
 cases p with
 | some p=>exact (shy_pure:Shyc (pure _:Sem Value))
 | none =>
  refine shy_bind (s:=choose (Question.extern "ssa:wrapnilchk.dereferenced" 2)) inferInstance fun r=>?_
  exact ks
instance {a:Array TypeId} {t:TypeId} {x y z:Value}:Shyc (Builtin.ssaWrapNilChk_ a t #[x,y,z]):=shy_nilChk a t x y z
instance {t:TypeId} {x:Place} {b:Bool} {w:Option String}:Shyc (receiverAt t x b w):=by
 unfold receiverAt
 exact ks
instance {t:TypeId} {v:Value} {p:Array FieldStep} {b:Bool}:Shyc (receiverVia t v p b):=by
 unfold receiverVia
 exact ks
theorem shy_method:∀ (n:Nat) (t:TypeId) (v:Value) (s:String),Shyc (method n t v s)
 | 0,t,v,s=>by unfold method;infer_instance
 | n+1,t,v,s=>by
  have ih:=shy_method n
  unfold method
  exact ks
instance {n:Nat} {t:TypeId} {v:Value} {s:String}:Shyc (method n t v s):=shy_method n t v s
theorem shy_followBlind:∀ (l:List FieldStep) (t:TypeId) (x:Option Value),Shyc (followBlind l t x)
 | [],t,x=>by unfold followBlind;infer_instance
 | s :: l,t,x=>by
  have ih:=shy_followBlind l
  unfold followBlind
  exact ks
instance {l:List FieldStep} {t:TypeId} {x:Option Value}:Shyc (followBlind l t x):=shy_followBlind l t x
theorem shy_nilAhead:∀ (n:Nat) (t:TypeId) (v:Value) (s:String),Shyc (nilAhead n t v s)
 | 0,t,v,s=>by unfold nilAhead;infer_instance
 | n+1,t,v,s=>by
  have ih:=shy_nilAhead n
  unfold nilAhead
  exact ks
instance {n:Nat} {t:TypeId} {v:Value} {s:String}:Shyc (nilAhead n t v s):=shy_nilAhead n t v s
instance {v:Value} {a:Array Value}:Shyc (Deferred.ofValue v a):=by
 unfold Deferred.ofValue
 exact ks
instance {ρ:Operand→Value} {c:Call} {t:TypeId}:Shyc (resolve ρ c t):=by
 unfold resolve
 exact ks
end
def NextSh (C:Code→Prop) (r:Bool):Next→Prop
 | .value _ | .skip | .enter .. | .comm .. => True
 | .recover=>r=true
 | .round _ _ _ assign body=>C assign∧C body
 | .defer d=>OkDef d
 | .spawn d=>OkDef d
 | _=>False
section
variable {C:Code→Prop} {P:Program} {r:Bool}
theorem shy_pureφ {α:Type} {φ:α→Prop} {a:α} (h:φ a):Shy true C P φ (pure a:Sem α):=h
theorem shy_then {α β:Type} {ψ:β→Prop} {s:Sem α} {f:α→Sem β} (h:Shyc s) (hf:∀ a,Shy true C P ψ (f a)):Shy true C P ψ (s >>= f):=Shy.bind (fun a _=>hf a) (h.t C P)
theorem shy_value {s:Sem Value} (h:Shyc s):Shy true C P (NextSh C r) (do pure (.value (← s)):Sem Next):=shy_then h fun _=>trivial
theorem shy_skip {s:Sem Unit} (h:Shyc s):Shy true C P (NextSh C r) (do s;pure .skip:Sem Next):=shy_then h fun _=>trivial
theorem shy_goPanicφ {α:Type} {φ:α→Prop} {v:Value}:Shy true C P φ (goPanic v:Sem α):=⟨fun _=>trivial,trivial⟩
theorem shy_stuckφ {α:Type} {φ:α→Prop} {v:String}:Shy true C P φ (stuck v:Sem α):=⟨fun _=>trivial,trivial⟩
theorem shy_runtimePanic {α:Type} {φ:α→Prop} (e:RuntimeError):Shy true C P φ (runtimePanic e:Sem α):=by
 unfold runtimePanic
 refine shy_then inferInstance fun p=>?_
 dsimp only
 split
 ·exact shy_goPanicφ
 ·exact shy_goPanicφ
 ·exact shy_goPanicφ
 ·exact shy_goPanicφ
 ·exact shy_then inferInstance fun _=>shy_then inferInstance fun _=>shy_goPanicφ
 ·exact shy_then inferInstance fun _=>shy_then inferInstance fun _=>shy_goPanicφ
 ·exact shy_goPanicφ
theorem shy_getLoop {l:Nat}:Shy true C P (fun r:Loop=>C r.assign∧C r.body∧(∀ c,r.pending=some c→C c)) (Instr.getLoop l):=by
 unfold Instr.getLoop
 exact ⟨fun o ho=>by cases o <;> first | exact ho | exact ⟨fun _=>trivial,trivial⟩,fun o _=>.inl trivial⟩
theorem shy_enterLoop {fn:FuncId} {tmps:Array Value} {params:Array Tmp} {assign body:Code} {around:Option Nat} (ha:C assign) (hb:C body) :
  Shy true C P (fun x:Nat × List Deferred=>∀ d∈x.2,OkDef d) (Instr.enterLoop fn tmps params assign body around):=by
 unfold Instr.enterLoop
 cases around with
 | some l =>
  refine Shy.bind (φ:=fun _=>True) (fun r _=>?_) (Shy.mono (fun _ _=>trivial) shy_getLoop)
  exact ⟨⟨ha,hb,by simp⟩,fun n d hd=>by cases hd⟩
 | none =>
  refine ⟨by simp [OkObj],fun r=>⟨⟨ha,hb,by simp⟩,fun n d hd=>?_⟩⟩
  rcases List.mem_singleton.1 hd with rfl
  trivial
theorem shy_yield {l:Nat} {args:Array Value}:Shy true C P (NextSh C r) (Instr.yield l args):=by
 unfold Instr.yield
 refine Shy.bind (fun r hr=>?_) shy_getLoop
 split
 ·exact shy_then inferInstance fun _=>⟨hr.1,hr.2.1⟩
 ·exact ⟨hr.1,hr.2.1⟩
theorem shy_beginRound {l:Nat}:Shy true C P (fun _=>True) (Instr.beginRound l):=by
 unfold Instr.beginRound
 refine Shy.bind (fun r hr=>?_) shy_getLoop
 refine ⟨⟨⟨hr.1,hr.2.1,hr.2.2⟩,nofun⟩,?_⟩
 show Shy true C P _ (match r.state with | .ready=>_ | .done=>_ | .busy=>_ | .exhausted=>_)
 split
 ·first | trivial | exact ⟨fun _=>trivial,trivial⟩
 ·exact shy_runtimePanic _
 ·exact shy_runtimePanic _
 ·exact shy_runtimePanic _
theorem shy_endRound {l:Nat} {jump:Option Code} (hj:∀ c,jump=some c→C c):Shy true C P (fun _=>True) (Instr.endRound l jump):=by
 unfold Instr.endRound
 refine Shy.bind (fun r hr=>?_) shy_getLoop
 exact ⟨⟨⟨hr.1,hr.2.1,hj⟩,nofun⟩,trivial⟩
theorem shy_endLoop {l:Nat}:Shy true C P (fun j:Option Code=>∀ c,j=some c→C c) (Instr.endLoop l):=by
 unfold Instr.endLoop
 refine Shy.bind (fun r hr=>?_) shy_getLoop
 split
 ·refine Shy.bind (φ:=fun _=>True) (fun _ _=>?_) (shy_runtimePanic _)
  exact ⟨⟨⟨hr.1,hr.2.1,hr.2.2⟩,nofun⟩,hr.2.2⟩
 ·exact ⟨⟨⟨hr.1,hr.2.1,hr.2.2⟩,nofun⟩,hr.2.2⟩
theorem shy_deferInRound {l:Nat} {d:Deferred} (hd:OkDef d):Shy true C P (fun _=>True) (Instr.deferInRound l d):=by
 unfold Instr.deferInRound
 refine Shy.bind (φ:=fun _=>True) (fun r _=>?_) (Shy.mono (fun _ _=>trivial) shy_getLoop)
 refine ⟨fun o ho=>?_,fun o _=>.inl trivial⟩
 show Shy true C P _ (match o with | .deferred (some ds)=>_ | .deferred none=>_ | _=>_)
 cases o with
 | deferred c =>
  cases c with
  | none=>first | trivial | exact ⟨fun _=>trivial,trivial⟩
  | some ds =>
   refine ⟨⟨fun x hx=>?_,nofun⟩,trivial⟩
   rcases List.mem_cons.1 hx with rfl | h
   ·exact hd
   ·exact ho x h
 | _=>first | trivial | exact ⟨fun _=>trivial,trivial⟩
theorem shy_takeDeferred {b:Nat}:Shy true C P (fun ds:List Deferred=>∀ d∈ds,OkDef d) (Instr.takeDeferred b):=by
 unfold Instr.takeDeferred
 refine ⟨fun o ho=>?_,fun o _=>.inl trivial⟩
 show Shy true C P _ (match o with | .deferred (some ds)=>_ | _=>_)
 cases o with
 | deferred c =>
  cases c with
  | none=>first | trivial | exact ⟨fun _=>trivial,trivial⟩
  | some ds=>exact ⟨⟨trivial,nofun⟩,ho⟩
 | _=>first | trivial | exact ⟨fun _=>trivial,trivial⟩
theorem shy_builtin {b:Builtin} (hb:okBuiltin b=true) (hr:isRecover b=true→r=true) (ats:Array TypeId) (t:TypeId) (cs:Array Bool) (args:Array Value):Shy true C P (NextSh C r) (builtin b ats t cs args):=by
 unfold builtin
 cases b <;> first | (cases hb;done) | exact shy_value inferInstance | exact hr rfl
def FnShy (P:Program) (f:FuncId):Prop :=
 ∀ fn,P.funcs[f]? = some fn→(fn.name == "runtime.NumGoroutine")=false∧(fn.body.isNone=true→(Extern.findNext fn).isNone=true∧∀ e,Extern.find fn=some e→∀ args,Shyc (e args))
theorem shy_callFunc {f:FuncId} (h:FnShy P f) (args:Array Value):Shy true C P (NextSh C r) (callFunc f args):=by
 unfold callFunc
 show Shy true C P _ (match P.funcs[f]? with | none=>_ | some fn=>_)
 cases hf:P.funcs[f]? with
 | none=>first | trivial | exact ⟨fun _=>trivial,trivial⟩
 | some fn =>
  obtain ⟨hn,hx⟩:=h fn hf
  simp only [hn,Bool.false_eq_true,if_false]
  split
  ·rename_i hb
   obtain ⟨h1,h2⟩:=hx hb
   refine shy_then inferInstance fun _=>?_
   cases hfn:Extern.findNext fn with
   | some e=>rw [hfn] at h1;cases h1
   | none =>
    show Shy true C P _ (match Extern.find fn with | some e=>_ | none=>_)
    cases he:Extern.find fn with
    | some e=>exact shy_value (h2 e he args)
    | none =>
     dsimp only
     split
     ·first | trivial | exact ⟨fun _=>trivial,trivial⟩
     ·first | trivial | exact ⟨fun _=>trivial,trivial⟩
  ·first | trivial | exact ⟨fun _=>trivial,trivial⟩
end
end Go.Tm
namespace Go.Tm
open Go
class Calm {α:Type} (s:Sem α):Prop where
 t:∀ (C:Code→Prop) (P:Program),Tame C P (fun _=>True) s
section
variable {α β:Type}
theorem calm_bind {s:Sem α} {f:α→Sem β} (h:Calm s) (hf:∀ a,Calm (f a)):Calm (s >>= f):=⟨fun C P=>Tame.bind (fun a _=>(hf a).t C P) (h.t C P)⟩
instance calm_bind_i {s:Sem α} {f:α→Sem β} [h:Calm s] [hf:∀ a,Calm (f a)]:Calm (s >>= f):=calm_bind h hf
instance calm_map {s:Sem α} {f:α→β} [h:Calm s]:Calm (f <$> s):=(calm_bind h (fun a=>(⟨fun _ _=>trivial⟩:Calm (pure (f a):Sem β))):Calm (s >>= fun a=>pure (f a)))
theorem calm_ite2 {c:Prop} [Decidable c] {a b:Sem α} (ha:Calm a) (hb:Calm b):Calm (if c then a else b):=by split <;> assumption
instance calm_pure {a:α}:Calm (pure a:Sem α):=⟨fun _ _=>trivial⟩
end
section
variable {α β γ:Type}
instance calm_of_shy {s:Sem α} [h:Shyc s]:Calm s:=⟨fun C P=>tame_of_shy (h.t C P)⟩
instance calm_getObj {r:Nat}:Calm (getObj r):=⟨fun _ _ _ _=>trivial⟩
instance calm_stuck {s:String}:Calm (stuck s:Sem α):=⟨fun _ _=>trivial⟩
theorem calm_newObj {o:Obj} (h:∀ C,OkObj C o):Calm (newObj o):=⟨fun C _=>⟨h C,fun _=>trivial⟩⟩
theorem calm_foldlM {γ:Type} (f:β→γ→Sem β) (h:∀ b c,Calm (f b c)):∀ (l:List γ) (b:β),Calm (l.foldlM f b)
 | [],b=>by simp only [List.foldlM_nil];infer_instance
 | c :: l,b=>by simp only [List.foldlM_cons];exact calm_bind (h b c) fun b'=>calm_foldlM f h l b'
theorem calm_mapM (f:β→Sem γ) (h:∀ c,Calm (f c)) (l:Array β):Calm (l.mapM f):=by
 rw [Array.mapM_eq_foldlM,← Array.foldlM_toList]
 exact calm_foldlM _ (fun b c=>by have:=h c;infer_instance) _ _
end
instance {r:Nat}:Calm (cellsIn r):=by
 unfold cellsIn
 repeat' (first | infer_instance | apply calm_ite2 | apply calm_bind | intro _ | dsimp only | split)
instance {s t:TypeId} {x:Value}:Calm (Conv.unsafePointer s t x):=by
 unfold Conv.unsafePointer
 repeat' (first | infer_instance | apply calm_ite2 | apply calm_bind | intro _ | dsimp only | split)
instance {s t:TypeId} {x:Value}:Calm (convert s t x):=by
 unfold convert
 repeat' (first | infer_instance | apply calm_ite2 | apply calm_bind | intro _ | dsimp only | split)
def NextOk (C:Code→Prop) (S:FuncId→Prop) (r:Bool):Next→Prop
 | .value _ | .skip=>True
 | .recover=>r=true
 | .enter f _=>S f
 | .round _ _ _ assign body=>C assign∧C body
 | .defer d=>OkDef d
 | .comm cases b _=>r=true∧b=true∧∃ c,cases=#[c]
 | .spawn _=>r=true
 | _=>False
section
variable {C:Code→Prop} {P:Program} {S:FuncId→Prop} {r:Bool}
theorem tame_pure {α:Type} {φ:α→Prop} {a:α} (h:φ a):Tame C P φ (pure a:Sem α):=h
theorem tame_then {α β:Type} {ψ:β→Prop} {s:Sem α} {f:α→Sem β} (h:Calm s) (hf:∀ a,Tame C P ψ (f a)):Tame C P ψ (s >>= f):=Tame.bind (fun a _=>hf a) (h.t C P)
theorem tame_value {s:Sem Value} (h:Calm s):Tame C P (NextOk C S r) (do pure (.value (← s)):Sem Next):=tame_then h fun _=>trivial
theorem tame_skip {s:Sem Unit} (h:Calm s):Tame C P (NextOk C S r) (do s;pure .skip:Sem Next):=tame_then h fun _=>trivial
theorem tame_goPanic {α:Type} {φ:α→Prop} {v:Value}:Tame C P φ (goPanic v:Sem α):=trivial
theorem tame_stuck {α:Type} {φ:α→Prop} {v:String}:Tame C P φ (stuck v:Sem α):=trivial
theorem tame_runtimePanic {α:Type} {φ:α→Prop} (e:RuntimeError):Tame C P φ (runtimePanic e:Sem α):=by
 unfold runtimePanic
 refine tame_then inferInstance fun p=>?_
 dsimp only
 split
 ·exact tame_goPanic
 ·exact tame_goPanic
 ·exact tame_goPanic
 ·exact tame_goPanic
 ·exact tame_then inferInstance fun _=>tame_then inferInstance fun _=>tame_goPanic
 ·exact tame_then inferInstance fun _=>tame_then inferInstance fun _=>tame_goPanic
 ·exact tame_goPanic
theorem tame_getLoop {l:Nat}:Tame C P (fun r:Loop=>C r.assign∧C r.body∧(∀ c,r.pending=some c→C c)) (Instr.getLoop l):=by
 unfold Instr.getLoop
 intro o ho
 cases o <;> first | exact ho | trivial
theorem tame_enterLoop {fn:FuncId} {tmps:Array Value} {params:Array Tmp} {assign body:Code} {around:Option Nat} (ha:C assign) (hb:C body) :
  Tame C P (fun x:Nat × List Deferred=>∀ d∈x.2,OkDef d) (Instr.enterLoop fn tmps params assign body around):=by
 unfold Instr.enterLoop
 cases around with
 | some l =>
  refine Tame.bind (φ:=fun _=>True) (fun r _=>?_) (Tame.mono (fun _ _=>trivial) tame_getLoop)
  exact ⟨⟨ha,hb,by simp⟩,fun n d hd=>by cases hd⟩
 | none =>
  refine ⟨by simp [OkObj],fun r=>⟨⟨ha,hb,by simp⟩,fun n d hd=>?_⟩⟩
  rcases List.mem_singleton.1 hd with rfl
  trivial
theorem tame_yield {l:Nat} {args:Array Value}:Tame C P (NextOk C S r) (Instr.yield l args):=by
 unfold Instr.yield
 refine Tame.bind (fun r hr=>?_) tame_getLoop
 split
 ·exact tame_then inferInstance fun _=>⟨hr.1,hr.2.1⟩
 ·exact ⟨hr.1,hr.2.1⟩
theorem tame_beginRound {l:Nat}:Tame C P (fun _=>True) (Instr.beginRound l):=by
 unfold Instr.beginRound
 refine Tame.bind (fun r hr=>?_) tame_getLoop
 refine ⟨⟨hr.1,hr.2.1,hr.2.2⟩,?_⟩
 show Tame C P _ (match r.state with | .ready=>_ | .done=>_ | .busy=>_ | .exhausted=>_)
 split
 ·trivial
 ·exact tame_runtimePanic _
 ·exact tame_runtimePanic _
 ·exact tame_runtimePanic _
theorem tame_endRound {l:Nat} {jump:Option Code} (hj:∀ c,jump=some c→C c):Tame C P (fun _=>True) (Instr.endRound l jump):=by
 unfold Instr.endRound
 refine Tame.bind (fun r hr=>?_) tame_getLoop
 exact ⟨⟨hr.1,hr.2.1,hj⟩,trivial⟩
theorem tame_endLoop {l:Nat}:Tame C P (fun j:Option Code=>∀ c,j=some c→C c) (Instr.endLoop l):=by
 unfold Instr.endLoop
 refine Tame.bind (fun r hr=>?_) tame_getLoop
 split
 ·refine Tame.bind (φ:=fun _=>True) (fun _ _=>?_) (tame_runtimePanic _)
  exact ⟨⟨hr.1,hr.2.1,hr.2.2⟩,hr.2.2⟩
 ·exact ⟨⟨hr.1,hr.2.1,hr.2.2⟩,hr.2.2⟩
theorem tame_deferInRound {l:Nat} {d:Deferred} (hd:OkDef d):Tame C P (fun _=>True) (Instr.deferInRound l d):=by
 unfold Instr.deferInRound
 refine Tame.bind (φ:=fun _=>True) (fun r _=>?_) (Tame.mono (fun _ _=>trivial) tame_getLoop)
 intro o ho
 show Tame C P _ (match o with | .deferred (some ds)=>_ | .deferred none=>_ | _=>_)
 cases o with
 | deferred c =>
  cases c with
  | none=>trivial
  | some ds =>
   refine ⟨fun x hx=>?_,trivial⟩
   rcases List.mem_cons.1 hx with rfl | h
   ·exact hd
   ·exact ho x h
 | _=>trivial
theorem tame_takeDeferred {b:Nat}:Tame C P (fun ds:List Deferred=>∀ d∈ds,OkDef d) (Instr.takeDeferred b):=by
 unfold Instr.takeDeferred
 intro o ho
 show Tame C P _ (match o with | .deferred (some ds)=>_ | _=>_)
 cases o with
 | deferred c =>
  cases c with
  | none=>trivial
  | some ds=>exact ⟨trivial,ho⟩
 | _=>trivial
theorem tame_builtin {b:Builtin} (hb:okBuiltin b=true) (hr:isRecover b=true→r=true) (ats:Array TypeId) (t:TypeId) (cs:Array Bool) (args:Array Value):Tame C P (NextOk C S r) (builtin b ats t cs args):=by
 unfold builtin
 cases b <;> first | (cases hb;done) | exact tame_value inferInstance | exact hr rfl
def FnOk (P:Program) (f:FuncId):Prop :=
 ∀ fn,P.funcs[f]? = some fn→(fn.name == "runtime.NumGoroutine")=false∧(fn.body.isNone=true→(Extern.findNext fn).isNone=true∧∀ e,Extern.find fn=some e→∀ args,Calm (e args))
theorem tame_callFunc {f:FuncId} (h:FnOk P f) (hS:S f) (args:Array Value):Tame C P (NextOk C S r) (callFunc f args):=by
 unfold callFunc
 show Tame C P _ (match P.funcs[f]? with | none=>_ | some fn=>_)
 cases hf:P.funcs[f]? with
 | none=>trivial
 | some fn =>
  obtain ⟨hn,hx⟩:=h fn hf
  simp only [hn,Bool.false_eq_true,if_false]
  split
  ·rename_i hb
   obtain ⟨h1,h2⟩:=hx hb
   refine tame_then inferInstance fun _=>?_
   cases hfn:Extern.findNext fn with
   | some e=>rw [hfn] at h1;cases h1
   | none =>
    show Tame C P _ (match Extern.find fn with | some e=>_ | none=>_)
    cases he:Extern.find fn with
    | some e=>exact tame_value (h2 e he args)
    | none =>
     dsimp only
     split
     ·trivial
     ·trivial
  ·exact hS
end
end Go.Tm
