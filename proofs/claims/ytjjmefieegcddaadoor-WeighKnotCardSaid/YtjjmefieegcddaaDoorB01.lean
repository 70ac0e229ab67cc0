/- A part of the proof: T0, T1, E2, T2, T3. -/
import Derived.Conc.Beside
import Derived.FollowTie
import Derived.Fence
import Derived.Conc.Events
import Derived.CallsIn
set_option linter.unusedVariables false
set_option linter.unusedSimpArgs false
namespace Go.Tm
open Go
def okBuiltin:Builtin→Bool
 | .append | .cap | .copy | .delete | .len | .max | .min | .panic | .recover | .clear=>true
 | _=>false
def isRecover:Builtin→Bool
 | .recover=>true
 | _=>false
def OkDef (d:Deferred):Prop :=
 match d.target with
 | .builtin b .. => okBuiltin b=true∧isRecover b=false
 | .coroexit _=>False
 | _=>True
def OkObj (C:Code→Prop):Obj→Prop
 | .loop l=>C l.assign∧C l.body∧(∀ c,l.pending=some c→C c)
 | .chan cap buf closed _ _ _=>cap=0∧buf=#[]∧closed=false
 | .pending .. => False
 | .deferred (some ds)=>∀ d∈ds,OkDef d
 | _=>True
def OkHalt:Halt→Prop
 | .blocked | .waiting=>False
 | .unsupported (.initOrder _)=>False
 | _=>True
def Tame (C:Code→Prop) (P:Program) {α:Type} (φ:α→Prop):Sem α→Prop
 | .pure a=>φ a
 | .load _ _ k=>∀ v,Tame C P φ (k v)
 | .store _ _ _ k=>Tame C P φ k
 | .new o k=>OkObj C o∧∀ n,Tame C P φ (k n)
 | .shape _ k=>∀ s,Tame C P φ (k s)
 | .freeze _ _ k=>Tame C P φ k
 | .frozen _ k=>∀ b,Tame C P φ (k b)
 | .getObj _ k=>∀ o,OkObj C o→Tame C P φ (k o)
 | .setObj _ o k=>OkObj C o∧Tame C P φ k
 | .choose _ k=>∀ n,Tame C P φ (k n)
 | .sys c k=>c=.env∧∀ r,Tame C P φ (k r)
 | .program k=>Tame C P φ (k P)
 | .mark m k=>m≠.disable∧m≠.enable∧Tame C P φ k
 | .halt h=>OkHalt h
section
variable {C:Code→Prop} {P:Program} {α β:Type} {φ:α→Prop} {ψ:β→Prop}
theorem Tame.mono {φ':α→Prop} (h:∀ a,φ a→φ' a) {s:Sem α} (x:Tame C P φ s):Tame C P φ' s:=by
 induction s with
 | pure a=>exact h _ x
 | load m a k ih=>exact fun v=>ih v (x v)
 | store m a v k ih=>exact ih x
 | new o k ih=>exact ⟨x.1,fun n=>ih n (x.2 n)⟩
 | shape r k ih=>exact fun v=>ih v (x v)
 | freeze a n k ih=>exact ih x
 | frozen a k ih=>exact fun v=>ih v (x v)
 | getObj r k ih=>exact fun v hv=>ih v (x v hv)
 | setObj r o k ih=>exact ⟨x.1,ih x.2⟩
 | choose q k ih=>exact fun v=>ih v (x v)
 | sys c k ih=>exact ⟨x.1,fun v=>ih v (x.2 v)⟩
 | program k ih=>exact ih _ x
 | mark m k ih=>exact ⟨x.1,x.2.1,ih x.2.2⟩
 | halt h=>exact x
theorem Tame.bind {f:α→Sem β} (hf:∀ a,φ a→Tame C P ψ (f a)) {s:Sem α} (x:Tame C P φ s):Tame C P ψ (s >>= f):=by
 show Tame C P ψ (s.bind f)
 induction s with
 | pure a=>exact hf _ x
 | load m a k ih=>exact fun v=>ih v (x v)
 | store m a v k ih=>exact ih x
 | new o k ih=>exact ⟨x.1,fun n=>ih n (x.2 n)⟩
 | shape r k ih=>exact fun v=>ih v (x v)
 | freeze a n k ih=>exact ih x
 | frozen a k ih=>exact fun v=>ih v (x v)
 | getObj r k ih=>exact fun v hv=>ih v (x v hv)
 | setObj r o k ih=>exact ⟨x.1,ih x.2⟩
 | choose q k ih=>exact fun v=>ih v (x v)
 | sys c k ih=>exact ⟨x.1,fun v=>ih v (x.2 v)⟩
 | program k ih=>exact ih _ x
 | mark m k ih=>exact ⟨x.1,x.2.1,ih x.2.2⟩
 | halt h=>exact x
end
def strange:Obj→Bool
 | .loop _ | .deferred _ | .pending .. | .chan .. => true
 | _=>false
abbrev clean:Obj:=.finalizers #[] none
def badH:Halt→Prop
 | .stuck _=>True
 | .unsupported (.initOrder _)=>False
 | .unsupported _=>True
 | _=>False
def NoInit:Halt→Prop
 | .unsupported (.initOrder _)=>False
 | _=>True
def isDead {α:Type}:Sem α→Prop
 | .halt h=>badH h
 | _=>False
def Shy (q:Bool) (C:Code→Prop) (P:Program) {α:Type} (φ:α→Prop):Sem α→Prop
 | .pure a=>φ a
 | .load _ _ k=>∀ v,Shy q C P φ (k v)
 | .store _ _ _ k=>Shy q C P φ k
 | .new o k=>OkObj C o∧∀ n,Shy q C P φ (k n)
 | .shape _ k=>∀ s,Shy q C P φ (k s)
 | .freeze _ _ k=>Shy q C P φ k
 | .frozen _ k=>∀ b,Shy q C P φ (k b)
 | .getObj _ k=>(∀ o,OkObj C o→Shy q C P φ (k o))∧∀ o,strange o=true→isDead (k clean)∨k clean=k o
 | .setObj _ o k=>(OkObj C o∧o≠clean)∧Shy q C P φ k
 | .choose _ k=>∀ n,Shy q C P φ (k n)
 | .sys c k=>(q=true→c=.env)∧∀ r,Shy q C P φ (k r)
 | .program k=>Shy q C P φ (k P)
 | .mark m k=>(q=true→m≠.disable∧m≠.enable)∧Shy q C P φ k
 | .halt h=>(q=true→OkHalt h)∧NoInit h
section
variable {q:Bool} {C:Code→Prop} {P:Program} {α β:Type} {φ:α→Prop} {ψ:β→Prop}
theorem isDead_bind {f:α→Sem β} {s:Sem α} (h:isDead s):isDead (s.bind f):=by
 cases s <;> first | exact (show False from h).elim | exact h
theorem Shy.mono {φ':α→Prop} (h:∀ a,φ a→φ' a) {s:Sem α} (x:Shy q C P φ s):Shy q C P φ' s:=by
 induction s with
 | pure a=>exact h _ x
 | load m a k ih=>exact fun v=>ih v (x v)
 | store m a v k ih=>exact ih x
 | new o k ih=>exact ⟨x.1,fun n=>ih n (x.2 n)⟩
 | shape r k ih=>exact fun v=>ih v (x v)
 | freeze a n k ih=>exact ih x
 | frozen a k ih=>exact fun v=>ih v (x v)
 | getObj r k ih=>exact ⟨fun o ho=>ih o (x.1 o ho),x.2⟩
 | setObj r o k ih=>exact ⟨x.1,ih x.2⟩
 | choose q k ih=>exact fun v=>ih v (x v)
 | sys c k ih=>exact ⟨x.1,fun v=>ih v (x.2 v)⟩
 | program k ih=>exact ih _ x
 | mark m k ih=>exact ⟨x.1,ih x.2⟩
 | halt h=>exact x
theorem Shy.bind {f:α→Sem β} (hf:∀ a,φ a→Shy q C P ψ (f a)) {s:Sem α} (x:Shy q C P φ s):Shy q C P ψ (s >>= f):=by
 show Shy q C P ψ (s.bind f)
 induction s with
 | pure a=>exact hf a x
 | load m a k ih=>exact fun v=>ih v (x v)
 | store m a v k ih=>exact ih x
 | new o k ih=>exact ⟨x.1,fun n=>ih n (x.2 n)⟩
 | shape r k ih=>exact fun v=>ih v (x v)
 | freeze a n k ih=>exact ih x
 | frozen a k ih=>exact fun v=>ih v (x v)
 | getObj r k ih =>
  refine ⟨fun o ho=>ih o (x.1 o ho),fun o ho=>?_⟩
  rcases x.2 o ho with h | h
  ·exact .inl (isDead_bind h)
  ·exact .inr (show (k clean).bind f=(k o).bind f by rw [h])
 | setObj r o k ih=>exact ⟨x.1,ih x.2⟩
 | choose q k ih=>exact fun v=>ih v (x v)
 | sys c k ih=>exact ⟨x.1,fun v=>ih v (x.2 v)⟩
 | program k ih=>exact ih _ x
 | mark m k ih=>exact ⟨x.1,ih x.2⟩
 | halt h=>exact x
theorem tame_of_shy {s:Sem α} (x:Shy true C P φ s):Tame C P φ s:=by
 induction s with
 | pure a=>exact x
 | load m a k ih=>exact fun v=>ih v (x v)
 | store m a v k ih=>exact ih x
 | new o k ih=>exact ⟨x.1,fun n=>ih n (x.2 n)⟩
 | shape r k ih=>exact fun v=>ih v (x v)
 | freeze a n k ih=>exact ih x
 | frozen a k ih=>exact fun v=>ih v (x v)
 | getObj r k ih=>exact fun o ho=>ih o (x.1 o ho)
 | setObj r o k ih=>exact ⟨x.1.1,ih x.2⟩
 | choose q k ih=>exact fun v=>ih v (x v)
 | sys c k ih=>exact ⟨x.1 rfl,fun v=>ih v (x.2 v)⟩
 | program k ih=>exact ih _ x
 | mark m k ih=>exact ⟨(x.1 rfl).1,(x.1 rfl).2,ih x.2⟩
 | halt h=>exact x.1 rfl
end
class Shyc {α:Type} (s:Sem α):Prop where
 t:∀ (C:Code→Prop) (P:Program),Shy true C P (fun _=>True) s
section
variable {α β:Type}
theorem shy_bind {s:Sem α} {f:α→Sem β} (h:Shyc s) (hf:∀ a,Shyc (f a)):Shyc (s >>= f):=⟨fun C P=>Shy.bind (fun a _=>(hf a).t C P) (h.t C P)⟩
instance shy_bind_i {s:Sem α} {f:α→Sem β} [h:Shyc s] [hf:∀ a,Shyc (f a)]:Shyc (s >>= f):=shy_bind h hf
instance shy_map {s:Sem α} {f:α→β} [h:Shyc s]:Shyc (f <$> s):=(shy_bind h (fun a=>(⟨fun _ _=>trivial⟩:Shyc (pure (f a):Sem β))):Shyc (s >>= fun a=>pure (f a)))
theorem shy_ite2 {c:Prop} [Decidable c] {a b:Sem α} (ha:Shyc a) (hb:Shyc b):Shyc (if c then a else b):=by split <;> assumption
instance shy_pure {a:α}:Shyc (pure a:Sem α):=⟨fun _ _=>trivial⟩
instance shy_pure' {a:α}:Shyc (Sem.pure a:Sem α):=⟨fun _ _=>trivial⟩
instance shy_stuck {s:String}:Shyc (stuck s:Sem α):=⟨fun _ _=>⟨fun _=>trivial,trivial⟩⟩
instance shy_goPanic {v:Value}:Shyc (goPanic v:Sem α):=⟨fun _ _=>⟨fun _=>trivial,trivial⟩⟩
instance shy_throw {s:String}:Shyc (throw s:Sem α):=⟨fun _ _=>⟨fun _=>trivial,trivial⟩⟩
instance shy_fatal {s:String}:Shyc (fatal s:Sem α):=⟨fun _ _=>⟨fun _=>trivial,trivial⟩⟩
instance {s:String}:Shyc (unsupported (.extern s):Sem α):=⟨fun _ _=>⟨fun _=>trivial,trivial⟩⟩
instance {s:String}:Shyc (unsupported (.noEntry s):Sem α):=⟨fun _ _=>⟨fun _=>trivial,trivial⟩⟩
instance {s:String}:Shyc (unsupported (Unsupported.elab s):Sem α):=⟨fun _ _=>⟨fun _=>trivial,trivial⟩⟩
instance {s:String}:Shyc (unsupported (.unsafePointer s):Sem α):=⟨fun _ _=>⟨fun _=>trivial,trivial⟩⟩
instance {s:String}:Shyc (unsupported (.resourceLimit s):Sem α):=⟨fun _ _=>⟨fun _=>trivial,trivial⟩⟩
instance:Shyc (unsupported .evalOrder:Sem α):=⟨fun _ _=>⟨fun _=>trivial,trivial⟩⟩
instance:Shyc (unsupported .addressObserved:Sem α):=⟨fun _ _=>⟨fun _=>trivial,trivial⟩⟩
instance shy_program:Shyc program:=⟨fun _ _=>trivial⟩
instance shy_load {a:Addr} {m:Mode}:Shyc (load a m):=⟨fun _ _ _=>trivial⟩
instance shy_store {a:Addr} {v:Value} {m:Mode}:Shyc (store a v m):=⟨fun _ _=>trivial⟩
instance shy_shape {r:Nat}:Shyc (shape r):=⟨fun _ _ _=>trivial⟩
instance shy_freeze {a:Addr} {n:Nat}:Shyc (freeze a n):=⟨fun _ _=>trivial⟩
instance shy_frozen {a:Addr}:Shyc (frozen a):=⟨fun _ _ _=>trivial⟩
theorem shy_get {β:Type} {r:Nat} {f:Obj→Sem β} (h1:∀ o,Shyc (f o)) (h2:∀ o,strange o=true→isDead (f clean)∨f clean=f o):Shyc (getObj r >>= f):=⟨fun C P=>⟨fun o _=>(h1 o).t C P,fun o ho=>h2 o ho⟩⟩
instance shy_choose {q:Question}:Shyc (choose q):=⟨fun _ _ _=>trivial⟩
instance shy_sys:Shyc (sys .env):=⟨fun _ _=>⟨fun _=>rfl,fun _=>trivial⟩⟩
instance shy_noRoom:Shyc (mark .noRoom):=⟨fun _ _=>⟨fun _=>⟨by simp,by simp⟩,trivial⟩⟩
instance shy_extern {f:FuncId}:Shyc (mark (.extern f)):=⟨fun _ _=>⟨fun _=>⟨by simp,by simp⟩,trivial⟩⟩
theorem shy_newObj {o:Obj} (h:∀ C,OkObj C o):Shyc (newObj o):=⟨fun C _=>⟨h C,fun _=>trivial⟩⟩
theorem shy_setObj {r:Nat} {o:Obj} (h:∀ C,OkObj C o) (hc:o≠clean):Shyc (setObj r o):=⟨fun C _=>⟨⟨h C,hc⟩,trivial⟩⟩
instance {c:Array Value} {e:TypeId} {f:Nat × Nat}:Shyc (newObj (.cells c e f)):=shy_newObj fun _=>trivial
instance {a:Addr} {l:Bool}:Shyc (newObj (.number a l)):=shy_newObj fun _=>trivial
instance {a:Addr} {l:TypeId}:Shyc (newObj (.view a l)):=shy_newObj fun _=>trivial
instance {es:Array MapEntry} {c:Nat}:Shyc (newObj (.map es c)):=shy_newObj fun _=>trivial
instance {x:ByteArray} {c:Nat}:Shyc (newObj (.stringIter x c)):=shy_newObj fun _=>trivial
instance {m:Option Nat} {s:Nat} {a:Array Nat} {l:Nat}:Shyc (newObj (.mapIter m s a l)):=shy_newObj fun _=>trivial
instance:Shyc (newObj (.deferred (some []))):=shy_newObj fun _=>by simp [OkObj]
instance {r:Nat} {es:Array MapEntry} {c:Nat}:Shyc (setObj r (.map es c)):=shy_setObj (fun _=>trivial) (by simp)
instance {r:Nat} {x:ByteArray} {c:Nat}:Shyc (setObj r (.stringIter x c)):=shy_setObj (fun _=>trivial) (by simp)
instance {r:Nat} {m:Option Nat} {s:Nat} {a:Array Nat} {l:Nat}:Shyc (setObj r (.mapIter m s a l)):=shy_setObj (fun _=>trivial) (by simp)
instance {r:Nat}:Shyc (setObj r (.deferred none)):=shy_setObj (fun _=>trivial) (by simp)
instance shy_ite {c:Prop} [Decidable c] {a b:Sem α} [Shyc a] [Shyc b]:Shyc (if c then a else b):=by split <;> infer_instance
theorem shy_foldlM {γ:Type} (f:β→γ→Sem β) (h:∀ b c,Shyc (f b c)):∀ (l:List γ) (b:β),Shyc (l.foldlM f b)
 | [],b=>by simp only [List.foldlM_nil];infer_instance
 | c :: l,b=>by simp only [List.foldlM_cons];exact shy_bind (h b c) fun b'=>shy_foldlM f h l b'
theorem shy_forIn_list {γ:Type} (f:γ→β→Sem (ForInStep β)) (h:∀ c b,Shyc (f c b)):∀ (l:List γ) (b:β),Shyc (forIn l b f)
 | [],b=>by simp only [List.forIn_nil];infer_instance
 | c :: l,b=>by
  rw [List.forIn_cons]
  refine shy_bind (h c b) fun r=>?_
  cases r
  ·infer_instance
  ·exact shy_forIn_list f h l _
end
section
variable {α β γ:Type}
theorem shy_forIn_arr (f:γ→β→Sem (ForInStep β)) (h:∀ c b,Shyc (f c b)) (l:Array γ) (b:β):Shyc (forIn l b f):=by
 rw [← Array.forIn_toList];exact shy_forIn_list f h _ _
theorem shy_forIn_range (f:Nat→β→Sem (ForInStep β)) (h:∀ c b,Shyc (f c b)) (l:Std.Legacy.Range) (b:β):Shyc (forIn l b f):=by
 rw [Std.Legacy.Range.forIn_eq_forIn_range'];exact shy_forIn_list f h _ _
theorem shy_mapM (f:β→Sem γ) (h:∀ c,Shyc (f c)) (l:Array β):Shyc (l.mapM f):=by
 rw [Array.mapM_eq_foldlM,← Array.foldlM_toList]
 exact shy_foldlM _ (fun b c=>by have:=h c;infer_instance) _ _
end
theorem ks {α:Type} {s:Sem α} (h:Shyc s:=by repeat' (first | infer_instance | (refine shy_get ?_ (fun o ho=>by cases o <;> first | exact .inl trivial | exact .inr rfl | (exfalso;simp [strange] at ho;done))) | (apply shy_forIn_arr;intro _ _) | (apply shy_forIn_range;intro _ _) | (apply shy_mapM;intro _) | apply shy_ite2 | apply shy_bind | intro _ | dsimp only | split)):Shyc s:=h
section
instance {t:TypeId}:Shyc (typeInfo t):=by
 unfold typeInfo
 exact ks
instance {t:TypeId}:Shyc (underlying t):=by
 unfold underlying
 exact ks
instance {s:String}:Shyc (cutType s):=by
 unfold cutType
 exact ks
instance {s:String}:Shyc (globalAddr s):=by
 unfold globalAddr
 exact ks
instance {t:TypeId}:Shyc (typeStr t):=by
 unfold typeStr
 exact ks
instance {t:TypeId}:Shyc (zeroValue t):=by
 unfold zeroValue
 exact ks
instance {t:TypeId}:Shyc (sizeOf t):=by
 unfold sizeOf
 exact ks
instance {t:TypeId}:Shyc (isAgg t):=by
 unfold isAgg
 exact ks
instance {r:Nat}:Shyc (viewAt r):=by
 unfold viewAt
 exact ks
instance {r:Nat}:Shyc (numberAt r):=by
 unfold numberAt
 exact ks
instance {a:Addr} {l:Bool}:Shyc (asNumber a l):=by
 unfold asNumber
 exact ks
instance {a:Addr}:Shyc (behindNumber a):=by
 unfold behindNumber
 exact ks
instance {a:Addr}:Shyc (backFromNumber a):=by
 unfold backFromNumber
 exact ks
instance {a:Addr}:Shyc (noView a):=by
 unfold noView
 exact ks
instance {a:Addr}:Shyc (markStringish a):=by
 unfold markStringish
 exact ks
instance {a:Addr}:Shyc (stringish a):=by
 unfold stringish
 exact ks
instance {a b:Addr}:Shyc (mayBeOne a b):=by
 unfold mayBeOne
 exact ks
instance {a b:Addr}:Shyc (sameAddr a b):=by
 unfold sameAddr
 exact ks
instance {a b:Option Addr}:Shyc (samePointer a b):=by
 unfold samePointer
 exact ks
theorem shy_loadCellsFrom (a:Addr):∀ (n i:Nat) (acc:Array Value),Shyc (loadCellsFrom a i n acc)
 | 0,i,acc=>by unfold loadCellsFrom;infer_instance
 | n+1,i,acc=>by unfold loadCellsFrom;exact shy_bind inferInstance fun v=>shy_loadCellsFrom a n _ _
instance {a:Addr} {n:Nat}:Shyc (loadCells a n):=by unfold loadCells;exact shy_loadCellsFrom a n 0 #[]
theorem shy_storeCells (a:Addr):∀ (vs:List Value) (i:Nat),Shyc (storeCells a vs i)
 | [],i=>by unfold storeCells;infer_instance
 | v :: vs,i=>by unfold storeCells;exact shy_bind inferInstance fun _=>shy_storeCells a vs _
instance {a:Addr} {vs:List Value} {i:Nat}:Shyc (storeCells a vs i):=shy_storeCells a vs i
instance {t:TypeId} {a:Addr}:Shyc (loadVar t a):=by
 unfold loadVar
 exact ks
instance {t:TypeId} {a:Addr} {v:Value}:Shyc (storeVar t a v):=by
 unfold storeVar
 exact ks
instance {t:TypeId} {c:Array Value}:Shyc (newRow t c):=by
 unfold newRow
 exact ks
instance {t:TypeId} {v:Value}:Shyc (newVar t v):=by
 unfold newVar
 exact ks
instance {t:TypeId}:Shyc (elemOf t):=by
 unfold elemOf
 exact ks
instance {t:TypeId} {cs:Array Value} {off:Nat}:Shyc (part t cs off):=by
 unfold part
 exact ks
instance {α:Type} {s:String}:Shyc ((panicString s:Sem α)):=by
 unfold panicString
 exact ks
instance {α:Type} {e:RuntimeError}:Shyc ((runtimePanic e:Sem α)):=by
 unfold runtimePanic
 exact ks
instance {α:Type} {k:IntKind} {x y:Int} {c:BoundsCode}:Shyc ((boundsPanic k x y c:Sem α)):=by
 unfold boundsPanic
 exact ks
instance {v:Value}:Shyc (asIntOf v):=by
 unfold asIntOf
 exact ks
instance {v:Value}:Shyc (asInt v):=by
 unfold asInt
 exact ks
instance {v:Value}:Shyc (asBool v):=by
 unfold asBool
 exact ks
instance {v:Value}:Shyc (asString v):=by
 unfold asString
 exact ks
instance {v:Value}:Shyc (asAgg v):=by
 unfold asAgg
 exact ks
instance {v:Value}:Shyc (asAddr v):=by
 unfold asAddr
 exact ks
instance {n:Nat}:Shyc (askRoom n):=by
 unfold askRoom
 exact ks
instance {a:Addr}:Shyc (byteOf a):=by
 unfold byteOf
 exact ks
instance {a:Addr} {c b:Nat}:Shyc (partAt a c b):=by
 unfold partAt
 exact ks
instance {a:Addr} {f:Field}:Shyc (fieldPlace a f):=by
 unfold fieldPlace
 exact ks
instance {a:Addr} {u:TypeId} {n:Nat}:Shyc (variablesAt a u n):=by
 unfold variablesAt
 exact ks
instance {e:TypeId} {h:Bool} {o:Value}:Shyc (Instr.alloc e h o):=by
 unfold Instr.alloc
 exact ks
instance {v:Value}:Shyc (Instr.sureAddr v):=by
 unfold Instr.sureAddr
 exact ks
instance {t:TypeId} {a:Value}:Shyc (Instr.loadAt t a):=by
 unfold Instr.loadAt
 exact ks
instance {t:TypeId} {a v:Value}:Shyc (Instr.storeAt t a v):=by
 unfold Instr.storeAt
 exact ks
instance {t:TypeId} {a:Value} {f:Nat}:Shyc (Instr.fieldAt t a f):=by
 unfold Instr.fieldAt
 exact ks
instance {t:TypeId} {a i:Value}:Shyc (Instr.indexAt t a i):=by
 unfold Instr.indexAt
 exact ks
instance {x:Value} {y:Nat} {c:BoundsCode}:Shyc (Instr.sliceBound x y c):=by
 unfold Instr.sliceBound
 exact ks
instance {b:Bool} {l c:Nat} {x y z:Option Value}:Shyc (Instr.sliceBounds b l c x y z):=by
 unfold Instr.sliceBounds
 exact ks
instance {t:TypeId} {v:Value} {x y z:Option Value}:Shyc (Instr.slice t v x y z):=by
 unfold Instr.slice
 exact ks
instance {t:TypeId} {v:Value} {x y z:Option Value}:Shyc (Instr.sliceAt t v x y z):=by
 unfold Instr.sliceAt
 exact ks
instance {t:TypeId} {v:Value}:Shyc (Instr.arrayAt t v):=by
 unfold Instr.arrayAt
 exact ks
instance {t:TypeId} {v:Value}:Shyc (Instr.box t v):=by
 unfold Instr.box
 exact ks
instance {t:TypeId} {p:Array (Nat × Value)}:Shyc (Instr.build t p):=by
 unfold Instr.build
 exact ks
instance {t:TypeId} {n:Nat} {p:Array (Nat × Value)}:Shyc (Instr.buildSlice t n p):=by
 unfold Instr.buildSlice
 exact ks
instance {t:TypeId} {v:Value}:Shyc (Instr.makeInterface t v):=by
 unfold Instr.makeInterface
 exact ks
instance {f:Fn} {a b:Array Value}:Shyc (Instr.makeFunc f a b):=by
 unfold Instr.makeFunc
 exact ks
instance {t:TypeId} {r:Option Value}:Shyc (Instr.makeMap t r):=by
 unfold Instr.makeMap
 exact ks
instance {t:TypeId} {l c:Value}:Shyc (Instr.makeSlice t l c):=by
 unfold Instr.makeSlice
 exact ks
instance {t:TypeId} {v:Value} {f:Nat}:Shyc (Instr.field t v f):=by
 unfold Instr.field
 exact ks
instance {t:TypeId} {v i:Value}:Shyc (Instr.index t v i):=by
 unfold Instr.index
 exact ks
theorem shy_equalIn:∀ (d:Nat) (t:TypeId) (x y:Value),Shyc (Op.equalIn d t x y)
 | 0,t,x,y=>by unfold Op.equalIn;infer_instance
 | d+1,t,x,y=>by
  have ih:=shy_equalIn d
  unfold Op.equalIn
  exact ks
instance {t:TypeId} {x y:Value}:Shyc (Op.equal t x y):=shy_equalIn _ t x y
theorem shy_eqGuardIn:∀ (d:Nat) (t:TypeId) (x y:Value),Shyc (Op.eqGuardIn d t x y)
 | 0,t,x,y=>by unfold Op.eqGuardIn;infer_instance
 | d+1,t,x,y=>by
  have ih:=shy_eqGuardIn d
  unfold Op.eqGuardIn
  exact ks
instance {d:Nat} {t:TypeId} {x y:Value}:Shyc (Op.eqGuardIn d t x y):=shy_eqGuardIn d t x y
theorem shy_checkKey (e:Bool):∀ (d:Nat) (t:TypeId) (x:Value),Shyc (Instr.checkKey e d t x)
 | 0,t,x=>by unfold Instr.checkKey;infer_instance
 | d+1,t,x=>by
  have ih:=shy_checkKey e d
  unfold Instr.checkKey
  exact ks
instance {e:Bool} {d:Nat} {t:TypeId} {x:Value}:Shyc (Instr.checkKey e d t x):=shy_checkKey e d t x
theorem shy_findAsking (t:TypeId) (k:Value):∀ (es:List MapEntry) (i:Nat),Shyc (Instr.findAsking t k es i)
 | [],i=>by unfold Instr.findAsking;infer_instance
 | e :: es,i=>by
  have ih:=shy_findAsking t k es (i+1)
  unfold Instr.findAsking
  infer_instance
instance {t:TypeId} {k:Value} {es:List MapEntry} {i:Nat}:Shyc (Instr.findAsking t k es i):=shy_findAsking t k es i
instance {t:TypeId} {k:Value} {es:List MapEntry}:Shyc (Instr.findKey t k es):=by
 unfold Instr.findKey
 exact ks
instance {t:TypeId} {x i:Value} {c:Bool}:Shyc (Instr.lookup t x i c):=by
 unfold Instr.lookup
 exact ks
instance {x y:Value}:Shyc (Instr.keyThatStays x y):=by
 unfold Instr.keyThatStays
 exact ks
instance {t:TypeId} {m k v:Value}:Shyc (Instr.mapUpdate t m k v):=by
 unfold Instr.mapUpdate
 exact ks
instance {t:TypeId} {x:Value}:Shyc (Instr.range t x):=⟨fun C P=>by
 unfold Instr.range
 refine Shy.bind (φ:=fun _=>True) (fun d _=>?_) (Shyc.t C P)
 dsimp only
 split
 ·exact ⟨trivial,fun _=>trivial⟩
 ·exact ⟨trivial,fun _=>trivial⟩
 ·exact ⟨fun o _=>by cases o <;> first | exact ⟨trivial,fun _=>trivial⟩ | exact ⟨fun _=>trivial,trivial⟩,fun o _=>.inl trivial⟩
 ·exact ⟨fun _=>trivial,trivial⟩⟩
instance {x:Value} {b:Bool} {t:TypeId}:Shyc (Instr.next x b t):=by
 unfold Instr.next
 exact ks
instance {x:Value} {t u:TypeId} {b:Bool}:Shyc (Instr.typeAssert x t u b):=by
 unfold Instr.typeAssert
 exact ks
instance {x:Value} {i:Nat}:Shyc (Instr.extract x i):=by
 unfold Instr.extract
 exact ks
instance  : Shyc (Instr.panicnil):=by
 unfold Instr.panicnil
 exact ks
instance {x:Value}:Shyc (Instr.panic x):=by
 unfold Instr.panic
 exact ks
instance {o:BinOp} {k:IntKind} {x y:Int}:Shyc (Op.intArith o k x y):=by
 unfold Op.intArith
 exact ks
instance {o:BinOp} {k:IntKind} {x y:Int}:Shyc (Op.intDiv o k x y):=by
 unfold Op.intDiv
 exact ks
instance {o:BinOp} {k:IntKind} {x y:Int}:Shyc (Op.intBits o k x y):=by
 unfold Op.intBits
 exact ks
instance {o:BinOp} {k:IntKind} {x:Int} {k':IntKind} {y:Int}:Shyc (Op.shift o k x k' y):=by
 unfold Op.shift
 exact ks
instance {o:BinOp} {x y:Int}:Shyc (Op.intCmp o x y):=by
 unfold Op.intCmp
 exact ks
instance {o:BinOp} {x y:ByteArray}:Shyc (Op.stringOp o x y):=by
 unfold Op.stringOp
 exact ks
instance {o:UnOp} {x:Value}:Shyc (Op.unary o x):=by
 unfold Op.unary
 exact ks
instance {a b:Addr}:Shyc (Op.twoPlaces a b):=by
 unfold Op.twoPlaces
 exact ks
instance {k:IntKind} {a b:Addr}:Shyc (Op.addrSub k a b):=by
 unfold Op.addrSub
 exact ks
instance {o:BinOp} {a b:Addr}:Shyc (Op.addrCmp o a b):=by
 unfold Op.addrCmp
 exact ks
instance {k:IntKind} {a:Addr} {n:Int}:Shyc (Op.addrMod k a n):=by
 unfold Op.addrMod
 exact ks
instance {o:BinOp} {k:FloatKind} {x y:Nat}:Shyc (Op.floatArith o k x y):=by
 unfold Op.floatArith
 exact ks
instance {o:BinOp} {k:FloatKind} {x y:Nat}:Shyc (Op.floatCmp o k x y):=by
 unfold Op.floatCmp
 exact ks
instance {k:FloatKind} {b:Nat} {k':FloatKind}:Shyc (Conv.floatToFloat k b k'):=by
 unfold Conv.floatToFloat
 exact ks
instance {o:BinOp} {k:FloatKind} {x y:Nat}:Shyc (Op.Complex.arith o k x y):=by
 unfold Op.Complex.arith
 exact ks
instance {o:BinOp} {k:FloatKind} {x y:Nat}:Shyc (Op.Complex.cmp o k x y):=by
 unfold Op.Complex.cmp
 exact ks
instance {k:FloatKind} {x:Nat} {k':FloatKind}:Shyc (Op.Complex.conv k x k'):=by
 unfold Op.Complex.conv
 exact ks
instance {x y:Nat}:Shyc (Op.Complex.add x y):=by
 unfold Op.Complex.add
 exact ks
instance {x y:Nat}:Shyc (Op.Complex.sub x y):=by
 unfold Op.Complex.sub
 exact ks
instance {x y:Nat}:Shyc (Op.Complex.mul x y):=by
 unfold Op.Complex.mul
 exact ks
instance {x y:Nat}:Shyc (Op.Complex.quo x y):=by
 unfold Op.Complex.quo
 exact ks
instance {a b c e:Nat}:Shyc (Op.Complex.product a b c e):=by
 unfold Op.Complex.product
 exact ks
instance {s a b c e:Nat}:Shyc (Op.Complex.corrected s a b c e):=by
 unfold Op.Complex.corrected
 exact ks
instance {a b c e:Nat}:Shyc (Op.Complex.quotient a b c e):=by
 unfold Op.Complex.quotient
 exact ks
instance {o:BinOp} {k:FloatKind} {a b c e:Nat}:Shyc (Op.complexOp o k a b c e):=by
 unfold Op.complexOp
 exact ks
instance {k:IntKind} {n:Int}:Shyc (Conv.intToInt k n):=by
 unfold Conv.intToInt
 exact ks
instance {k:FloatKind} {n:Int}:Shyc (Conv.intToFloat k n):=by
 unfold Conv.intToFloat
 exact ks
instance {k:FloatKind} {b:Nat} {k':IntKind}:Shyc (Conv.floatToInt k b k'):=by
 unfold Conv.floatToInt
 exact ks
instance {k:FloatKind} {x y:Nat} {k':FloatKind}:Shyc (Conv.complexToComplex k x y k'):=by
 unfold Conv.complexToComplex
 exact ks
instance {n:Int}:Shyc (Conv.intToString n):=by
 unfold Conv.intToString
 exact ks
instance {e:TypeId} {s:ByteArray}:Shyc (Conv.stringToBytes e s):=by
 unfold Conv.stringToBytes
 exact ks
instance {e:TypeId} {s:ByteArray}:Shyc (Conv.stringToRunes e s):=by
 unfold Conv.stringToRunes
 exact ks
instance {x:Value}:Shyc (Conv.bytesToString x):=by
 unfold Conv.bytesToString
 exact ks
instance {x:Value}:Shyc (Conv.runesToString x):=by
 unfold Conv.runesToString
 exact ks
instance {a:Addr}:Shyc (Conv.seenAt a):=by
 unfold Conv.seenAt
 exact ks
instance {a:Addr} {n:Nat}:Shyc (Builtin.holdsCells a n):=by
 unfold Builtin.holdsCells
 exact ks
instance {s l n:Nat} {b:Option Addr} {x:Value}:Shyc (Builtin.mayShare s l n b x):=by
 unfold Builtin.mayShare
 exact ks
instance {v:Value}:Shyc (Builtin.lenOf v):=by
 unfold Builtin.lenOf
 exact ks
instance {s n:Nat} {v:Value}:Shyc (Builtin.firstCells s n v):=by
 unfold Builtin.firstCells
 exact ks
instance {a:Array TypeId} {t:TypeId} {x:Array Value}:Shyc (Builtin.append_ a t x):=by
 unfold Builtin.append_
 exact ks
instance {a:Array TypeId} {t:TypeId} {x:Array Value}:Shyc (Builtin.cap_ a t x):=by
 unfold Builtin.cap_
 exact ks
instance {a:Array TypeId} {t:TypeId} {x:Array Value}:Shyc (Builtin.copy_ a t x):=by
 unfold Builtin.copy_
 exact ks
instance {a:Array TypeId} {t:TypeId} {x:Array Value}:Shyc (Builtin.delete_ a t x):=by
 unfold Builtin.delete_
 exact ks
instance {a:Array TypeId} {t:TypeId} {x:Array Value}:Shyc (Builtin.len_ a t x):=by
 unfold Builtin.len_
 exact ks
instance {a:Array TypeId} {t:TypeId} {x:Array Value}:Shyc (Builtin.clear_ a t x):=by
 unfold Builtin.clear_
 exact ks
instance {x y:Value}:Shyc (Builtin.max2 x y):=by
 unfold Builtin.max2
 exact ks
instance {x y:Value}:Shyc (Builtin.min2 x y):=by
 unfold Builtin.min2
 exact ks
instance {a:Array TypeId} {t:TypeId} {x:Array Value}:Shyc (Builtin.max_ a t x):=by
 unfold Builtin.max_
 split
 ·infer_instance
 ·exact shy_foldlM _ (fun _ _=>inferInstance) _ _
instance {a:Array TypeId} {t:TypeId} {x:Array Value}:Shyc (Builtin.min_ a t x):=by
 unfold Builtin.min_
 split
 ·infer_instance
 ·exact shy_foldlM _ (fun _ _=>inferInstance) _ _
theorem shy_unsafeAdd (t:TypeId) (x y:Value):Shyc (Builtin.unsafeAdd_ #[] t #[x,y]):=by
 unfold Builtin.unsafeAdd_
 cases x
 case pointer ptr =>
  refine shy_bind (s:=asInt y) inferInstance fun n=>?_
  exact ks
 all_goals exact (shy_stuck:Shyc (stuck _:Sem Value))
instance {t:TypeId} {x y:Value}:Shyc (Builtin.unsafeAdd_ #[] t #[x,y]):=shy_unsafeAdd t x y
instance {t:TypeId} {x y:Value}:Shyc (movedNumber t x y):=by
 unfold movedNumber
 exact ks
instance {t:TypeId} {x y:Value}:Shyc (movedPointer t x y):=by
 unfold movedPointer
 exact ks
instance {o:BinOp} {t:TypeId} {x y:Operand} {a b:Value}:Shyc (eqGuard o t x y a b):=by
 unfold eqGuard
 exact ks
instance {o:BinOp} {t:TypeId} {x y:Value}:Shyc (binOp o t x y):=by
 unfold binOp
 exact ks
end
section
instance {t:TypeId} {p:Place}:Shyc (p.get t):=by cases p <;> (unfold Place.get;infer_instance)
theorem shy_follow:∀ (l:List FieldStep) (t:TypeId) (x:Place),Shyc (follow l t x)
 | [],t,x=>by unfold follow;infer_instance
 | s :: l,t,x=>by
  have ih:=shy_follow l
  unfold follow
  exact ks
instance {l:List FieldStep} {t:TypeId} {x:Place}:Shyc (follow l t x):=shy_follow l t x
theorem shy_nilChk (a:Array TypeId) (t:TypeId) (x y z:Value):Shyc (Builtin.ssaWrapNilChk_ a t #[x,y,z]):=by
 unfold Builtin.ssaWrapNilChk_
 cases y <;> first | exact (shy_stuck:Shyc (stuck "ssa:wrapnilchk: a pointer and two strings expected" : Sem Value)) | skip
 cases z <;> first | exact (shy_stuck:Shyc (stuck "ssa:wrapnilchk: a pointer and two strings expected" : Sem Value)) | skip
 cases x <;> first | exact (shy_stuck:Shyc (stuck "ssa:wrapnilchk: pointer expected" : Sem Value)) | skip
 rename_i p
 cases p with
 | some p=>exact (shy_pure:Shyc (pure _:Sem Value))
 | none =>
  refine shy_bind (s:=choose (Question.extern "ssa:wrapnilchk.dereferenced" 2)) inferInstance fun r=>?_
  exact ks
instance {a:Array TypeId} {t:TypeId} {x y z:Value}:Shyc (Builtin.ssaWrapNilChk_ a t #[x,y,z]):=shy_nilChk a t x y z
instance {t:TypeId} {x:Place} {b:Bool} {w:Option String}:Shyc (receiverAt t x b w):=by
 unfold receiverAt
 exact ks
instance {t:TypeId} {v:Value} {p:Array FieldStep} {b:Bool}:Shyc (receiverVia t v p b):=by
 unfold receiverVia
 exact ks
theorem shy_method:∀ (n:Nat) (t:TypeId) (v:Value) (s:String),Shyc (method n t v s)
 | 0,t,v,s=>by unfold method;infer_instance
 | n+1,t,v,s=>by
  have ih:=shy_method n
  unfold method
  exact ks
instance {n:Nat} {t:TypeId} {v:Value} {s:String}:Shyc (method n t v s):=shy_method n t v s
theorem shy_followBlind:∀ (l:List FieldStep) (t:TypeId) (x:Option Value),Shyc (followBlind l t x)
 | [],t,x=>by unfold followBlind;infer_instance
 | s :: l,t,x=>by
  have ih:=shy_followBlind l
  unfold followBlind
  exact ks
instance {l:List FieldStep} {t:TypeId} {x:Option Value}:Shyc (followBlind l t x):=shy_followBlind l t x
theorem shy_nilAhead:∀ (n:Nat) (t:TypeId) (v:Value) (s:String),Shyc (nilAhead n t v s)
 | 0,t,v,s=>by unfold nilAhead;infer_instance
 | n+1,t,v,s=>by
  have ih:=shy_nilAhead n
  unfold nilAhead
  exact ks
instance {n:Nat} {t:TypeId} {v:Value} {s:String}:Shyc (nilAhead n t v s):=shy_nilAhead n t v s
instance {v:Value} {a:Array Value}:Shyc (Deferred.ofValue v a):=by
 unfold Deferred.ofValue
 exact ks
instance {ρ:Operand→Value} {c:Call} {t:TypeId}:Shyc (resolve ρ c t):=by
 unfold resolve
 exact ks
end
def NextSh (C:Code→Prop) (r:Bool):Next→Prop
 | .value _ | .skip | .enter .. | .comm .. => True
 | .recover=>r=true
 | .round _ _ _ assign body=>C assign∧C body
 | .defer d=>OkDef d
 | .spawn d=>OkDef d
 | _=>False
section
variable {C:Code→Prop} {P:Program} {r:Bool}
theorem shy_pureφ {α:Type} {φ:α→Prop} {a:α} (h:φ a):Shy true C P φ (pure a:Sem α):=h
theorem shy_then {α β:Type} {ψ:β→Prop} {s:Sem α} {f:α→Sem β} (h:Shyc s) (hf:∀ a,Shy true C P ψ (f a)):Shy true C P ψ (s >>= f):=Shy.bind (fun a _=>hf a) (h.t C P)
theorem shy_value {s:Sem Value} (h:Shyc s):Shy true C P (NextSh C r) (do pure (.value (← s)):Sem Next):=shy_then h fun _=>trivial
theorem shy_skip {s:Sem Unit} (h:Shyc s):Shy true C P (NextSh C r) (do s;pure .skip:Sem Next):=shy_then h fun _=>trivial
theorem shy_goPanicφ {α:Type} {φ:α→Prop} {v:Value}:Shy true C P φ (goPanic v:Sem α):=⟨fun _=>trivial,trivial⟩
theorem shy_stuckφ {α:Type} {φ:α→Prop} {v:String}:Shy true C P φ (stuck v:Sem α):=⟨fun _=>trivial,trivial⟩
theorem shy_runtimePanic {α:Type} {φ:α→Prop} (e:RuntimeError):Shy true C P φ (runtimePanic e:Sem α):=by
 unfold runtimePanic
 refine shy_then inferInstance fun p=>?_
 dsimp only
 split
 ·exact shy_goPanicφ
 ·exact shy_goPanicφ
 ·exact shy_goPanicφ
 ·exact shy_goPanicφ
 ·exact shy_then inferInstance fun _=>shy_then inferInstance fun _=>shy_goPanicφ
 ·exact shy_then inferInstance fun _=>shy_then inferInstance fun _=>shy_goPanicφ
 ·exact shy_goPanicφ
theorem shy_getLoop {l:Nat}:Shy true C P (fun r:Loop=>C r.assign∧C r.body∧(∀ c,r.pending=some c→C c)) (Instr.getLoop l):=by
 unfold Instr.getLoop
 exact ⟨fun o ho=>by cases o <;> first | exact ho | exact ⟨fun _=>trivial,trivial⟩,fun o _=>.inl trivial⟩
theorem shy_enterLoop {fn:FuncId} {tmps:Array Value} {params:Array Tmp} {assign body:Code} {around:Option Nat} (ha:C assign) (hb:C body) :
  Shy true C P (fun x:Nat × List Deferred=>∀ d∈x.2,OkDef d) (Instr.enterLoop fn tmps params assign body around):=by
 unfold Instr.enterLoop
 cases around with
 | some l =>
  refine Shy.bind (φ:=fun _=>True) (fun r _=>?_) (Shy.mono (fun _ _=>trivial) shy_getLoop)
  exact ⟨⟨ha,hb,by simp⟩,fun n d hd=>by cases hd⟩
 | none =>
  refine ⟨by simp [OkObj],fun r=>⟨⟨ha,hb,by simp⟩,fun n d hd=>?_⟩⟩
  rcases List.mem_singleton.1 hd with rfl
  trivial
theorem shy_yield {l:Nat} {args:Array Value}:Shy true C P (NextSh C r) (Instr.yield l args):=by
 unfold Instr.yield
 refine Shy.bind (fun r hr=>?_) shy_getLoop
 split
 ·exact shy_then inferInstance fun _=>⟨hr.1,hr.2.1⟩
 ·exact ⟨hr.1,hr.2.1⟩
theorem shy_beginRound {l:Nat}:Shy true C P (fun _=>True) (Instr.beginRound l):=by
 unfold Instr.beginRound
 refine Shy.bind (fun r hr=>?_) shy_getLoop
 refine ⟨⟨⟨hr.1,hr.2.1,hr.2.2⟩,nofun⟩,?_⟩
 show Shy true C P _ (match r.state with | .ready=>_ | .done=>_ | .busy=>_ | .exhausted=>_)
 split
 ·first | trivial | exact ⟨fun _=>trivial,trivial⟩
 ·exact shy_runtimePanic _
 ·exact shy_runtimePanic _
 ·exact shy_runtimePanic _
theorem shy_endRound {l:Nat} {jump:Option Code} (hj:∀ c,jump=some c→C c):Shy true C P (fun _=>True) (Instr.endRound l jump):=by
 unfold Instr.endRound
 refine Shy.bind (fun r hr=>?_) shy_getLoop
 exact ⟨⟨⟨hr.1,hr.2.1,hj⟩,nofun⟩,trivial⟩
theorem shy_endLoop {l:Nat}:Shy true C P (fun j:Option Code=>∀ c,j=some c→C c) (Instr.endLoop l):=by
 unfold Instr.endLoop
 refine Shy.bind (fun r hr=>?_) shy_getLoop
 split
 ·refine Shy.bind (φ:=fun _=>True) (fun _ _=>?_) (shy_runtimePanic _)
  exact ⟨⟨⟨hr.1,hr.2.1,hr.2.2⟩,nofun⟩,hr.2.2⟩
 ·exact ⟨⟨⟨hr.1,hr.2.1,hr.2.2⟩,nofun⟩,hr.2.2⟩
theorem shy_deferInRound {l:Nat} {d:Deferred} (hd:OkDef d):Shy true C P (fun _=>True) (Instr.deferInRound l d):=by
 unfold Instr.deferInRound
 refine Shy.bind (φ:=fun _=>True) (fun r _=>?_) (Shy.mono (fun _ _=>trivial) shy_getLoop)
 refine ⟨fun o ho=>?_,fun o _=>.inl trivial⟩
 show Shy true C P _ (match o with | .deferred (some ds)=>_ | .deferred none=>_ | _=>_)
 cases o with
 | deferred c =>
  cases c with
  | none=>first | trivial | exact ⟨fun _=>trivial,trivial⟩
  | some ds =>
   refine ⟨⟨fun x hx=>?_,nofun⟩,trivial⟩
   rcases List.mem_cons.1 hx with rfl | h
   ·exact hd
   ·exact ho x h
 | _=>first | trivial | exact ⟨fun _=>trivial,trivial⟩
theorem shy_takeDeferred {b:Nat}:Shy true C P (fun ds:List Deferred=>∀ d∈ds,OkDef d) (Instr.takeDeferred b):=by
 unfold Instr.takeDeferred
 refine ⟨fun o ho=>?_,fun o _=>.inl trivial⟩
 show Shy true C P _ (match o with | .deferred (some ds)=>_ | _=>_)
 cases o with
 | deferred c =>
  cases c with
  | none=>first | trivial | exact ⟨fun _=>trivial,trivial⟩
  | some ds=>exact ⟨⟨trivial,nofun⟩,ho⟩
 | _=>first | trivial | exact ⟨fun _=>trivial,trivial⟩
theorem shy_builtin {b:Builtin} (hb:okBuiltin b=true) (hr:isRecover b=true→r=true) (ats:Array TypeId) (t:TypeId) (cs:Array Bool) (args:Array Value):Shy true C P (NextSh C r) (builtin b ats t cs args):=by
 unfold builtin
 cases b <;> first | (cases hb;done) | exact shy_value inferInstance | exact hr rfl
def FnShy (P:Program) (f:FuncId):Prop :=
 ∀ fn,P.funcs[f]? = some fn→(fn.name == "runtime.NumGoroutine")=false∧(fn.body.isNone=true→(Extern.findNext fn).isNone=true∧∀ e,Extern.find fn=some e→∀ args,Shyc (e args))
theorem shy_callFunc {f:FuncId} (h:FnShy P f) (args:Array Value):Shy true C P (NextSh C r) (callFunc f args):=by
 unfold callFunc
 show Shy true C P _ (match P.funcs[f]? with | none=>_ | some fn=>_)
 cases hf:P.funcs[f]? with
 | none=>first | trivial | exact ⟨fun _=>trivial,trivial⟩
 | some fn =>
  obtain ⟨hn,hx⟩:=h fn hf
  simp only [hn,Bool.false_eq_true,if_false]
  split
  ·rename_i hb
   obtain ⟨h1,h2⟩:=hx hb
   refine shy_then inferInstance fun _=>?_
   cases hfn:Extern.findNext fn with
   | some e=>rw [hfn] at h1;cases h1
   | none =>
    show Shy true C P _ (match Extern.find fn with | some e=>_ | none=>_)
    cases he:Extern.find fn with
    | some e=>exact shy_value (h2 e he args)
    | none =>
     dsimp only
     split
     ·first | trivial | exact ⟨fun _=>trivial,trivial⟩
     ·first | trivial | exact ⟨fun _=>trivial,trivial⟩
  ·first | trivial | exact ⟨fun _=>trivial,trivial⟩
end
end Go.Tm
namespace Go.Tm
open Go
class Calm {α:Type} (s:Sem α):Prop where
 t:∀ (C:Code→Prop) (P:Program),Tame C P (fun _=>True) s
section
variable {α β:Type}
theorem calm_bind {s:Sem α} {f:α→Sem β} (h:Calm s) (hf:∀ a,Calm (f a)):Calm (s >>= f):=⟨fun C P=>Tame.bind (fun a _=>(hf a).t C P) (h.t C P)⟩
instance calm_bind_i {s:Sem α} {f:α→Sem β} [h:Calm s] [hf:∀ a,Calm (f a)]:Calm (s >>= f):=calm_bind h hf
instance calm_map {s:Sem α} {f:α→β} [h:Calm s]:Calm (f <$> s):=(calm_bind h (fun a=>(⟨fun _ _=>trivial⟩:Calm (pure (f a):Sem β))):Calm (s >>= fun a=>pure (f a)))
theorem calm_ite2 {c:Prop} [Decidable c] {a b:Sem α} (ha:Calm a) (hb:Calm b):Calm (if c then a else b):=by split <;> assumption
instance calm_pure {a:α}:Calm (pure a:Sem α):=⟨fun _ _=>trivial⟩
end
section
variable {α β γ:Type}
instance calm_of_shy {s:Sem α} [h:Shyc s]:Calm s:=⟨fun C P=>tame_of_shy (h.t C P)⟩
instance calm_getObj {r:Nat}:Calm (getObj r):=⟨fun _ _ _ _=>trivial⟩
instance calm_stuck {s:String}:Calm (stuck s:Sem α):=⟨fun _ _=>trivial⟩
theorem calm_newObj {o:Obj} (h:∀ C,OkObj C o):Calm (newObj o):=⟨fun C _=>⟨h C,fun _=>trivial⟩⟩
theorem calm_foldlM {γ:Type} (f:β→γ→Sem β) (h:∀ b c,Calm (f b c)):∀ (l:List γ) (b:β),Calm (l.foldlM f b)
 | [],b=>by simp only [List.foldlM_nil];infer_instance
 | c :: l,b=>by simp only [List.foldlM_cons];exact calm_bind (h b c) fun b'=>calm_foldlM f h l b'
theorem calm_mapM (f:β→Sem γ) (h:∀ c,Calm (f c)) (l:Array β):Calm (l.mapM f):=by
 rw [Array.mapM_eq_foldlM,← Array.foldlM_toList]
 exact calm_foldlM _ (fun b c=>by have:=h c;infer_instance) _ _
end
instance {r:Nat}:Calm (cellsIn r):=by
 unfold cellsIn
 repeat' (first | infer_instance | apply calm_ite2 | apply calm_bind | intro _ | dsimp only | split)
instance {s t:TypeId} {x:Value}:Calm (Conv.unsafePointer s t x):=by
 unfold Conv.unsafePointer
 repeat' (first | infer_instance | apply calm_ite2 | apply calm_bind | intro _ | dsimp only | split)
instance {s t:TypeId} {x:Value}:Calm (convert s t x):=by
 unfold convert
 repeat' (first | infer_instance | apply calm_ite2 | apply calm_bind | intro _ | dsimp only | split)
def NextOk (C:Code→Prop) (S:FuncId→Prop) (r:Bool):Next→Prop
 | .value _ | .skip=>True
 | .recover=>r=true
 | .enter f _=>S f
 | .round _ _ _ assign body=>C assign∧C body
 | .defer d=>OkDef d
 | .comm cases b _=>r=true∧b=true∧∃ c,cases=#[c]
 | .spawn _=>r=true
 | _=>False
section
variable {C:Code→Prop} {P:Program} {S:FuncId→Prop} {r:Bool}
theorem tame_pure {α:Type} {φ:α→Prop} {a:α} (h:φ a):Tame C P φ (pure a:Sem α):=h
theorem tame_then {α β:Type} {ψ:β→Prop} {s:Sem α} {f:α→Sem β} (h:Calm s) (hf:∀ a,Tame C P ψ (f a)):Tame C P ψ (s >>= f):=Tame.bind (fun a _=>hf a) (h.t C P)
theorem tame_value {s:Sem Value} (h:Calm s):Tame C P (NextOk C S r) (do pure (.value (← s)):Sem Next):=tame_then h fun _=>trivial
theorem tame_skip {s:Sem Unit} (h:Calm s):Tame C P (NextOk C S r) (do s;pure .skip:Sem Next):=tame_then h fun _=>trivial
theorem tame_goPanic {α:Type} {φ:α→Prop} {v:Value}:Tame C P φ (goPanic v:Sem α):=trivial
theorem tame_stuck {α:Type} {φ:α→Prop} {v:String}:Tame C P φ (stuck v:Sem α):=trivial
theorem tame_runtimePanic {α:Type} {φ:α→Prop} (e:RuntimeError):Tame C P φ (runtimePanic e:Sem α):=by
 unfold runtimePanic
 refine tame_then inferInstance fun p=>?_
 dsimp only
 split
 ·exact tame_goPanic
 ·exact tame_goPanic
 ·exact tame_goPanic
 ·exact tame_goPanic
 ·exact tame_then inferInstance fun _=>tame_then inferInstance fun _=>tame_goPanic
 ·exact tame_then inferInstance fun _=>tame_then inferInstance fun _=>tame_goPanic
 ·exact tame_goPanic
theorem tame_getLoop {l:Nat}:Tame C P (fun r:Loop=>C r.assign∧C r.body∧(∀ c,r.pending=some c→C c)) (Instr.getLoop l):=by
 unfold Instr.getLoop
 intro o ho
 cases o <;> first | exact ho | trivial
theorem tame_enterLoop {fn:FuncId} {tmps:Array Value} {params:Array Tmp} {assign body:Code} {around:Option Nat} (ha:C assign) (hb:C body) :
  Tame C P (fun x:Nat × List Deferred=>∀ d∈x.2,OkDef d) (Instr.enterLoop fn tmps params assign body around):=by
 unfold Instr.enterLoop
 cases around with
 | some l =>
  refine Tame.bind (φ:=fun _=>True) (fun r _=>?_) (Tame.mono (fun _ _=>trivial) tame_getLoop)
  exact ⟨⟨ha,hb,by simp⟩,fun n d hd=>by cases hd⟩
 | none =>
  refine ⟨by simp [OkObj],fun r=>⟨⟨ha,hb,by simp⟩,fun n d hd=>?_⟩⟩
  rcases List.mem_singleton.1 hd with rfl
  trivial
theorem tame_yield {l:Nat} {args:Array Value}:Tame C P (NextOk C S r) (Instr.yield l args):=by
 unfold Instr.yield
 refine Tame.bind (fun r hr=>?_) tame_getLoop
 split
 ·exact tame_then inferInstance fun _=>⟨hr.1,hr.2.1⟩
 ·exact ⟨hr.1,hr.2.1⟩
theorem tame_beginRound {l:Nat}:Tame C P (fun _=>True) (Instr.beginRound l):=by
 unfold Instr.beginRound
 refine Tame.bind (fun r hr=>?_) tame_getLoop
 refine ⟨⟨hr.1,hr.2.1,hr.2.2⟩,?_⟩
 show Tame C P _ (match r.state with | .ready=>_ | .done=>_ | .busy=>_ | .exhausted=>_)
 split
 ·trivial
 ·exact tame_runtimePanic _
 ·exact tame_runtimePanic _
 ·exact tame_runtimePanic _
theorem tame_endRound {l:Nat} {jump:Option Code} (hj:∀ c,jump=some c→C c):Tame C P (fun _=>True) (Instr.endRound l jump):=by
 unfold Instr.endRound
 refine Tame.bind (fun r hr=>?_) tame_getLoop
 exact ⟨⟨hr.1,hr.2.1,hj⟩,trivial⟩
theorem tame_endLoop {l:Nat}:Tame C P (fun j:Option Code=>∀ c,j=some c→C c) (Instr.endLoop l):=by
 unfold Instr.endLoop
 refine Tame.bind (fun r hr=>?_) tame_getLoop
 split
 ·refine Tame.bind (φ:=fun _=>True) (fun _ _=>?_) (tame_runtimePanic _)
  exact ⟨⟨hr.1,hr.2.1,hr.2.2⟩,hr.2.2⟩
 ·exact ⟨⟨hr.1,hr.2.1,hr.2.2⟩,hr.2.2⟩
theorem tame_deferInRound {l:Nat} {d:Deferred} (hd:OkDef d):Tame C P (fun _=>True) (Instr.deferInRound l d):=by
 unfold Instr.deferInRound
 refine Tame.bind (φ:=fun _=>True) (fun r _=>?_) (Tame.mono (fun _ _=>trivial) tame_getLoop)
 intro o ho
 show Tame C P _ (match o with | .deferred (some ds)=>_ | .deferred none=>_ | _=>_)
 cases o with
 | deferred c =>
  cases c with
  | none=>trivial
  | some ds =>
   refine ⟨fun x hx=>?_,trivial⟩
   rcases List.mem_cons.1 hx with rfl | h
   ·exact hd
   ·exact ho x h
 | _=>trivial
theorem tame_takeDeferred {b:Nat}:Tame C P (fun ds:List Deferred=>∀ d∈ds,OkDef d) (Instr.takeDeferred b):=by
 unfold Instr.takeDeferred
 intro o ho
 show Tame C P _ (match o with | .deferred (some ds)=>_ | _=>_)
 cases o with
 | deferred c =>
  cases c with
  | none=>trivial
  | some ds=>exact ⟨trivial,ho⟩
 | _=>trivial
theorem tame_builtin {b:Builtin} (hb:okBuiltin b=true) (hr:isRecover b=true→r=true) (ats:Array TypeId) (t:TypeId) (cs:Array Bool) (args:Array Value):Tame C P (NextOk C S r) (builtin b ats t cs args):=by
 unfold builtin
 cases b <;> first | (cases hb;done) | exact tame_value inferInstance | exact hr rfl
def FnOk (P:Program) (f:FuncId):Prop :=
 ∀ fn,P.funcs[f]? = some fn→(fn.name == "runtime.NumGoroutine")=false∧(fn.body.isNone=true→(Extern.findNext fn).isNone=true∧∀ e,Extern.find fn=some e→∀ args,Calm (e args))
theorem tame_callFunc {f:FuncId} (h:FnOk P f) (hS:S f) (args:Array Value):Tame C P (NextOk C S r) (callFunc f args):=by
 unfold callFunc
 show Tame C P _ (match P.funcs[f]? with | none=>_ | some fn=>_)
 cases hf:P.funcs[f]? with
 | none=>trivial
 | some fn =>
  obtain ⟨hn,hx⟩:=h fn hf
  simp only [hn,Bool.false_eq_true,if_false]
  split
  ·rename_i hb
   obtain ⟨h1,h2⟩:=hx hb
   refine tame_then inferInstance fun _=>?_
   cases hfn:Extern.findNext fn with
   | some e=>rw [hfn] at h1;cases h1
   | none =>
    show Tame C P _ (match Extern.find fn with | some e=>_ | none=>_)
    cases he:Extern.find fn with
    | some e=>exact tame_value (h2 e he args)
    | none =>
     dsimp only
     split
     ·trivial
     ·trivial
  ·exact hS
end
end Go.Tm
namespace Go.Tm
open Go Go.Extern Go.Extern.Rtype
instance {α:Type} {m:String}:Shyc (panicString m:Sem α):=by
 unfold panicString
 exact ks
instance {s:String}:Shyc (cutType s):=by
 unfold cutType
 exact ks
instance {t:TypeId}:Shyc (typeStr t):=by
 unfold typeStr
 exact ks
instance {v:Value}:Shyc (Rtype.ofHandle v):=by
 unfold Rtype.ofHandle
 exact ks
instance {t:TypeId}:Shyc (Rtype.handle t):=by
 unfold Rtype.handle
 exact ks
instance {w:String} {t:TypeId}:Shyc (Rtype.noPack w t):=by
 unfold Rtype.noPack
 exact ks
instance {w:String} {t:TypeId}:Shyc (Rtype.noPackHeld w t):=by
 unfold Rtype.noPackHeld
 exact ks
instance {w:String} {t:TypeId}:Shyc (Rtype.noPackNamed w t):=by
 unfold Rtype.noPackNamed
 exact ks
instance {w:String} {t:TypeId}:Shyc (Rtype.noPackMethods w t):=by
 unfold Rtype.noPackMethods
 exact ks
instance {t:TypeId}:Shyc (Rtype.spelt t):=by
 unfold Rtype.spelt
 exact ks
instance {t:TypeId}:Shyc (Rtype.under t):=by
 unfold Rtype.under
 exact ks
instance {t:TypeId}:Shyc (Rtype.kind t):=by
 unfold Rtype.kind
 exact ks
instance {t:TypeId}:Shyc (Rtype.hasName t):=by
 unfold Rtype.hasName
 exact ks
instance {t:TypeId}:Shyc (Rtype.elem? t):=by
 unfold Rtype.elem?
 exact ks
instance {t u:TypeId}:Shyc (Rtype.implements t u):=by
 unfold Rtype.implements
 exact ks
instance {t u:TypeId}:Shyc (Rtype.directlyAssignable t u):=by
 unfold Rtype.directlyAssignable
 exact ks
instance {t:TypeId}:Shyc (ReflectliteType.toType t):=by
 unfold ReflectliteType.toType
 exact ks
instance {v:Value}:Shyc (ReflectliteType.ofRtype v):=by
 unfold ReflectliteType.ofRtype
 cases v <;> first | exact shy_stuck | skip
 rename_i c
 obtain ⟨l⟩:=c
 match l with
 | []=>exact shy_stuck
 | [x0] =>
  refine shy_bind inferInstance fun t=>shy_bind inferInstance fun _=>inferInstance
 | _ :: _ :: _=>exact shy_stuck
instance {a:Array Value}:Shyc (ReflectliteType.typeOf a):=by
 unfold ReflectliteType.typeOf
 obtain ⟨l⟩:=a
 match l with
 | []=>exact shy_stuck
 | [x0] =>
  cases x0 <;> first | exact shy_stuck | exact shy_pure | skip
  rename_i t v
  show Shyc (ReflectliteType.toType t)
  infer_instance
 | _ :: _ :: _=>exact shy_stuck
instance {f:TypeId→Sem Value} {a:Array Value} [∀ t,Shyc (f t)]:Shyc (ReflectliteType.method f a):=by
 unfold ReflectliteType.method
 obtain ⟨l⟩:=a
 match l with
 | []=>exact shy_stuck
 | [x0] =>
  exact shy_bind inferInstance fun t=>inferInstance
 | _ :: _ :: _=>exact shy_stuck
instance {t:TypeId}:Shyc (ReflectliteType.elem t):=by
 unfold ReflectliteType.elem
 exact ks
instance {t:TypeId}:Shyc (ReflectliteType.name t):=by
 unfold ReflectliteType.name
 exact ks
instance {t:TypeId}:Shyc (ReflectliteType.pkgPath t):=by
 unfold ReflectliteType.pkgPath
 exact ks
instance {w:String} {f:TypeId→TypeId→Sem Bool} {a:Array Value} [∀ t u,Shyc (f t u)]:Shyc (ReflectliteType.relation w f a):=by
 unfold ReflectliteType.relation
 obtain ⟨l⟩:=a
 match l with
 | []=>exact shy_stuck
 | [_]=>exact shy_stuck
 | [x0,x1] =>
  cases x1 <;> first | exact shy_stuck | skip
  case nilIface=>exact (inferInstance:Shyc (panicString _:Sem Value))
  case iface t v=>exact shy_bind inferInstance fun t=>shy_bind inferInstance fun u=>shy_bind inferInstance fun b=>inferInstance
 | _ :: _ :: _ :: _=>exact shy_stuck
instance {t u:TypeId}:Shyc (ReflectliteType.implements_ t u):=by
 unfold ReflectliteType.implements_
 exact ks
instance {t u:TypeId}:Shyc (ReflectliteType.assignableTo t u):=by
 unfold ReflectliteType.assignableTo
 exact ks
instance {f:TypeId→Sem Value} {a:Array Value} [∀ t,Shyc (f t)]:Shyc (ReflectliteType.abiMethod f a):=by
 unfold ReflectliteType.abiMethod
 obtain ⟨l⟩:=a
 match l with
 | []=>exact shy_stuck
 | [x0] =>
  exact shy_bind inferInstance fun t=>shy_bind inferInstance fun _=>inferInstance
 | _ :: _ :: _=>exact shy_stuck
instance {t:TypeId} {a:Addr} {n:Nat}:Shyc (ReflectliteValue.mk t a n):=by
 unfold ReflectliteValue.mk
 exact ks
instance {v:Value}:Shyc (ReflectliteValue.unpack v):=by
 unfold ReflectliteValue.unpack
 exact ks
instance {α:Type} {m:String} {k:Nat}:Shyc (ReflectliteValue.valueError m k:Sem α):=by
 unfold ReflectliteValue.valueError
 exact ks
instance {v:Value}:Shyc (ReflectliteValue.partsAny v):=by
 unfold ReflectliteValue.partsAny
 cases v <;> first | exact shy_stuck | skip
 rename_i c
 obtain ⟨l⟩:=c
 match l with
 | []=>exact shy_stuck
 | [_]=>exact shy_stuck
 | [_,_]=>exact shy_stuck
 | [x0,x1,x2] =>
  cases x2 <;> first | exact shy_stuck | skip
  rename_i k n
  cases k <;> first | exact shy_stuck | skip
  rcases n with (_ | n) | n
  ·exact shy_pure
  all_goals
   cases x1 <;> first | exact shy_stuck | skip
   rename_i p
   cases p <;> first | exact shy_stuck | exact shy_bind inferInstance fun t=>inferInstance
 | _ :: _ :: _ :: _ :: _=>exact shy_stuck
instance {v:Value}:Shyc (ReflectliteValue.parts v):=by
 unfold ReflectliteValue.parts
 exact ks
instance {z:Sem Value} {f:TypeId→Addr→Nat→Nat→Sem Value} {a:Array Value} [Shyc z] [∀ t a m n,Shyc (f t a m n)]:Shyc (ReflectliteValue.method z f a):=by
 unfold ReflectliteValue.method
 obtain ⟨l⟩:=a
 match l with
 | []=>exact shy_stuck
 | [x0] =>
  refine shy_bind inferInstance fun o=>?_
  split <;> infer_instance
 | _ :: _ :: _=>exact shy_stuck
instance {z:Sem Value} {f:TypeId→Addr→Nat→Nat→Sem Value} {a:Array Value} [Shyc z] [∀ t a m n,Shyc (f t a m n)]:Shyc (ReflectliteValue.methodAny z f a):=by
 unfold ReflectliteValue.methodAny
 obtain ⟨l⟩:=a
 match l with
 | []=>exact shy_stuck
 | [x0] =>
  refine shy_bind inferInstance fun o=>?_
  split <;> infer_instance
 | _ :: _ :: _=>exact shy_stuck
instance {t:TypeId} {a:Addr} {m n:Nat}:Shyc (ReflectliteValue.isNil t a m n):=by
 unfold ReflectliteValue.isNil
 exact ks
instance {t:TypeId} {a:Addr} {m n:Nat}:Shyc (ReflectliteValue.elem t a m n):=by
 unfold ReflectliteValue.elem
 exact ks
instance {a:Array Value}:Shyc (ReflectliteValue.set a):=by
 unfold ReflectliteValue.set
 obtain ⟨l⟩:=a
 match l with
 | []=>exact shy_stuck
 | [_]=>exact shy_stuck
 | [x0,x1] =>
  refine shy_bind inferInstance fun o1=>shy_bind inferInstance fun o2=>?_
  exact ks
 | _ :: _ :: _ :: _=>exact shy_stuck
instance {a:Array Value}:Shyc (ReflectliteValue.errorText a):=by
 unfold ReflectliteValue.errorText
 obtain ⟨l⟩:=a
 match l with
 | []=>exact shy_stuck
 | [x0] =>
  cases x0 <;> first | exact shy_stuck | skip
  rename_i p
  cases p with
  | none=>exact ⟨fun C P=>shy_runtimePanic _⟩
  | some e =>
   show Shyc (load e >>= _)
   refine shy_bind inferInstance fun v=>shy_bind inferInstance fun m=>shy_bind inferInstance fun k=>shy_bind inferInstance fun n=>inferInstance
 | _ :: _ :: _=>exact shy_stuck
instance {s:String}:Shyc (RuntimeError.text s):=by
 unfold RuntimeError.text
 exact ks
instance {a:Array Value}:Shyc (RuntimeError.boundsError a):=by
 unfold RuntimeError.boundsError
 obtain ⟨l⟩:=a
 match l with
 | []=>exact shy_stuck
 | [x0] =>
  cases x0 <;> first | exact shy_stuck | skip
  rename_i c
  obtain ⟨l⟩:=c
  match l with
  | []=>exact shy_stuck
  | [_]=>exact shy_stuck
  | [_,_]=>exact shy_stuck
  | [_,_,_]=>exact shy_stuck
  | _ :: _ :: _ :: _ :: _ :: _=>exact shy_stuck
  | [a,b,c,d] =>
   cases a <;> first | exact shy_stuck | skip
   cases b <;> first | exact shy_stuck | skip
   cases c <;> first | exact shy_stuck | skip
   cases d <;> first | exact shy_stuck | skip
   rename_i k x k' y sg k2 code
   show Shyc (match (if sg && x < 0 then RuntimeError.boundsNegErrorFmts else RuntimeError.boundsErrorFmts)[code.toNat]? with | some fmt=>RuntimeError.text _ | none=>stuck _)
   generalize (if sg && x < 0 then RuntimeError.boundsNegErrorFmts else RuntimeError.boundsErrorFmts)[code.toNat]? = o
   cases o <;> infer_instance
 | _ :: _ :: _=>exact shy_stuck
instance {v:Value}:Shyc (RuntimeError.described v):=by
 unfold RuntimeError.described
 exact ks
instance {v:TypeInfo}:Shyc (RuntimeError.pkgpathOf v):=by
 unfold RuntimeError.pkgpathOf
 exact ks
instance {a:Array Value}:Shyc (RuntimeError.typeAssertionError a):=by
 unfold RuntimeError.typeAssertionError
 exact ks
instance {a:Array Value}:Shyc (RuntimeError.unhashableTypeError a):=by
 unfold RuntimeError.unhashableTypeError
 obtain ⟨l⟩:=a
 match l with
 | []=>exact shy_stuck
 | [x0] =>
  cases x0 <;> first | exact shy_stuck | skip
  rename_i c
  obtain ⟨l⟩:=c
  match l with
  | []=>exact shy_stuck
  | [x] =>
   refine shy_bind inferInstance fun o=>?_
   cases o with
   | none=>exact ⟨fun C P=>shy_runtimePanic _⟩
   | some t=>infer_instance
  | _ :: _ :: _=>exact shy_stuck
 | _ :: _ :: _=>exact shy_stuck
instance {a:Array Value}:Shyc (RuntimeError.nothing a):=by
 unfold RuntimeError.nothing
 exact ks
instance {t:TypeId} {a:Addr} {m n:Nat}:Shyc (ReflectliteValue.len t a m n):=by
 unfold ReflectliteValue.len
 exact ks
theorem shy_rowsT:∀ x∈ReflectliteType.rows,∀ a,Shyc (x.2 a):=by
 intro x hx a
 simp only [ReflectliteType.rows,List.mem_cons,List.not_mem_nil,or_false] at hx
 rcases hx with rfl | rfl | rfl | rfl | rfl | rfl | rfl | rfl | rfl | rfl | rfl | rfl <;> dsimp only <;> infer_instance
theorem shy_rowsV:∀ x∈ReflectliteValue.rows,∀ a,Shyc (x.2 a):=by
 intro x hx a
 simp only [ReflectliteValue.rows,List.mem_cons,List.not_mem_nil,or_false] at hx
 rcases hx with rfl | rfl | rfl | rfl | rfl | rfl | rfl | rfl | rfl | rfl <;> dsimp only <;> infer_instance
theorem shy_rowsE:∀ x∈RuntimeError.rows,∀ a,Shyc (x.2 a):=by
 intro x hx a
 simp only [RuntimeError.rows,List.mem_cons,List.not_mem_nil,or_false] at hx
 rcases hx with rfl | rfl | rfl | rfl | rfl | rfl | rfl | rfl | rfl | rfl | rfl | rfl | rfl | rfl | rfl <;> dsimp only <;> infer_instance
end Go.Tm
namespace Go.Tm
open Go
def cell1:Value→Bool
 | .agg _ | .tuple _=>false
 | _=>true
def _root_.Go.World.re (w:World) (τ:Nat→Question→Nat) (d:Nat):World:={ w with tape:=τ,drawn:=d }
def _root_.Go.Result.world {α:Type}:Result α→World
 | .ok _ w=>w
 | .halt _ w=>w
def _root_.Go.Result.re {α:Type} (r:Result α) (τ:Nat→Question→Nat) (d:Nat):Result α :=
 match r with
 | .ok a w=>.ok a (w.re τ d)
 | .halt h w=>.halt h (w.re τ d)
def Agree (w:World) (j:Nat) (τ:Nat→Question→Nat) (d:Nat):Prop:=∀ i,i < j→∀ q,τ (d+i) q=w.tape (w.drawn+i) q
theorem Agree.mono {w:World} {j j':Nat} {τ:Nat→Question→Nat} {d:Nat} (h:Agree w j τ d) (hj:j'≤j):Agree w j' τ d:=fun i hi q=>h i (by omega) q
section
variable {τ:Nat→Question→Nat} {d:Nat}
@[simp] theorem re_heap (w:World):(w.re τ d).heap=w.heap:=rfl
@[simp] theorem re_os (w:World):(w.re τ d).os=w.os:=rfl
@[simp] theorem re_tape (w:World):(w.re τ d).tape=τ:=rfl
@[simp] theorem re_drawn (w:World):(w.re τ d).drawn=d:=rfl
@[simp] theorem re_cell (w:World) (a:Addr):(w.re τ d).cell? a=w.cell? a:=rfl
@[simp] theorem re_frozen (w:World) (a:Addr):(w.re τ d).frozen? a=w.frozen? a:=rfl
theorem re_freeze (w:World) (a:Addr) (n:Nat):(w.re τ d).freeze a n=(w.freeze a n).re τ d:=by
 unfold World.freeze;split <;> rfl
theorem re_self (w:World):w.re w.tape w.drawn=w:=rfl
theorem re_re (w:World) (τ':Nat→Question→Nat) (d':Nat):(w.re τ d).re τ' d'=w.re τ' d':=rfl
theorem re_farLoad (w:World) (p:Program) (a:Addr) (at_:Bool):(w.re τ d).farLoad p a at_=w.farLoad p a at_:=rfl
theorem viewStore_parts (w:World) (p:Program) (at_:Addr) (u:TypeId) (k:Addr) (v:Value) (atomic:Bool) :
  (∃ e,∀ τ d,(w.re τ d).viewStore p at_ u k v atomic=.error e) ∨
  ∃ c e fr l,∀ τ d,(w.re τ d).viewStore p at_ u k v atomic=.ok ({ w.re τ d with heap:=w.heap.setIfInBounds at_.block (.cells c e fr) },l):=by
 unfold World.viewStore
 have hs:∀ τ d,(w.re τ d).seen p at_ u k atomic=w.seen p at_ u k atomic:=fun _ _=>rfl
 simp only [hs]
 cases tight p p.depth u <;> cases w.seen p at_ u k atomic with
 | error e=>first | exact .inl ⟨_,fun _ _=>rfl⟩
 | ok x =>
  first
  | exact .inl ⟨_,fun _ _=>rfl⟩
  | (obtain ⟨c,e,fr,first,like,cells⟩:=x
     simp only [Bool.not_true,Bool.false_eq_true,if_false]
     cases v.bytes? with
     | none=>exact .inl ⟨_,fun _ _=>rfl⟩
     | some bytes =>
      by_cases hb:some bytes.length≠like.bytes?.map (·.length)
      ·refine .inl ⟨ "memory seen as another type: a value of another size", fun τ d=>?_⟩
       simp only [bind,Except.bind,hb,if_true,ne_eq,not_false_eq_true]
       rfl
      ·simp only [bind,Except.bind,pure,Except.pure,hb,if_false]
       generalize hf:(List.foldlM _ c cells:Except String (Array Value))=r
       cases r with
       | error e=>exact .inl ⟨e,fun _ _=>rfl⟩
       | ok c'=>exact .inr ⟨c',e,fr,_,fun _ _=>rfl⟩)
end
theorem perform_env (os:Os):∃ os',Kernel.perform .env os=.done (.strings os.env,os'):=by
 refine ⟨{ os with wall:=os.wall+0,mono:=os.mono+0,coarse:=os.coarse },?_⟩
 unfold Kernel.perform
 simp [Kernel.lengthOf,Kernel.named,Kernel.ofKernel,Kernel.stamps,Kernel.each,Kernel.env]
 rfl
theorem sys_env (w:World):∃ r os,∀ τ d,(w.re τ d).sys .env=(r,{ w.re τ d with os:=os }):=by
 obtain ⟨os',h⟩:=perform_env w.os
 refine ⟨.strings w.os.env,os',fun τ d=>?_⟩
 unfold World.sys
 rw [re_os,h]
 rfl
def ND (e:Event):Prop:=e.loc≠.mark .disable∧e.loc≠.mark .enable
def HeapOk (C:Code→Prop) (w:World):Prop:=∀ (i:Nat) (o:Obj),w.heap[i]? = some o→OkObj C o
section
variable {C:Code→Prop} {P:Program}
theorem heapOk_push {w:World} (h:HeapOk C w) {o:Obj} (ho:OkObj C o):HeapOk C { w with heap:=w.heap.push o }:=by
 intro i x hx
 rw [Array.getElem?_push] at hx
 split at hx
 ·cases hx;exact ho
 ·exact h i x hx
theorem heapOk_set {w:World} (h:HeapOk C w) {r:Nat} {o:Obj} (ho:OkObj C o):HeapOk C { w with heap:=w.heap.setIfInBounds r o }:=by
 intro i x hx
 simp only [Array.getElem?_setIfInBounds] at hx
 split at hx
 ·split at hx
  ·cases hx;exact ho
  ·cases hx
 ·exact h i x hx
theorem heapOk_modify {w:World} (h:HeapOk C w) {r:Nat} {f:Obj→Obj} (hf:∀ o,OkObj C o→OkObj C (f o)):HeapOk C { w with heap:=w.heap.modify r f }:=by
 intro i x hx
 simp only [Array.getElem?_modify] at hx
 split at hx
 ·obtain ⟨y,hy,rfl⟩:=Option.map_eq_some_iff.1 hx
  exact hf _ (h i y hy)
 ·exact h i x hx
theorem heapOk_setCell {w:World} (h:HeapOk C w) (a:Addr) (v:Value):HeapOk C (w.setCell a v):=by
 refine heapOk_modify h fun o ho=>?_
 cases o <;> first | exact ho | trivial
theorem heapOk_freeze {w:World} (h:HeapOk C w) (a:Addr) (n:Nat):HeapOk C (w.freeze a n):=by
 unfold World.freeze
 split
 ·exact h
 ·refine heapOk_modify h fun o ho=>?_
  cases o <;> first | exact ho | trivial
theorem nd_push {es es0:Array Event} {e:Event} (h:∀ x∈es,x∈es0∨ND x) (he:ND e):∀ x∈es.push e,x∈es0∨ND x:=by
 intro x hx
 rcases Array.mem_push.1 hx with h1 | rfl
 ·exact h x h1
 ·exact .inr he
theorem nd_cells {es es0:Array Event} (h:∀ x∈es,x∈es0∨ND x) (l:List Addr) (wr s:Bool):∀ x∈es ++ l.toArray.map (fun a=>(⟨.cell a,wr,s⟩:Event)),x∈es0∨ND x:=by
 intro x hx
 rcases Array.mem_append.1 hx with h1 | h1
 ·exact h x h1
 ·obtain ⟨a,_,rfl⟩:=Array.mem_map.1 h1
  exact .inr ⟨by simp,by simp⟩
theorem okHalt_noCell {w:World} (h:HeapOk C w) (a:Addr) (s:String):OkHalt (w.noCell a s):=by
 unfold World.noCell
 split
 ·rename_i hx;exact (h _ _ hx).elim
 ·trivial
 ·trivial
structure Facts (C:Code→Prop) {α:Type} (φ:α→Prop) (es0:Array Event) (n:Nat) (r:Result α × Array Event):Prop where
 nd:∀ x∈r.2,x∈es0∨ND x
 heap:HeapOk C r.1.world
 size:n≤r.1.world.heap.size
 leaf:match r.1 with | .ok a _=>φ a | .halt h _=>OkHalt h
theorem runT_facts {α:Type} {φ:α→Prop} (s:Sem α) (hs:Tame C P φ s):∀ (w:World) (es es0:Array Event) (n:Nat),HeapOk C w→(∀ x∈es,x∈es0∨ND x)→n≤w.heap.size→Facts C φ es0 n (s.runT P w es):=by
 induction s with
 | pure a=>exact fun w es es0 n hw he hn=>⟨he,hw,hn,hs⟩
 | load m a k ih =>
  intro w es es0 n hw he hn
  simp only [Sem.runT]
  split
  ·exact ih _ (hs _) _ _ _ _ hw (nd_push he ⟨by simp,by simp⟩) hn
  ·split
   ·exact ih _ (hs _) _ _ _ _ hw (nd_cells he _ _ _) hn
   ·rename_i h hx
    refine ⟨he,hw,hn,?_⟩
    show OkHalt h
    unfold World.farLoad at hx
    split at hx
    ·split at hx <;> cases hx;trivial
    ·cases hx
     exact okHalt_noCell hw _ _
 | store m a v k ih =>
  intro w es es0 n hw he hn
  cases v <;> simp only [Sem.runT] <;> first
   | exact ⟨he,hw,hn,trivial⟩
   | (split
      ·split
       ·exact ⟨he,hw,hn,trivial⟩
       ·exact ih hs _ _ _ _ (heapOk_setCell hw _ _) (nd_push he ⟨by simp,by simp⟩) (by simpa [World.setCell] using hn)
      ·split
       ·rename_i w' l hx
        have hh:HeapOk C w'∧w'.heap.size=w.heap.size:=by
         unfold World.farStore at hx
         split at hx
         ·rename_i at_ u _
          rcases viewStore_parts w P at_ u a _ (m == .atomic) with ⟨e,h⟩ | ⟨c,e,fr,l',h⟩
          ·have:=h w.tape w.drawn
           rw [re_self] at this
           rw [this] at hx
           cases hx
          ·have:=h w.tape w.drawn
           rw [re_self] at this
           rw [this] at hx
           cases hx
           exact ⟨heapOk_set hw trivial,by simp⟩
         ·cases hx
        exact ih hs _ _ _ _ hh.1 (nd_cells he _ _ _) (by rw [hh.2];exact hn)
       ·rename_i h hx
        refine ⟨he,hw,hn,?_⟩
        show OkHalt h
        unfold World.farStore at hx
        split at hx
        ·split at hx <;> cases hx;trivial
        ·cases hx
         exact okHalt_noCell hw _ _)
 | new o k ih=>exact fun w es es0 n hw he hn=>ih _ (hs.2 _) _ _ _ _ (heapOk_push hw hs.1) he (by simp;omega)
 | shape r k ih=>exact fun w es es0 n hw he hn=>ih _ (hs _) _ _ _ _ hw he hn
 | freeze a m k ih=>exact fun w es es0 n hw he hn=>ih hs _ _ _ _ (heapOk_freeze hw _ _) he (by unfold World.freeze;split <;> simpa using hn)
 | frozen a k ih=>exact fun w es es0 n hw he hn=>ih _ (hs _) _ _ _ _ hw he hn
 | getObj r k ih =>
  intro w es es0 n hw he hn
  simp only [Sem.runT]
  split
  ·exact ⟨he,hw,hn,trivial⟩
  ·rename_i o _ ho
   exact ih _ (hs _ (hw _ _ ho)) _ _ _ _ hw (nd_push he ⟨by simp,by simp⟩) hn
  ·exact ⟨he,hw,hn,trivial⟩
 | setObj r o k ih =>
  intro w es es0 n hw he hn
  simp only [Sem.runT]
  split
  ·exact ⟨he,hw,hn,trivial⟩
  ·exact ih hs.2 _ _ _ _ (heapOk_set hw hs.1) (nd_push he ⟨by simp,by simp⟩) (by simpa using hn)
  ·exact ⟨he,hw,hn,trivial⟩
 | choose q k ih =>
  intro w es es0 n hw he hn
  simp only [Sem.runT]
  split
  ·exact ih _ (hs _) _ _ _ _ hw he hn
  ·exact ih _ (hs _) { w with drawn:=w.drawn+1 } es es0 n hw he hn
 | sys c k ih =>
  intro w es es0 n hw he hn
  obtain ⟨rfl,hs⟩:=hs
  obtain ⟨r,os,h⟩:=sys_env w
  have h:=h w.tape w.drawn
  rw [re_self] at h
  simp only [Sem.runT,h]
  exact ih _ (hs _) _ _ _ _ (fun i o ho=>hw i o ho) (nd_push he ⟨by simp,by simp⟩) hn
 | program k ih=>exact fun w es es0 n hw he hn=>ih _ hs _ _ _ _ hw he hn
 | mark m k ih=>exact fun w es es0 n hw he hn=>ih hs.2.2 _ _ _ _ hw (nd_push he ⟨by simpa using hs.1,by simpa using hs.2.1⟩) hn
 | halt h=>exact fun w es es0 n hw he hn=>⟨he,hw,hn,hs⟩
theorem runT_local {α:Type} {φ:α→Prop} (s:Sem α) (hs:Tame C P φ s):∀ (w:World) (es:Array Event),HeapOk C w→∃ j,(s.runT P w es).1.world.drawn=w.drawn+j∧(s.runT P w es).1.world.tape=w.tape ∧
  ∀ τ d,Agree w j τ d→s.runT P (w.re τ d) es=((s.runT P w es).1.re τ (d+j),(s.runT P w es).2):=by
 induction s with
 | pure a=>exact fun w es _=>⟨0,rfl,rfl,fun τ d _=>rfl⟩
 | load m a k ih =>
  intro w es hw
  simp only [Sem.runT,re_cell,re_farLoad]
  cases w.cell? a with
  | some v=>exact ih _ (hs _) w _ hw
  | none =>
   cases w.farLoad P a (m == .atomic) with
   | ok x=>exact ih _ (hs _) w _ hw
   | error e=>exact ⟨0,rfl,rfl,fun τ d _=>rfl⟩
 | store m a v k ih =>
  intro w es hw
  by_cases hv:cell1 v=true
  ·have hrun:∀ w' es',Sem.runT P (.store m a v k) w' es'=(match w'.cell? a with
    | some _=>if w'.frozen? a then (.halt (.unsupported (.unsafePointer "a write to bytes that a string shares")) w',es') else k.runT P (w'.setCell a v) (es'.push ⟨.cell a,true,m == .atomic⟩)
    | none=>match w'.farStore P a v (m == .atomic) with
     | .ok (w',touched)=>k.runT P w' (es' ++ touched.toArray.map (⟨.cell ·,true,m == .atomic⟩))
     | .error h=>(.halt h w',es')):=by
    intro w' es'
    cases v <;> first | rfl | cases hv
   simp only [hrun,re_cell,re_frozen]
   cases hc:w.cell? a with
   | some x =>
    dsimp only
    by_cases hf:w.frozen? a=true
    ·simp only [hf,if_true]
     exact ⟨0,rfl,rfl,fun τ d _=>rfl⟩
    ·simp only [hf,Bool.false_eq_true,if_false]
     exact ih hs (w.setCell a v) _ (heapOk_setCell hw _ _)
   | none =>
    dsimp only
    unfold World.farStore
    simp only [re_heap]
    have hno:∀ τ d,(w.re τ d).noCell a "store: no such cell" = w.noCell a "store: no such cell" := fun _ _=>rfl
    cases ho:w.heap[a.block]? with
    | none=>simp only [hno];exact ⟨0,rfl,rfl,fun τ d _=>rfl⟩
    | some o =>
     cases o with
     | view at_ u =>
      rcases viewStore_parts w P at_ u a v (m == .atomic) with ⟨e,h⟩ | ⟨c,e,fr,l',h⟩
      ·have h0:=h w.tape w.drawn
       rw [re_self] at h0
       simp only [h,h0]
       exact ⟨0,rfl,rfl,fun τ d _=>rfl⟩
      ·have h0:=h w.tape w.drawn
       rw [re_self] at h0
       simp only [h,h0]
       exact ih hs ({ w with heap:=w.heap.setIfInBounds at_.block (.cells c e fr) }) _ (heapOk_set hw trivial)
     | _=>simp only [hno];exact ⟨0,rfl,rfl,fun τ d _=>rfl⟩
  ·have hrun:∀ w' es',Sem.runT P (.store m a v k) w' es'=(.halt (.stuck "store: not the value of one cell") w',es'):=by
    intro w' es'
    cases v <;> first | rfl | exact absurd rfl hv
   simp only [hrun]
   exact ⟨0,rfl,rfl,fun τ d _=>rfl⟩
 | new o k ih=>exact fun w es hw=>ih _ (hs.2 _) { w with heap:=w.heap.push o } es (heapOk_push hw hs.1)
 | shape r k ih=>exact fun w es hw=>ih _ (hs _) w es hw
 | freeze a m k ih =>
  intro w es hw
  obtain ⟨j,h1,h2,h3⟩:=ih hs (w.freeze a m) es (heapOk_freeze hw _ _)
  have e:(w.freeze a m).drawn=w.drawn∧(w.freeze a m).tape=w.tape:=by unfold World.freeze;split <;> exact ⟨rfl,rfl⟩
  refine ⟨j,by simp only [Sem.runT];rw [h1,e.1],by simp only [Sem.runT];rw [h2,e.2],fun τ d ha=>?_⟩
  simp only [Sem.runT,re_freeze]
  exact h3 τ d (fun i hi q=>by rw [e.1,e.2];exact ha i hi q)
 | frozen a k ih=>exact fun w es hw=>ih _ (hs _) w es hw
 | getObj r k ih =>
  intro w es hw
  simp only [Sem.runT,re_heap]
  cases ho:w.heap[r]? with
  | none=>exact ⟨0,rfl,rfl,fun τ d _=>rfl⟩
  | some o =>
   cases o with
   | cells c e f=>exact ⟨0,rfl,rfl,fun τ d _=>rfl⟩
   | _=>exact ih _ (hs _ (hw _ _ ho)) w _ hw
 | setObj r o k ih =>
  intro w es hw
  simp only [Sem.runT,re_heap]
  cases ho:w.heap[r]? with
  | none=>exact ⟨0,rfl,rfl,fun τ d _=>rfl⟩
  | some o' =>
   cases o' with
   | cells c e f=>exact ⟨0,rfl,rfl,fun τ d _=>rfl⟩
   | _=>exact ih hs.2 { w with heap:=w.heap.setIfInBounds r o } _ (heapOk_set hw hs.1)
 | choose q k ih =>
  intro w es hw
  simp only [Sem.runT]
  by_cases hq:q.forced=true
  ·simp only [hq,if_true]
   exact ih _ (hs _) w es hw
  ·simp only [hq,Bool.false_eq_true,if_false]
   obtain ⟨j,h1,h2,h3⟩:=ih _ (hs (q.cut (w.tape w.drawn q))) { w with drawn:=w.drawn+1 } es hw
   refine ⟨j+1,by rw [h1];show w.drawn+1+j=_;omega,h2,fun τ d ha=>?_⟩
   have h0:=ha 0 (by omega) q
   simp only [Nat.add_zero] at h0
   simp only [re_tape,re_drawn,h0]
   have h4:=h3 τ (d+1) (fun i hi q'=>by
    have:=ha (i+1) (by omega) q'
    rw [show d+1+i=d+(i+1) from by omega,this]
    show w.tape _ q'=w.tape _ q'
    congr 1;show w.drawn+(i+1)=w.drawn+1+i;omega)
   rw [show d+(j+1)=d+1+j from by omega]
   exact h4
 | sys c k ih =>
  intro w es hw
  obtain ⟨rfl,hs⟩:=hs
  obtain ⟨r,os,h⟩:=sys_env w
  have h0:=h w.tape w.drawn
  rw [re_self] at h0
  simp only [Sem.runT,h0,h]
  exact ih _ (hs _) { w with os:=os } _ (fun i o ho=>hw i o ho)
 | program k ih=>exact fun w es hw=>ih _ hs w es hw
 | mark m k ih=>exact fun w es hw=>ih hs.2.2 w _ hw
 | halt h=>exact fun w es _=>⟨0,rfl,rfl,fun τ d _=>rfl⟩
end
end Go.Tm
namespace Go.Tm
open Go
def okCall (r:Bool) (c:Call):Bool :=
 match c.callee with
 | .builtin b=>okBuiltin b && (r || !isRecover b)
 | _=>true
def noRoomB:Operand→Bool
 | .const (.int _ n)=>n == 0
 | _=>false
def okT (t:TypeId):Bool:=decide (t < 230) && t != 173
def okOp (r:Bool):Op→Bool
 | .ready _ | .waits _ | .entry _ | .mapEntry .. | .entryStore .. | .select .. => false
 | .makeChan _ x=>noRoomB x
 | .convert s d _=>okT s && okT d
 | .go c=>r && okCall false c
 | .call c=>okCall r c
 | .defer c=>okCall false c
 | .send .. | .recv .. => r
 | _=>true
def okCode (r:Bool):Code→Bool
 | .region _ ops _=>ops.all fun o=>okOp r o.op
 | .seq a b | .cond _ a b=>okCode r a && okCode r b
 | .block _ c | .loop c=>okCode r c
 | .rangeFunc _ _ a b=>okCode false a && okCode false b
 | .scope c=>okCode r c
 | .goto _=>false
 | _=>true
abbrev OC:Code→Prop:=fun c=>okCode false c=true
theorem okCall_mono {r:Bool} {c:Call} (h:okCall false c=true):okCall r c=true:=by
 unfold okCall at h ⊢
 split <;> simp_all
theorem okOp_mono {r:Bool} {o:Op} (h:okOp false o=true):okOp r o=true:=by
 cases o <;> first | exact h | exact okCall_mono h | cases h
theorem okCode_mono {r:Bool}:∀ {c:Code},okCode false c=true→okCode r c=true
 | .region _ ops _,h=>by
  simp only [okCode,Array.all_eq_true] at h ⊢
  exact fun i hi=>okOp_mono (h i hi)
 | .seq a b,h=>by
  simp only [okCode,Bool.and_eq_true] at h ⊢
  exact ⟨okCode_mono h.1,okCode_mono h.2⟩
 | .cond _ a b,h=>by
  simp only [okCode,Bool.and_eq_true] at h ⊢
  exact ⟨okCode_mono h.1,okCode_mono h.2⟩
 | .block _ c,h=>by
  simp only [okCode] at h ⊢
  exact okCode_mono h
 | .loop c,h=>by
  simp only [okCode] at h ⊢
  exact okCode_mono h
 | .rangeFunc _ _ a b,h=>h
 | .scope c,h=>by
  simp only [okCode] at h ⊢
  exact okCode_mono h
 | .goto _,h=>h
 | .skip,_ | .label _,_ | .ret,_ | .exit _,_ | .refuse _,_=>rfl
def ItemOk (r:Bool):Item→Prop
 | .code c | .inLoop c=>okCode r c=true
 | .inRegion ops _=>(ops.all fun o=>okOp r o.op)=true
 | .call .. | .extern .. => False
 | _=>True
structure FrOk (fr:Frame):Prop where
 todo:∀ x∈fr.todo,ItemOk fr.roundOf.isNone x
 defers:∀ d∈fr.defers,OkDef d
 kind:fr.kind=.normal∨fr.kind=.deferred
def Stk (f0:FuncId):Frame→List Frame→Prop
 | fr,[]=>FrOk fr∧fr.roundOf=none∧fr.kind=.normal∧fr.fn=f0
 | fr,c :: cs=>FrOk fr∧Stk f0 c cs
def Sok (P:Program) (S:FuncId→Prop):Prop :=
 ∀ f,S f→FnOk P f∧∀ fn c,P.funcs[f]? = some fn→fn.body=some c→okCode true c=true
section
variable {P:Program} {S:FuncId→Prop} {f0:FuncId}
theorem Stk.ok {fr:Frame} {mine:List Frame} (h:Stk f0 fr mine):FrOk fr:=by cases mine <;> exact h.1
theorem Stk.set {fr fr':Frame} {mine:List Frame} (h:Stk f0 fr mine) (h':FrOk fr') (hr:fr'.roundOf=fr.roundOf) (hk:fr'.kind=fr.kind) (hf:fr'.fn=fr.fn):Stk f0 fr' mine:=by
 cases mine with
 | nil=>exact ⟨h',hr ▸ h.2.1,hk ▸ h.2.2.1,hf ▸ h.2.2.2⟩
 | cons c cs=>exact ⟨h',h.2⟩
theorem Stk.push {fr fr':Frame} {mine:List Frame} (h:Stk f0 fr mine) (h':FrOk fr'):Stk f0 fr' (fr :: mine):=⟨h',h⟩
theorem frOk_finish {fr:Frame} (h:FrOk fr) (v:Value):FrOk (fr.finish v)∧(fr.finish v).roundOf=fr.roundOf∧(fr.finish v).kind=fr.kind∧(fr.finish v).fn=fr.fn:=by
 unfold Frame.finish
 split
 ·rename_i ops i rest k hk
  refine ⟨⟨?_,h.defers,h.kind⟩,rfl,rfl,rfl⟩
  have ht:=h.todo
  rw [hk] at ht
  intro x hx
  rcases List.mem_cons.1 hx with rfl | hx
  ·exact ht (.inRegion ops (i :: rest)) (by simp)
  ·exact ht x (by simp [hx])
 ·rename_i l k hk
  refine ⟨⟨?_,h.defers,h.kind⟩,rfl,rfl,rfl⟩
  have ht:=h.todo
  rw [hk] at ht
  intro x hx
  rcases List.mem_cons.1 hx with rfl | hx
  ·trivial
  ·exact ht x (by simp [hx])
 ·rename_i k hk
  refine ⟨⟨?_,h.defers,h.kind⟩,rfl,rfl,rfl⟩
  have ht:=h.todo
  rw [hk] at ht
  exact fun x hx=>ht x (by simp [hx])
 ·rename_i d wr resume saved k hk
  have ht:=h.todo
  rw [hk] at ht
  exact (ht (.call d wr resume saved) (by simp)).elim
 ·rename_i row args k hk
  have ht:=h.todo
  rw [hk] at ht
  exact (ht (.extern row args) (by simp)).elim
 ·exact ⟨h,rfl,rfl,rfl⟩
theorem frOk_raise {fr:Frame} (h:FrOk fr) (l:List PanicEntry):FrOk (fr.raise l)∧(fr.raise l).roundOf=fr.roundOf∧(fr.raise l).kind=fr.kind∧(fr.raise l).fn=fr.fn:=by
 unfold Frame.raise
 split <;> exact ⟨⟨h.todo,h.defers,h.kind⟩,rfl,rfl,rfl⟩
theorem frOk_enter (hS:Sok P S) {f:FuncId} (hf:S f) (args:Array Value) {k:CallKind} (hk:k=.normal∨k=.deferred):FrOk (Frame.enter P f args k):=by
 refine ⟨?_,by simp [Frame.enter],hk⟩
 intro x hx
 simp only [Frame.enter,List.mem_singleton] at hx
 subst hx
 show okCode true _=true
 cases hfn:P.funcs[f]? with
 | none=>rfl
 | some fn =>
  show okCode true (fn.body.getD _)=true
  cases hb:fn.body with
  | none=>rfl
  | some c=>exact (hS f hf).2 fn c hfn hb
theorem frOk_round {l:Nat} {f:FuncId} {tmps:Array Value} {assign body:Code} (ha:OC assign) (hb:OC body) {k:CallKind} (hk:k=.normal∨k=.deferred):FrOk (Frame.round l f tmps assign body k):=by
 refine ⟨?_,by simp [Frame.round],hk⟩
 intro x hx
 simp only [Frame.round,List.mem_cons,List.not_mem_nil,or_false] at hx
 rcases hx with rfl | rfl | rfl
 ·exact ha
 ·trivial
 ·exact hb
def Loc (P:Program) {α:Type} (s:Sem α) (w:World) (es:Array Event):Prop :=
 ∃ j,(s.runT P w es).1.world.drawn=w.drawn+j∧(s.runT P w es).1.world.tape=w.tape∧∀ τ d,Agree w j τ d→s.runT P (w.re τ d) es=((s.runT P w es).1.re τ (d+j),(s.runT P w es).2)
structure Fine (P:Program) {α:Type} (φ:α→Prop) (s:Sem α) (w:World) (es:Array Event):Prop where
 facts:Facts OC φ es w.heap.size (s.runT P w es)
 loc:Loc P s w es
theorem fine_tame {α:Type} {φ:α→Prop} {s:Sem α} (h:Tame OC P φ s) {w:World} (hw:HeapOk OC w) (es:Array Event):Fine P φ s w es :=
 ⟨runT_facts s h w es es _ hw (fun _ hx=>.inl hx) (Nat.le_refl _),runT_local s h w es hw⟩
theorem runT_bind_ok {α β:Type} {s:Sem α} {f:α→Sem β} {w:World} {es:Array Event} {a:α} {w':World} {es':Array Event} (h:s.runT P w es=(.ok a w',es')):(s >>= f).runT P w es=(f a).runT P w' es':=by
 show Sem.runT P (Sem.bind s f) w es=_;rw [Sem.runT_bind',h]
theorem runT_bind_halt {α β:Type} {s:Sem α} {f:α→Sem β} {w:World} {es:Array Event} {a:Halt} {w':World} {es':Array Event} (h:s.runT P w es=(.halt a w',es')):(s >>= f).runT P w es=(.halt a w',es'):=by
 show Sem.runT P (Sem.bind s f) w es=_;rw [Sem.runT_bind',h]
theorem fine_bind {α β:Type} {φ:α→Prop} {ψ:β→Prop} {s:Sem α} {f:α→Sem β} {w:World} {es:Array Event} (h:Fine P φ s w es)
  (hf:∀ a w' es',HeapOk OC w'→φ a→s.runT P w es=(.ok a w',es')→Fine P ψ (f a) w' es'):Fine P ψ (s >>= f) w es:=by
 obtain ⟨hfa,j,hd,ht,hl⟩:=h
 cases hr:s.runT P w es with
 | mk r es' =>
  cases r with
  | halt a w' =>
   rw [hr] at hfa hd ht hl
   refine ⟨?_,j,?_,?_,fun τ d ha=>?_⟩
   ·rw [runT_bind_halt hr];exact ⟨hfa.nd,hfa.heap,hfa.size,hfa.leaf⟩
   ·rw [runT_bind_halt hr];exact hd
   ·rw [runT_bind_halt hr];exact ht
   ·rw [runT_bind_halt hr,runT_bind_halt (hl τ d ha)];rfl
  | ok a w' =>
   rw [hr] at hfa hd ht hl
   obtain ⟨hfb,j',hd',ht',hl'⟩:=hf a w' es' hfa.heap hfa.leaf hr
   refine ⟨?_,j+j',?_,?_,fun τ d ha=>?_⟩
   ·rw [runT_bind_ok hr]
    refine ⟨fun x hx=>?_,hfb.heap,Nat.le_trans hfa.size hfb.size,hfb.leaf⟩
    rcases hfb.nd x hx with h1 | h1
    ·exact hfa.nd x h1
    ·exact .inr h1
   ·rw [runT_bind_ok hr,hd'];have:w'.drawn=w.drawn+j:=hd;omega
   ·rw [runT_bind_ok hr,ht'];exact ht
   ·rw [runT_bind_ok hr,runT_bind_ok (hl τ d (ha.mono (by omega)))]
    have h2:=hl' τ (d+j) (fun i hi q=>by
     have hd1:w'.drawn=w.drawn+j:=hd
     have ht1:w'.tape=w.tape:=ht
     rw [hd1,ht1,show d+j+i=d+(j+i) from by omega,ha (j+i) (by omega) q,show w.drawn+(j+i)=w.drawn+j+i from by omega])
    rw [show d+(j+j')=d+j+j' from by omega]
    exact h2
theorem runT_run {α:Type} {s:Sem α} {w:World} {es:Array Event} {r:Result α} {es':Array Event} (h:s.runT P w es=(r,es')):s.run P w=r:=by
 have:=Sem.runT_eq P s w es
 rw [h] at this
 exact (congrArg Prod.fst this).symm
def TgtOk (r:Bool):Target→Prop
 | .builtin b .. => okBuiltin b=true∧(isRecover b=true→r=true)
 | .coroexit _=>False
 | _=>True
theorem fine_callMethod (hS:Sok P S) {r:Bool} {recv:Value} {name:String} {args:Array Value} {w:World} {es:Array Event} (hw:HeapOk OC w)
  (hl:∀ u v f x w',recv=.iface u v→(method (P.types.size+Made.depth) u v name).run P w=.ok (f,x) w'→S f):Fine P (NextOk OC S r) (callMethod recv name args) w es:=by
 cases recv with
 | iface u v =>
  show Fine P _ (program >>= fun p=>method (p.types.size+Made.depth) u v name >>= fun x=>callFunc x.1 (#[x.2] ++ args)) w es
  refine fine_bind (fine_tame (φ:=fun p=>p=P) (by exact rfl) hw es) fun p w1 es1 hw1 hp h1=>?_
  subst hp
  have e1:w1=w:=by
   have:=runT_run h1
   simp [program,Sem.run] at this
   exact this.symm
  subst e1
  refine fine_bind (fine_tame (φ:=fun _=>True) (Calm.t OC _) hw1 es1) fun x w2 es2 hw2 _ h2=>?_
  exact fine_tame (tame_callFunc (hS _ (hl u v x.1 x.2 w2 rfl (runT_run h2))).1 (hl u v x.1 x.2 w2 rfl (runT_run h2)) _) hw2 es2
 | nilIface=>exact fine_tame (by unfold callMethod;exact tame_runtimePanic _) hw es
 | _=>exact fine_tame (by unfold callMethod;exact tame_stuck) hw es
theorem fine_invoke (hS:Sok P S) {r:Bool} {t:Target} {args:Array Value} {w:World} {es:Array Event} (ht:TgtOk r t) (hw:HeapOk OC w) (hl:∀ f,t.leads P w args=some f→S f) :
  Fine P (NextOk OC S r) (invoke t args) w es:=by
 unfold invoke
 cases t with
 | nil=>exact fine_tame (tame_runtimePanic _) hw es
 | builtin b ats ty cs=>exact fine_tame (tame_builtin ht.1 ht.2 _ _ _ _) hw es
 | coroexit c=>exact ht.elim
 | collected b=>exact fine_tame tame_stuck hw es
 | fn g captured =>
  cases g with
  | func f=>exact fine_tame (tame_callFunc (hS f (hl f rfl)).1 (hl f rfl) _) hw es
  | yield l=>exact fine_tame tame_yield hw es
  | via u path f pointer =>
   dsimp only
   cases h0:args[0]? with
   | none=>exact fine_tame tame_stuck hw es
   | some x =>
    refine fine_bind (fine_tame (φ:=fun _=>True) (Calm.t OC _) hw es) fun y w1 es1 hw1 _ _=>?_
    exact fine_tame (tame_callFunc (hS f (hl f rfl)).1 (hl f rfl) _) hw1 es1
  | method name =>
   dsimp only
   cases h0:args[0]? with
   | none=>exact fine_tame tame_stuck hw es
   | some recv =>
    refine fine_callMethod hS hw fun u v f x w' hr hm=>hl f ?_
    subst hr
    simp [Target.leads,h0,hm]
  | methodOf u name =>
   dsimp only
   cases h0:args[0]? with
   | none=>exact fine_tame tame_stuck hw es
   | some receiver =>
    refine fine_bind (fine_tame (φ:=fun _=>True) (Calm.t OC _) hw es) fun y w1 es1 hw1 _ h1=>?_
    have hrun:=runT_run h1
    simp only [underlying,Sem.run_bind,run_program,Result.andThen_ok] at hrun
    cases hu:P.underlying u with
    | none=>rw [hu] at hrun;cases hrun
    | some desc =>
     rw [hu] at hrun
     cases hrun
     have hl':∀ u' v f x w',(match y with | TypeDesc.interface _=>receiver | _=>Value.iface u receiver)=Value.iface u' v→(method (P.types.size+Made.depth) u' v name).run P w=.ok (f,x) w'→S f:=by
      intro u' v f x w' hr hm
      refine hl f ?_
      simp only [Target.leads,h0,hu,Option.map_some]
      cases y <;> simp_all
     cases y <;> exact fine_callMethod hS hw1 hl'
theorem tame_resolve {r:Bool} {ρ:Operand→Value} {c:Call} {t:TypeId} (hc:okCall r c=true):Tame OC P (fun d=>TgtOk r d.target) (resolve ρ c t):=by
 unfold resolve
 unfold okCall at hc
 cases hcc:c.callee with
 | builtin b =>
  rw [hcc] at hc
  simp only [Bool.and_eq_true,Bool.or_eq_true,Bool.not_eq_true'] at hc
  exact ⟨hc.1,fun h=>hc.2.resolve_right (by simp [h])⟩
 | value f =>
  show Tame OC P _ (Deferred.ofValue _ _)
  unfold Deferred.ofValue
  split <;> trivial
 | invoke x n=>trivial
theorem okDef_tgt {d:Deferred} (h:OkDef d):TgtOk false d.target:=by
 unfold OkDef at h
 unfold TgtOk
 split <;> simp_all
theorem tgt_okDef {d:Deferred} (h:TgtOk false d.target):OkDef d:=by
 unfold OkDef
 unfold TgtOk at h
 split <;> simp_all
theorem fine_execOp (hS:Sok P S) {r:Bool} {ρ:Operand→Value} (hρ:∀ v,ρ (.const v)=v) {o:Oper} {w:World} {es:Array Event} (ho:okOp r o.op=true) (hw:HeapOk OC w)
  (hl:∀ f,o.about P w ρ=some f→S f):Fine P (NextOk OC S r) (execOp ρ o) w es:=by
 unfold Oper.about at hl
 unfold execOp
 cases hop:o.op <;> rw [hop] at ho hl <;> dsimp only [okOp] at ho <;> first
  | (cases ho;done)
  | exact fine_tame (tame_value inferInstance) hw es
  | exact fine_tame (tame_skip inferInstance) hw es
  | (refine fine_tame (φ:=NextOk OC S r) (tame_pure ?_) hw es;exact trivial)
  | skip
 case pick c a b =>
  refine fine_tame (tame_then (s:=asBool (ρ c)) inferInstance fun _=>tame_pure ?_) hw es
  trivial
 case send ch x=>exact fine_tame (tame_pure ⟨ho,rfl,_,rfl⟩) hw es
 case recv ty ch ok =>
  refine fine_tame (tame_then inferInstance fun d=>?_) hw es
  cases d <;> first | exact tame_stuck | skip
  exact tame_then inferInstance fun z=>tame_pure ⟨ho,rfl,_,rfl⟩
 case makeChan ty x =>
  refine fine_tame (tame_value ?_) hw es
  unfold noRoomB at ho
  split at ho
  ·rename_i k n
   have hn:n=0:=by simpa using ho
   subst hn
   rw [hρ]
   unfold Instr.makeChan
   show Calm (underlying ty >>= _)
   refine calm_bind inferInstance fun d=>?_
   cases d <;> first | exact (calm_stuck:Calm (stuck "MakeChan: channel type expected" : Sem Value)) | skip
   dsimp only
   refine calm_bind inferInstance fun ti=>?_
   split
   ·refine calm_bind ⟨fun C P=>tame_runtimePanic _⟩ fun _=>?_
    exact calm_bind (calm_newObj fun _=>⟨rfl,rfl,rfl⟩) fun _=>inferInstance
   ·exact calm_bind (calm_newObj fun _=>⟨rfl,rfl,rfl⟩) fun _=>inferInstance
  ·cases ho
 case nilCheck x =>
  refine fine_tame ?_ hw es
  dsimp only
  repeat' (first | exact tame_runtimePanic _ | (refine tame_then inferInstance fun _=>?_) | split | trivial)
 case call c =>
  refine fine_bind (fine_tame (tame_resolve ho) hw es) fun d w1 es1 hw1 hd h1=>?_
  have hrun:=runT_run h1
  refine fine_invoke hS hd hw1 fun f hf=>hl f ?_
  dsimp only
  rw [hrun]
  exact hf
 next c =>
  simp only [Bool.and_eq_true] at ho
  exact fine_tame (Tame.bind (ψ:=NextOk OC S r) (fun d _=>tame_pure (show NextOk OC S r (.spawn d) from ho.1)) (tame_resolve ho.2)) hw es
 next c =>
  refine fine_tame (Tame.bind (fun d hd=>tame_pure ?_) (tame_resolve ho)) hw es
  exact tgt_okDef hd
end
end Go.Tm
