/- A part of the proof: T10, T11. -/
import Derived.Test.YtjjmefieegcddaaDoorA05
set_option linter.unusedVariables false
set_option linter.unusedSimpArgs false
namespace Go.Sr
open Go
open Go.Tm
section
variable {P:Program} {D:Nat→Prop} {α β:Type} {R:BR}
theorem RunR.haltL [Fns] {Φ:BR→α→β→Prop} {s:Sem α} {s':Sem β} (h:∀ w a w',s.run P w≠.ok a w'):RunR P D Φ R s s':=fun _ _ _ _ _ _ hr=>(h _ _ _ hr).elim
theorem DryS.mono {Q Q':α→Prop} (h:∀ a,Q a→Q' a) {s:Sem α} (x:DryS P Q s):DryS P Q' s:=by
 have:=DryS.bind (f:=fun a=>(Pure.pure a:Sem α)) (Q':=Q') (fun a ha=>h a ha) x
 have e:∀ s:Sem α,s >>= (fun a=>(Pure.pure a:Sem α))=s:=by
  intro s
  show Sem.bind s (fun a=>Sem.pure a)=s
  induction s with
  | pure a=>rfl
  | halt _=>rfl
  | load m a k ih=>simp only [Sem.bind,ih]
  | store m a v k ih=>simp only [Sem.bind,ih]
  | new o k ih=>simp only [Sem.bind,ih]
  | shape r k ih=>simp only [Sem.bind,ih]
  | freeze a n k ih=>simp only [Sem.bind,ih]
  | frozen a k ih=>simp only [Sem.bind,ih]
  | getObj r k ih=>simp only [Sem.bind,ih]
  | setObj r o k ih=>simp only [Sem.bind,ih]
  | choose q k ih=>simp only [Sem.bind,ih]
  | sys c k ih=>simp only [Sem.bind,ih]
  | program k ih=>simp only [Sem.bind,ih]
  | mark m k ih=>simp only [Sem.bind,ih]
 rw [e] at this
 exact this
theorem dryA_of_V {s:Sem Value} (h:DryV s):DryA s:=⟨fun P=>DryS.mono (fun _ _=>trivial) (h.t P)⟩
instance {o:BinOp} {k:FloatKind} {x y:Nat}:DryA (Op.Complex.arith o k x y):=by
 unfold Op.Complex.arith
 refine dryA_bind (dryA_of_V inferInstance) fun v=>?_
 split <;> infer_instance
instance {o:BinOp} {k:FloatKind} {x y:Nat}:DryA (Op.Complex.cmp o k x y):=by
 unfold Op.Complex.cmp
 exact dryA_bind (dryA_of_V inferInstance) fun v=>inferInstance
instance {m:String}:DryV (runtimePanic (.error m):Sem Value):=⟨fun _=>trivial⟩
instance {o:BinOp} {k k':IntKind} {x y:Int}:DryV (Op.shift o k x k' y):=by
 unfold Op.shift
 split
 ·infer_instance
 ·dsimp only
  split <;> infer_instance
theorem unsafe_none {t:TypeId} {y:Value} {w w':World} {a:Value}:(Builtin.unsafeAdd_ #[] t #[.pointer none,y]).run P w≠.ok a w':=by
 intro hr
 change ((Go.asInt y) >>= _).run P w=_ at hr
 rw [Sem.run_bind] at hr
 cases ha:(Go.asInt y).run P w with
 | halt h w1=>rw [ha] at hr;cases hr
 | ok n w1 =>
  rw [ha] at hr
  simp only [Result.andThen_ok] at hr
  by_cases h0:n=0
  ·simp only [h0,if_true] at hr
   cases hr
  ·simp only [h0,if_false] at hr
   by_cases h1:n < 0
   ·simp only [h1,if_true] at hr
    cases hr
   ·simp only [h1,if_false] at hr
    cases hr
theorem moved_none_run [Fns] {t:TypeId} (ht:IsInt P t) {y:Value} {w w':World} {a:Value}:(Go.movedNumber t (.pointer none) y).run P w≠.ok a w':=by
 obtain ⟨k,hk⟩:=ht
 intro hr
 unfold Go.movedNumber Go.underlying at hr
 simp only [Sem.run_bind,run_program,Result.andThen_ok,hk,Sem.run_pure,Bool.false_eq_true,if_false] at hr
 exact unsafe_none hr
theorem moved_none [Fns] {t:TypeId} (ht:IsInt P t) {y:Value} {Φ:BR→Value→β→Prop} {s':Sem β}:RunR P D Φ R (Go.movedNumber t (.pointer none) y) s':=RunR.haltL fun _ _ _=>moved_none_run ht
theorem add_none [Fns] {t:TypeId} (ht:IsInt P t) {y:Value} {Φ:BR→Value→β→Prop} {s':Sem β}:RunR P D Φ R (do if (← Go.underlying t) matches .unsafePointer then Go.movedPointer t (.pointer none) y else Go.movedNumber t (.pointer none) y) s':=by
 have ht':=ht
 obtain ⟨k,hk⟩:=ht
 refine RunR.haltL fun w a w' hr=>?_
 unfold Go.underlying at hr
 simp only [Sem.run_bind,run_program,Result.andThen_ok,hk,Sem.run_pure,Bool.false_eq_true,if_false] at hr
 exact moved_none_run ht' hr
theorem VR.flat_eq [Fns] {v v':Value} (h:VR R v v') (hf:flat v=true):v'=v:=by
 cases h with
 | agg _=>cases hf
 | base h =>
  cases h with
  | func _ _=>cases hf
  | base h =>
   cases h with
   | flat _=>rfl
   | ptr _=>cases hf
   | slice _=>cases hf
   | chan _=>cases hf
def other:Value→Value→Bool
 | .int ..,.int .. | .float ..,.float .. | .complex ..,.complex .. | .string _,.string _=>false
 | _,_=>true
theorem binOp_eql {t:TypeId} {x y:Value} (h:other x y=true):Go.binOp .eql t x y=(do Pure.pure (.bool (← Op.equal t x y)):Sem Value):=by
 cases x <;> cases y <;> first | rfl | cases h
theorem VR.other [Fns] {x x' y y':Value} (hx:VR R x x') (hy:VR R y y'):Sr.other x' y'=Sr.other x y:=by
 have key:∀ {v v':Value},VR R v v'→v'=v∨((∀ z,Sr.other v z=true)∧(∀ z,Sr.other v' z=true)∧(∀ z,Sr.other z v=true)∧(∀ z,Sr.other z v'=true)):=by
  intro v v' h
  cases h with
  | agg _=>exact .inr ⟨fun z=>by cases z <;> rfl,fun z=>by cases z <;> rfl,fun z=>by cases z <;> rfl,fun z=>by cases z <;> rfl⟩
  | base h =>
   cases h with
   | func _ _=>exact .inr ⟨fun z=>by cases z <;> rfl,fun z=>by cases z <;> rfl,fun z=>by cases z <;> rfl,fun z=>by cases z <;> rfl⟩
   | base h =>
    cases h with
    | flat _=>exact .inl rfl
    | ptr _=>exact .inr ⟨fun z=>by cases z <;> rfl,fun z=>by cases z <;> rfl,fun z=>by cases z <;> rfl,fun z=>by cases z <;> rfl⟩
    | slice _=>exact .inr ⟨fun z=>by cases z <;> rfl,fun z=>by cases z <;> rfl,fun z=>by cases z <;> rfl,fun z=>by cases z <;> rfl⟩
    | chan _=>exact .inr ⟨fun z=>by cases z <;> rfl,fun z=>by cases z <;> rfl,fun z=>by cases z <;> rfl,fun z=>by cases z <;> rfl⟩
 rcases key hx with rfl | ⟨h1,h2,h3,h4⟩
 ·rcases key hy with rfl | ⟨k1,k2,k3,k4⟩
  ·rfl
  ·rw [k3,k4]
 ·rw [h1,h2]
theorem bin_dry [Fns] {t:TypeId} {o:BinOp} (ho:okBin o=true) {x y:Value} (h:Sr.other x y=false):DryV (Go.binOp o t x y):=by
 cases x <;> cases y <;> first | (cases h;done) | skip
 all_goals (unfold Go.binOp;cases o <;> first | (cases ho;done) | skip)
 all_goals dsimp only
 all_goals first
  | infer_instance
  | exact dryV_ite2 inferInstance inferInstance
  | (refine dryV_ite2 inferInstance ?_;unfold Op.complexOp;dsimp only;infer_instance)
theorem RunR.binOp_rest [Fns] {t:TypeId} (ht:IsInt P t) {o:BinOp} (ho:okBin o=true) (hoe:o≠.eql) {x y:Value} {s':Sem Value}
  (hn:¬ (isNum x=true∧isNum y=true)) (hot:Sr.other x y=true):RunR P D VR R (Go.binOp o t x y) s':=by
 unfold Go.binOp
 cases o <;> first | (cases ho;done) | exact (hoe rfl).elim | skip
 all_goals
  cases x
  case pointer p =>
   cases p <;> cases y <;> first | exact RunR.halt | exact (hn ⟨rfl,rfl⟩).elim | exact moved_none ht | exact add_none ht | (rename_i q;cases q <;> first | exact RunR.halt | exact (hn ⟨rfl,rfl⟩).elim | exact moved_none ht | exact add_none ht)
  all_goals (cases y <;> first | exact RunR.halt | (cases hot;done) | exact moved_none ht | exact add_none ht | (rename_i q;cases q <;> first | exact RunR.halt | exact (hn ⟨rfl,rfl⟩).elim | exact moved_none ht | exact add_none ht))
theorem RunR.binOp [Fns] {t:TypeId} (ht:IsInt P t) {o:BinOp} (ho:okBin o=true) {x x' y y':Value} (hx:VR R x x') (hy:VR R y y'):RunR P D VR R (Go.binOp o t x y) (Go.binOp o t x' y'):=by
 have heq:∀ {a a' b b':Value},VR R a a'→VR R b b'→RunR P D VR R (do Pure.pure (.bool (← Op.equal t a b)):Sem Value) (do Pure.pure (.bool (← Op.equal t a' b')):Sem Value):=by
  intro a a' b b' ha hb
  refine RunR.bind (RunR.equalInt ht ha hb) fun R1 _ u v huv=>?_
  subst huv
  exact RunR.pure VR.bool
 by_cases hot:Sr.other x y=true
 rotate_left
 ·have hot:Sr.other x y=false:=by simpa using hot
  have hxy:x'=x∧y'=y:=by
   cases x <;> cases y <;> first | (cases hot;done) | exact ⟨hx.flat_eq rfl,hy.flat_eq rfl⟩
  rw [hxy.1,hxy.2]
  exact RunR.dryV (h:=bin_dry ho hot)
 by_cases hoe:o=.eql
 ·subst hoe
  rw [binOp_eql hot,binOp_eql (by rw [hx.other hy];exact hot)]
  exact heq hx hy
 by_cases hxn:isNum x=true
 ·by_cases hyn:isNum y=true
  ·rcases VR.num hx hxn with ⟨k1,n,rfl,rfl⟩ | ⟨a,a',rfl,rfl,ha⟩
   ·rcases VR.num hy hyn with ⟨k2,m,rfl,rfl⟩ | ⟨b,b',rfl,rfl,hb⟩
    ·unfold Go.binOp
     cases o <;> first | (cases ho;done) | skip
     all_goals dsimp only
     all_goals first | exact RunR.dryV | ((try dsimp only);split <;> first | exact RunR.halt | exact RunR.dryV | (unfold Op.complexOp;dsimp only;exact RunR.dryV))
    ·unfold Go.binOp
     cases o <;> first | (cases ho;done) | exact RunR.halt | exact heq hx hy | skip
     case add=>exact RunR.movedNumber ht hb VR.int
     case and=>exact RunR.bind (RunR.behindNumber hb) fun R1 _ u v huv=>RunR.addrMod huv.1
   ·rcases VR.num hy hyn with ⟨k2,m,rfl,rfl⟩ | ⟨b,b',rfl,rfl,hb⟩
    ·unfold Go.binOp
     cases o <;> first | (cases ho;done) | exact RunR.halt | exact heq hx hy | skip
     case add =>
      refine RunR.thenU fun R1 h1 d hd=>?_
      obtain ⟨k,hk⟩:=ht
      rw [hk] at hd
      cases hd
      exact RunR.movedNumber ⟨k,hk⟩ (ha.mono h1) VR.int
     case sub=>exact RunR.movedNumber ht ha VR.int
     case and=>exact RunR.bind (RunR.behindNumber ha) fun R1 _ u v huv=>RunR.addrMod huv.1
    ·unfold Go.binOp
     cases o <;> first | (cases ho;done) | exact RunR.halt | exact heq hx hy | skip
     case sub =>
      refine RunR.bind (RunR.behindNumber ha) fun R1 h1 u v huv=>?_
      refine RunR.bind (RunR.behindNumber (hb.mono h1)) fun R2 h2 u2 v2 huv2=>?_
      exact RunR.bind (Φ:=fun _ _ _=>False) (RunR.twoPlaces (huv.1.mono h2)) fun _ _ _ _ h=>h.elim
     case lss =>
      refine RunR.bind (RunR.behindNumber ha) fun R1 h1 u v huv=>?_
      refine RunR.bind (RunR.behindNumber (hb.mono h1)) fun R2 h2 u2 v2 huv2=>?_
      exact RunR.bind (Φ:=fun _ _ _=>False) (RunR.twoPlaces (huv.1.mono h2)) fun _ _ _ _ h=>h.elim
     case leq =>
      refine RunR.bind (RunR.behindNumber ha) fun R1 h1 u v huv=>?_
      refine RunR.bind (RunR.behindNumber (hb.mono h1)) fun R2 h2 u2 v2 huv2=>?_
      exact RunR.bind (Φ:=fun _ _ _=>False) (RunR.twoPlaces (huv.1.mono h2)) fun _ _ _ _ h=>h.elim
  ·exact RunR.binOp_rest ht ho hoe (fun h=>hyn h.2) hot
 ·exact RunR.binOp_rest ht ho hoe (fun h=>hxn h.1) hot
theorem RunR.iteP [Fns] {Φ:BR→α→β→Prop} {c:Prop} [Decidable c] {a b:Sem α} {a' b':Sem β} (h1:RunR P D Φ R a a') (h2:RunR P D Φ R b b'):RunR P D Φ R (if c then a else b) (if c then a' else b'):=by split <;> assumption
theorem guardIn_int [Fns] {t:TypeId} (ht:IsInt P t) {x x' y y':Value}:RunR P D (fun _ a b=>a=false∧b=false) R (Op.eqGuardIn Op.maxDepth t x y) (Op.eqGuardIn Op.maxDepth t x' y'):=by
 obtain ⟨k,hk⟩:=ht
 show RunR P D _ R (Op.eqGuardIn (9999+1) t x y) (Op.eqGuardIn (9999+1) t x' y')
 unfold Op.eqGuardIn
 refine RunR.thenU fun R1 h1 d hd=>?_
 rw [hk] at hd
 cases hd
 exact RunR.pure ⟨rfl,rfl⟩
def guarded:Value→Value→Bool
 | .nilIface,.nilIface | .agg _,.agg _=>true
 | _,_=>false
theorem eqGuard_no {t:TypeId} {o:BinOp} {x y:Operand} {a b:Value} (h:guarded a b=false):Go.eqGuard o t x y a b=Pure.pure ():=by
 unfold Go.eqGuard
 cases o <;> first | rfl | (cases a <;> cases b <;> first | rfl | cases h)
theorem RunR.eqGuard [Fns] {t:TypeId} (ht:IsInt P t) {o:BinOp} {x y:Operand} {a a' b b':Value} (ha:VR R a a') (hb:VR R b b'):RunR P D (fun _ _ _=>True) R (Go.eqGuard o t x y a b) (Go.eqGuard o t x y a' b'):=by
 have agg:∀ c d c' d',RunR P D (fun _ _ _=>True) R (Go.eqGuard o t x y (.agg c) (.agg d)) (Go.eqGuard o t x y (.agg c') (.agg d')):=by
  intro c d c' d'
  unfold Go.eqGuard
  cases o <;> first | exact RunR.pure trivial | skip
  all_goals
   simp only [Bool.not_true,Bool.false_eq_true,if_false]
   refine RunR.bind RunR.program fun R1 _ p q hpq=>?_
   refine RunR.bind RunR.program fun R1 _ p2 q2 hpq2=>?_
   rw [hpq.1,hpq.2,hpq2.1,hpq2.2]
   split
   ·exact RunR.pure trivial
   ·refine RunR.bind (guardIn_int ht) fun R2 _ u v huv=>?_
    obtain ⟨rfl,rfl⟩:=huv
    exact RunR.pure trivial
 by_cases hg:guarded a b=true
 ·cases a <;> cases b <;> first | (cases hg;done) | skip
  case agg c d =>
   cases ha with
   | agg _ =>
    cases hb with
    | agg _=>exact agg _ _ _ _
    | base h=>cases h with | base h=>cases h with | flat h=>cases h
   | base h=>cases h with | base h=>cases h with | flat h=>cases h
  case nilIface =>
   rw [ha.flat_eq rfl,hb.flat_eq rfl]
   unfold Go.eqGuard
   cases o <;> first | exact RunR.pure trivial | skip
   all_goals
    simp only [Bool.not_true,Bool.false_eq_true,if_false]
    refine RunR.iteP (RunR.pure trivial) ?_
    refine RunR.bind (guardIn_int ht) fun R2 _ u v huv=>?_
    obtain ⟨rfl,rfl⟩:=huv
    exact RunR.pure trivial
 ·have hg:guarded a b=false:=by simpa using hg
  have hg':guarded a' b'=false:=by
   have key:∀ {v v':Value},VR R v v'→(v'=v)∨((∃ c c',v=.agg c∧v'=.agg c')∨((∀ z,guarded v z=false)∧(∀ z,guarded v' z=false)∧(∀ z,guarded z v=false)∧(∀ z,guarded z v'=false))):=by
    intro v v' h
    cases h with
    | agg _=>exact .inr (.inl ⟨_,_,rfl,rfl⟩)
    | base h =>
     cases h with
     | func _ _=>exact .inr (.inr ⟨fun z=>by cases z <;> rfl,fun z=>by cases z <;> rfl,fun z=>by cases z <;> rfl,fun z=>by cases z <;> rfl⟩)
     | base h =>
      cases h with
      | flat _=>exact .inl rfl
      | ptr _=>exact .inr (.inr ⟨fun z=>by cases z <;> rfl,fun z=>by cases z <;> rfl,fun z=>by cases z <;> rfl,fun z=>by cases z <;> rfl⟩)
      | slice _=>exact .inr (.inr ⟨fun z=>by cases z <;> rfl,fun z=>by cases z <;> rfl,fun z=>by cases z <;> rfl,fun z=>by cases z <;> rfl⟩)
      | chan _=>exact .inr (.inr ⟨fun z=>by cases z <;> rfl,fun z=>by cases z <;> rfl,fun z=>by cases z <;> rfl,fun z=>by cases z <;> rfl⟩)
   rcases key ha with rfl | ⟨c,c',rfl,rfl⟩ | ⟨h1,h2,h3,h4⟩
   ·rcases key hb with rfl | ⟨c,c',rfl,rfl⟩ | ⟨k1,k2,k3,k4⟩
    ·exact hg
    ·cases a' <;> first | rfl | cases hg
    ·exact k4 _
   ·rcases key hb with rfl | ⟨d,d',rfl,rfl⟩ | ⟨k1,k2,k3,k4⟩
    ·cases b' <;> first | rfl | cases hg
    ·cases hg
    ·exact k4 _
   ·exact h2 _
  rw [eqGuard_no hg,eqGuard_no hg']
  exact RunR.pure trivial
theorem RunR.unary [Fns] {o:UnOp} {x x':Value} (h:VR R x x'):RunR P D VR R (Op.unary o x) (Op.unary o x'):=by
 by_cases hf:flat x=true
 ·rw [h.flat_eq hf]
  refine RunR.dryV (h:=?_)
  unfold Op.unary
  cases o <;> cases x <;> first | infer_instance | (rename_i p;cases p <;> infer_instance)
 ·unfold Op.unary
  cases o <;> cases x <;> first | exact RunR.halt | exact (hf rfl).elim | (rename_i p;cases p <;> first | exact RunR.halt | exact (hf rfl).elim)
theorem RunR.len [Fns] {ats:Array TypeId} {t:TypeId} {args args':Array Value} (ht:∀ ty,ats[0]? = some ty→∃ e,P.underlying ty=some (.slice e)) (h:AF (VR R) args args'):RunR P D VR R (Builtin.len_ ats t args) (Builtin.len_ ats t args'):=by
 unfold Builtin.len_
 cases hty:ats[0]? with
 | none=>exact RunR.halt
 | some ty =>
  rcases h.get? 0 with ⟨e1,e2⟩ | ⟨x,x',e1,e2,hx⟩
  ·rw [e1];exact RunR.halt
  ·rw [e1,e2]
   refine RunR.thenU fun R1 h1 d hd=>?_
   obtain ⟨e,he⟩:=ht ty hty
   rw [he] at hd
   cases hd
   cases hx with
   | agg _=>exact RunR.halt
   | base h =>
    cases h with
    | func _ _=>exact RunR.halt
    | base h =>
     cases h with
     | ptr _=>exact RunR.halt
     | chan _=>exact RunR.halt
     | slice _=>exact RunR.pure VR.int
     | flat hf=>cases x <;> first | exact RunR.halt | exact RunR.pure VR.int
theorem RunR.min2 [Fns] {x x' y y':Value} (hx:VR R x x') (hy:VR R y y'):RunR P D VR R (Builtin.min2 x y) (Builtin.min2 x' y'):=by
 by_cases hot:Sr.other x y=false
 ·have hxy:x'=x∧y'=y:=by
   cases x <;> cases y <;> first | (cases hot;done) | exact ⟨hx.flat_eq rfl,hy.flat_eq rfl⟩
  rw [hxy.1,hxy.2]
  refine RunR.dryV (h:=?_)
  cases x <;> cases y <;> first | (cases hot;done) | skip
  all_goals unfold Builtin.min2;dsimp only
  all_goals first | infer_instance | skip
  ·split <;> infer_instance
  ·exact dryV_bind (dryA_of_V inferInstance) fun v=>dryV_bind inferInstance fun b=>inferInstance
 ·unfold Builtin.min2
  cases x
  case pointer p=>cases p <;> cases y <;> first | exact RunR.halt | (rename_i q;cases q <;> exact RunR.halt)
  all_goals (cases y <;> first | exact RunR.halt | exact (hot rfl).elim | (rename_i q;cases q <;> first | exact RunR.halt | exact (hot rfl).elim))
theorem RunR.max2 [Fns] {x x' y y':Value} (hx:VR R x x') (hy:VR R y y'):RunR P D VR R (Builtin.max2 x y) (Builtin.max2 x' y'):=by
 by_cases hot:Sr.other x y=false
 ·have hxy:x'=x∧y'=y:=by
   cases x <;> cases y <;> first | (cases hot;done) | exact ⟨hx.flat_eq rfl,hy.flat_eq rfl⟩
  rw [hxy.1,hxy.2]
  refine RunR.dryV (h:=?_)
  cases x <;> cases y <;> first | (cases hot;done) | skip
  all_goals unfold Builtin.max2;dsimp only
  all_goals first | infer_instance | skip
  ·split <;> infer_instance
  ·exact dryV_bind (dryA_of_V inferInstance) fun v=>dryV_bind inferInstance fun b=>inferInstance
 ·unfold Builtin.max2
  cases x
  case pointer p=>cases p <;> cases y <;> first | exact RunR.halt | (rename_i q;cases q <;> exact RunR.halt)
  all_goals (cases y <;> first | exact RunR.halt | exact (hot rfl).elim | (rename_i q;cases q <;> first | exact RunR.halt | exact (hot rfl).elim))
theorem RunR.fold [Fns] {f:Value→Value→Sem Value} (hf:∀ {R:BR} {x x' y y':Value},VR R x x'→VR R y y'→RunR P D VR R (f x y) (f x' y')):∀ (l l':List Value) {R:BR} (x x':Value),VR R x x'→l'.length=l.length→(∀ (j:Nat) (v:Value),l[j]? = some v→∃ v':Value,l'[j]? = some v'∧VR R v v')→RunR P D VR R (l.foldlM f x) (l'.foldlM f x')
 | [],l',R,x,x',hx,hl,_=>by
  cases l' with
  | nil=>rw [List.foldlM_nil,List.foldlM_nil];exact RunR.pure hx
  | cons _ _=>simp at hl
 | v :: l,l',R,x,x',hx,hl,h=>by
  cases l' with
  | nil=>simp at hl
  | cons v' l' =>
   rw [List.foldlM_cons,List.foldlM_cons]
   obtain ⟨y,h1,h2⟩:=h 0 v rfl
   cases h1
   refine RunR.bind (hf hx h2) fun R1 hR z z' hz=>?_
   refine RunR.fold hf l l' z z' hz (by simpa using hl) fun j u hu=>?_
   obtain ⟨u',h3,h4⟩:=h (j+1) u (by simpa using hu)
   exact ⟨u',by simpa using h3,h4.mono hR⟩
theorem AF.list [Fns] {c c':Array Value} (h:AF (VR R) c c'):(c.toList=[]∧c'.toList=[])∨∃ x x' l l',c.toList=x :: l∧c'.toList=x' :: l'∧VR R x x'∧l'.length=l.length∧(∀ (j:Nat) (v:Value),l[j]? = some v→∃ v':Value,l'[j]? = some v'∧VR R v v'):=by
 obtain ⟨c⟩:=c
 obtain ⟨c'⟩:=c'
 have hs:c'.length=c.length:=by simpa using h.1
 cases c with
 | nil=>cases c' with
  | nil=>exact .inl ⟨rfl,rfl⟩
  | cons _ _=>simp at hs
 | cons x l=>cases c' with
  | nil=>simp at hs
  | cons x' l' =>
   refine .inr ⟨x,x',l,l',rfl,rfl,?_,by simpa using hs,fun j v hv=>?_⟩
   ·obtain ⟨y,h1,h2⟩:=h.2 0 x (by simp)
    simp at h1
    subst h1
    exact h2
   ·obtain ⟨y,h1,h2⟩:=h.2 (j+1) v (by simpa using hv)
    exact ⟨y,by simpa using h1,h2⟩
theorem RunR.min [Fns] {ats:Array TypeId} {t:TypeId} {args args':Array Value} (h:AF (VR R) args args'):RunR P D VR R (Builtin.min_ ats t args) (Builtin.min_ ats t args'):=by
 unfold Builtin.min_
 rcases h.list with ⟨e1,e2⟩ | ⟨x,x',l,l',e1,e2,h1,h2,h3⟩
 ·rw [e1];exact RunR.halt
 ·rw [e1,e2];exact RunR.fold RunR.min2 l l' x x' h1 h2 h3
theorem RunR.max [Fns] {ats:Array TypeId} {t:TypeId} {args args':Array Value} (h:AF (VR R) args args'):RunR P D VR R (Builtin.max_ ats t args) (Builtin.max_ ats t args'):=by
 unfold Builtin.max_
 rcases h.list with ⟨e1,e2⟩ | ⟨x,x',l,l',e1,e2,h1,h2,h3⟩
 ·rw [e1];exact RunR.halt
 ·rw [e1,e2];exact RunR.fold RunR.max2 l l' x x' h1 h2 h3
end
end Go.Sr
namespace Go.Sr
open Go
open Go.Tm
def okOpd [Fns]:Operand→Bool
 | .tmp _=>true
 | .func f=>Fns.ok f
 | .const v=>flat v
 | .global _=>false
def isIntB (P:Program) (t:TypeId):Bool :=
 match P.underlying t with
 | some (.int _)=>true
 | _=>false
def isSliceB (P:Program) (t:TypeId):Bool :=
 match P.underlying t with
 | some (.slice _)=>true
 | _=>false
def okWCall [Fns] (P:Program) (c:Call):Bool :=
 c.args.all okOpd && match c.callee with
 | .builtin .len=>(c.argTypes[0]?).all (isSliceB P)
 | .builtin .min | .builtin .max=>true
 | .value f=>okOpd f
 | _=>false
def okW [Fns] (P:Program):Op→Bool
 | .move x | .assign x | .box _ x | .load _ x | .nilCheck x | .unOp _ _ x | .fieldAddr _ x _=>okOpd x
 | .pick c a b=>okOpd c && okOpd a && okOpd b
 | .alloc t=>zeroT P t
 | .build t ps=>zeroT P t && ps.all fun p=>okOpd p.2
 | .store _ a x=>okOpd a && okOpd x
 | .binOp o t x y _=>okBin o && isIntB P t && okOpd x && okOpd y
 | .makeFunc (.func f) a c=>Fns.ok f && (a.all okOpd && c.all okOpd)
 | .indexAddr _ x i=>okOpd x && okOpd i
 | .call c=>okWCall P c
 | _=>false
inductive NR [Fns] (R:BR):Next→Next→Prop
 | value {v v':Value}:VR R v v'→NR R (.value v) (.value v')
 | skip:NR R .skip .skip
 | enter {f:FuncId} {a a':Array Value}:Fns.ok f=true→AF (VR R) a a'→NR R (.enter f a) (.enter f a')
def SokW [Fns] (P:Program):Prop:=∀ f,Fns.ok f=true→∃ fn,P.funcs[f]? = some fn∧fn.body.isSome=true∧(fn.name == "runtime.NumGoroutine")=false
section
variable {P:Program} {D:Nat→Prop} {α β:Type} {R:BR}
theorem RunR.value [Fns] {s s':Sem Value} (h:RunR P D VR R s s'):RunR P D NR R (do Pure.pure (.value (← s)):Sem Next) (do Pure.pure (.value (← s')):Sem Next) :=
 RunR.bind h fun _ _ _ _ hv=>RunR.pure (.value hv)
theorem RunR.skip [Fns] {Φ:BR→Unit→Unit→Prop} {s s':Sem Unit} (h:RunR P D Φ R s s'):RunR P D NR R (do s;Pure.pure .skip:Sem Next) (do s';Pure.pure .skip:Sem Next) :=
 RunR.bind h fun _ _ _ _ _=>RunR.pure .skip
theorem isInt_of {t:TypeId} (h:isIntB P t=true):IsInt P t:=by
 unfold isIntB at h
 split at h
 ·exact ⟨_,by assumption⟩
 ·cases h
def EnvR [Fns] (R:BR) (ρ ρ':Operand→Value):Prop:=∀ x,okOpd x=true→VR R (ρ x) (ρ' x)
theorem AF.mapOpd [Fns] {ρ ρ':Operand→Value} (he:EnvR R ρ ρ') {l:Array Operand} (h:l.all okOpd=true):AF (VR R) (l.map ρ) (l.map ρ'):=by
 rw [Array.all_eq_true] at h
 exact AF.map l fun x hx=>by
  obtain ⟨i,hi,rfl⟩:=Array.mem_iff_getElem.1 hx
  exact he _ (h i hi)
theorem RunR.callFunc [Fns] (hS:SokW P) {f:FuncId} (hf:Fns.ok f=true) {a a':Array Value} (h:AF (VR R) a a'):RunR P D NR R (Go.callFunc f a) (Go.callFunc f a'):=by
 obtain ⟨fn,h1,h2,h3⟩:=hS f hf
 unfold Go.callFunc
 refine RunR.bind RunR.program fun R1 hR p q hpq=>?_
 rw [hpq.1,hpq.2,h1]
 dsimp only
 rw [h3]
 have h4:fn.body.isNone=false:=by cases hb:fn.body <;> simp_all
 simp only [h4,Bool.false_eq_true,if_false]
 exact RunR.pure (.enter hf (h.mono fun _ _=>VR.mono hR))
theorem RunR.makeFunc [Fns] {f:FuncId} (hf:Fns.ok f=true) {a a' c c':Array Value} (ha:AF (VR R) a a') (hc:AF (VR R) c c'):RunR P D VR R (Instr.makeFunc (.func f) a c) (Instr.makeFunc (.func f) a' c') :=
 RunR.pure (.base (.ofFunc hf ha hc))
def nilChk (v:Value):Sem Next :=
 match v with
 | .pointer none | .nilIface | .nilFunc=>runtimePanic .nilDeref
 | .func (.method name) first captured =>
  match (first[0]? : Option Value) with
  | some .nilIface=>runtimePanic .nilDeref
  | some (.iface t w)=>do
   if (← nilAhead ((← Go.program).types.size+Made.depth) t w name) != some false then
    unsupported (.noEntry "op/nilCheck.the method's receiver behind this interface value is a nil pointer, or cannot be seen to be none, and the arguments act or may panic (ledger 612)")
   Pure.pure (.value (.func (.method name) first captured))
  | _=>Pure.pure (.value (.func (.method name) first captured))
 | x=>Pure.pure (.value x)
theorem RunR.nilCheck [Fns] {v v':Value} (h:VR R v v'):RunR P D NR R (nilChk v) (nilChk v'):=by
 have pan:∀ {s':Sem Next},RunR P D NR R (runtimePanic .nilDeref:Sem Next) s':=by
  intro s'
  refine RunR.haltL fun w a w' hr=>?_
  unfold runtimePanic at hr
  simp [Sem.run_bind,goPanic,Sem.run] at hr
 cases h with
 | agg h h'=>exact RunR.pure (.value (.agg h h'))
 | base h =>
  cases h with
  | func h0 h1 h2 h3 h4=>exact RunR.pure (.value (.base (.func h0 h1 h2 h3 h4)))
  | base h =>
   cases h with
   | ptr h=>exact RunR.pure (.value (.base (.base (.ptr h))))
   | slice h=>exact RunR.pure (.value (.base (.base (.slice h))))
   | chan h=>exact RunR.pure (.value (.base (.base (.chan h))))
   | flat hf =>
    cases v <;> first | exact pan | exact RunR.pure (.value (.of_flat hf)) | (cases hf;done) | skip
    all_goals (rename_i p;cases p <;> first | exact pan | (cases hf;done))
theorem TgtCall [Fns] (hS:SokW P) {ρ ρ':Operand→Value} (he:EnvR R ρ ρ') {c:Call} {t:TypeId} {f:Operand} (hc:c.callee=.value f) (hf:okOpd f=true) (ha:c.args.all okOpd=true):RunR P D NR R (do let d ← resolve ρ c t;invoke d.target d.args) (do let d ← resolve ρ' c t;invoke d.target d.args):=by
 have haf:=AF.mapOpd he ha
 have hv:=he f hf
 unfold resolve
 rw [hc]
 dsimp only
 generalize hρ:ρ f=v at hv
 generalize hρ':ρ' f=v' at hv
 have pan:∀ {s':Sem Next},RunR P D NR R (runtimePanic .nilDeref:Sem Next) s':=by
  intro s'
  refine RunR.haltL fun w a w' hr=>?_
  unfold runtimePanic at hr
  simp [Sem.run_bind,goPanic,Sem.run] at hr
 cases hv with
 | agg _ _=>exact RunR.halt
 | base h =>
  cases h with
  | @func g a a' cc cc' h0 h1 h2 h3 h4 =>
   have r1:AF (VR R) a a':=AF.of_raw h1 h2
   have r2:AF (VR R) cc cc':=AF.of_raw h3 h4
   exact RunR.callFunc hS h0 ((r1.append haf).append r2)
  | base h =>
   cases h with
   | ptr _=>exact RunR.halt
   | slice _=>exact RunR.halt
   | chan _=>exact RunR.halt
   | flat hf =>
    cases v <;> first | exact RunR.halt | exact pan | (cases hf;done)
theorem RunR.execOp [Fns] (hS:SokW P) {ρ ρ':Operand→Value} (he:EnvR R ρ ρ') {o:Oper} (ho:okW P o.op=true) :
  RunR P D NR R (Go.execOp ρ o) (Go.execOp ρ' o):=by
 unfold Go.execOp
 cases hop:o.op <;> rw [hop] at ho <;> dsimp only [okW] at ho <;> first | (cases ho;done) | skip
 case move x=>exact RunR.pure (.value (he x ho))
 case assign x=>exact RunR.pure (.value (he x ho))
 case pick c a b =>
  simp only [Bool.and_eq_true] at ho
  refine RunR.bind (VR.asBool (he c ho.1.1)) fun R1 h1 u v huv=>?_
  subst huv
  cases u with
  | true=>exact RunR.pure (.value ((he a ho.1.2).mono h1))
  | false=>exact RunR.pure (.value ((he b ho.2).mono h1))
 case alloc t=>exact RunR.value (RunR.alloc ho)
 case box t x=>exact RunR.value (RunR.box (he x ho))
 case build t ps =>
  rw [Bool.and_eq_true,Array.all_eq_true] at ho
  exact RunR.value (RunR.build ho.1 fun p hp=>by
   obtain ⟨i,hi,rfl⟩:=Array.mem_iff_getElem.1 hp
   exact he _ (ho.2 i hi))
 case load t a=>exact RunR.value (RunR.loadAt (he a ho))
 case store t a x =>
  simp only [Bool.and_eq_true] at ho
  exact RunR.skip (RunR.storeAt (he a ho.1) (he x ho.2))
 case nilCheck x=>exact RunR.nilCheck (he x ho)
 case binOp op t x y pos =>
  simp only [Bool.and_eq_true] at ho
  refine RunR.value (RunR.bind (RunR.eqGuard (isInt_of ho.1.1.2) (he x ho.1.2) (he y ho.2)) fun R1 h1 _ _ _=>?_)
  exact RunR.binOp (isInt_of ho.1.1.2) ho.1.1.1 ((he x ho.1.2).mono h1) ((he y ho.2).mono h1)
 case unOp op t x=>exact RunR.value (RunR.unary (he x ho))
 case makeFunc fn a c =>
  cases fn <;> first | (cases ho;done) | skip
  case func f =>
   simp only [Bool.and_eq_true] at ho
   exact RunR.value (RunR.makeFunc ho.1 (AF.mapOpd he ho.2.1) (AF.mapOpd he ho.2.2))
 case fieldAddr s x f=>exact RunR.value (RunR.fieldAt (he x ho))
 case indexAddr t x i =>
  simp only [Bool.and_eq_true] at ho
  exact RunR.value (RunR.indexAt (he x ho.1) (he i ho.2))
 case call c =>
  unfold okWCall at ho
  simp only [Bool.and_eq_true] at ho
  obtain ⟨ha,hc⟩:=ho
  have haf:=AF.mapOpd he ha
  cases hcc:c.callee with
  | invoke x n=>rw [hcc] at hc;cases hc
  | value f =>
   rw [hcc] at hc
   exact TgtCall hS he hcc hc ha
  | builtin b =>
   rw [hcc] at hc
   show RunR P D NR R (do let d ← resolve ρ c o.type;invoke d.target d.args) (do let d ← resolve ρ' c o.type;invoke d.target d.args)
   unfold resolve
   rw [hcc]
   cases b <;> first | (cases hc;done) | skip
   case len =>
    refine RunR.value (RunR.len (fun ty hty=>?_) haf)
    rw [hty] at hc
    have hc':isSliceB P ty=true:=hc
    unfold isSliceB at hc'
    split at hc'
    ·exact ⟨_,by assumption⟩
    ·cases hc'
   case max=>exact RunR.value (RunR.max haf)
   case min=>exact RunR.value (RunR.min haf)
theorem mapM_alike [Fns] {α:Type} (f f':α→Sem Value) (h:∀ {R':BR},le R R'→∀ x,RunR P D VR R' (f x) (f' x)) (l:Array α):RunR P D (fun R' a b=>AF (VR R') a b∧a.size=l.size) R (l.mapM f) (l.mapM f'):=by
 rw [Array.mapM_eq_foldlM,Array.mapM_eq_foldlM,← Array.foldlM_toList,← Array.foldlM_toList]
 have key:∀ (l:List α) (R':BR) (acc acc':Array Value),le R R'→AF (VR R') acc acc'→RunR P D (fun R' a b=>AF (VR R') a b∧a.size=acc.size+l.length) R' (l.foldlM (fun bs a=>bs.push <$> f a) acc) (l.foldlM (fun bs a=>bs.push <$> f' a) acc'):=by
  intro l
  induction l with
  | nil=>intro R' acc acc' _ ha;rw [List.foldlM_nil,List.foldlM_nil];exact RunR.pure ⟨ha,rfl⟩
  | cons x l ih =>
   intro R' acc acc' hR ha
   rw [List.foldlM_cons,List.foldlM_cons]
   refine RunR.bind (Φ:=fun R' a b=>AF (VR R') a b∧a.size=acc.size+1) ?_ fun R1 h1 b b' hb=>(ih R1 b b' (le_trans hR h1) hb.1).mono fun R2 u v huv=>⟨huv.1,by rw [huv.2,hb.2,List.length_cons];omega⟩
   show RunR P D (fun R' a b=>AF (VR R') a b∧a.size=acc.size+1) R' (f x >>= fun a=>Pure.pure (acc.push a)) (f' x >>= fun a=>Pure.pure (acc'.push a))
   exact RunR.bind (h hR x) fun R1 h1 v v' hv=>RunR.pure ⟨(ha.mono fun _ _=>VR.mono h1).push hv,by simp⟩
 exact (key _ R #[] #[] (le_refl R) AF.empty).mono fun R2 u v huv=>⟨huv.1,by rw [huv.2];simp⟩
theorem RunR.results [Fns] {fn:Func} (hsz:fn.results.size≤1) {tmps tmps':Array Value} (h:AF (VR R) tmps tmps'):RunR P D VR R (Go.results fn tmps) (Go.results fn tmps'):=by
 have hu:∀ {R':BR},VR R' undef undef:=.of_flat rfl
 unfold Go.results
 refine RunR.bind (Φ:=fun R' a b=>AF (VR R') a b∧a.size≤1) ?_ fun R1 h1 vs vs' hv=>?_
 ·intro wl wa es hw x wl' hr
  have hm:=mapM_alike (P:=P) (D:=D) (R:=R) (fun | ResultVar.tmp t=>Pure.pure (tmps.getD t undef) | ResultVar.cell a t=>do Go.loadVar t (← asAddr (tmps.getD a undef))) (fun | ResultVar.tmp t=>Pure.pure (tmps'.getD t undef) | ResultVar.cell a t=>do Go.loadVar t (← asAddr (tmps'.getD a undef))) (by
   intro R' hR r
   cases r with
   | tmp t=>exact RunR.pure ((h.get hu t).mono hR)
   | cell a t =>
    dsimp only
    have hv:=(h.get hu a).mono hR
    generalize tmps.getD a undef=v at hv
    generalize tmps'.getD a undef=v' at hv
    refine RunR.bind (Φ:=fun R'=>AR R') ?_ fun R1 _ a a' ha=>RunR.loadVar ha
    unfold asAddr
    have pan:∀ {s':Sem Addr},RunR P D (fun R'=>AR R') R' (runtimePanic .nilDeref:Sem Addr) s':=by
     intro s'
     refine RunR.haltL fun w a w' hr=>?_
     unfold runtimePanic at hr
     simp [Sem.run_bind,goPanic,Sem.run] at hr
    cases hv with
    | agg _ _=>exact RunR.halt
    | base h =>
     cases h with
     | func _ _ _ _=>exact RunR.halt
     | base h =>
      cases h with
      | ptr h=>exact RunR.pure h
      | slice _=>exact RunR.halt
      | chan _=>exact RunR.halt
      | flat hf=>cases v <;> first | exact RunR.halt | exact pan | (rename_i p;cases p <;> first | exact pan | (cases hf;done))) fn.results wl wa es hw x wl' hr
  obtain ⟨a',wa',es',R',k1,k2,k3,k4,k5,k6,k7⟩:=hm
  exact ⟨a',wa',es',R',k1,k2,k3,k4,k5,k6,k7.1,by rw [k7.2];exact hsz⟩
 ·obtain ⟨hv,hs⟩:=hv
  refine RunR.pure ?_
  by_cases h1:vs.size=1
  ·have h2:vs'.size=1:=by rw [hv.1];exact h1
   simp only [h1,h2,dif_pos]
   exact hv.raw 0 _ _ (Array.getElem?_eq_getElem (by omega)) (Array.getElem?_eq_getElem (by omega))
  ·have h2:vs'.size≠1:=by rw [hv.1];exact h1
   simp only [h1,h2,dif_neg,not_false_eq_true]
   have e1:vs=#[]:=Array.eq_empty_of_size_eq_zero (by omega)
   have e2:vs'=#[]:=Array.eq_empty_of_size_eq_zero (by rw [hv.1];omega)
   rw [e1,e2]
   exact .of_flat rfl
end
end Go.Sr
