/- A part of the proof: W7, W3, W4. -/
import Derived.Test.YtjjmefieegcddaaDoorA12
import Derived.LaidEql
import Derived.Stop.Asserts
import Derived.RowKitTokens
import Derived.Test.YtjjmefieegcddaaDoorA13
set_option linter.unusedVariables false
set_option linter.unusedSimpArgs false
namespace Go.Proofs.YtjjmefieegcddaaDoor
open Go.RowKit Go.Extern.Stop Go.Stop Go.Extern Go.Mm
theorem as_nil (t:Value) (w:World) :
  Calls Tryd.prog 115 #[.nilIface,t] w fun e w'=>e=.returned (.bool false)∧w'=w:=by
 go_enter Tryd.func115,Tryd.ntmps115
 go_wp2
 go_ret
 exact ⟨rfl,rfl⟩
abbrev errT:Value:=.iface 187 (.agg #[Value.pointer (some ⟨1,155,none⟩)])
theorem fact_valueOfT (t:Addr) (w:World):(ReflectliteValue.unpack (.iface 157 (.pointer (some t)))).run Tryd.prog w
  = .ok (.agg #[Value.pointer (some ⟨1,157,none⟩),.pointer (some ⟨w.heap.size,0,none⟩),.int .u64 150]) (w.alloc (.cells #[.pointer (some t)] 157)):=by kernel_rfl
theorem fact_typeT (a:Addr) (w:World):(ReflectliteValue.methodAny (ReflectliteValue.valueError "reflectlite.Value.Type" 0) (fun t _ _ _=>ReflectliteType.toType t) #[.agg #[Value.pointer (some ⟨1,157,none⟩),.pointer (some a),.int .u64 150]]).run Tryd.prog w
  = .ok (.iface 187 (.agg #[Value.pointer (some ⟨1,157,none⟩)])) w:=by kernel_rfl
theorem fact_methodKind (h:Value) (w:World):(Go.method 330 187 (.agg #[h]) "Kind").run Tryd.prog w=.ok (151,h) w:=by kernel_rfl
theorem fact_kindT (w:World):((ReflectliteType.abiMethod fun t=>(fun a:Nat=>Value.int IntKind.u8 (a:Int)) <$> Rtype.kind t) #[Value.pointer (some ⟨1,157,none⟩)]).run Tryd.prog w=.ok (.int .u8 22) w:=by kernel_rfl
theorem fact_kindE (w:World):((ReflectliteType.abiMethod fun t=>(fun a:Nat=>Value.int IntKind.u8 (a:Int)) <$> Rtype.kind t) #[Value.pointer (some ⟨1,152,none⟩)]).run Tryd.prog w=.ok (.int .u8 25) w:=by kernel_rfl
theorem rlm (z:Sem Value) (f:TypeId→Addr→Nat→Nat→Sem Value) (v:Value) :
  ReflectliteValue.method z f #[v]=(do match ← ReflectliteValue.parts v with | none=>z | some (t,a,fl)=>f t a fl (fl % 32)):=rfl
theorem fact_partsT (a:Addr) (w:World):(ReflectliteValue.parts (.agg #[Value.pointer (some ⟨1,157,none⟩),.pointer (some a),.int .u64 150])).run Tryd.prog w=.ok (some (157,a,150)) w:=by kernel_rfl
theorem fact_loadT (a p:Addr) (W:World) (ha:W.cell? a=some (.pointer (some p))):(loadVar 157 a).run Tryd.prog W=.ok (.pointer (some p)) W:=by
 simp [loadVar,run_isAgg_one (show oneB Tryd.prog 157=true by kernel_rfl),ha,Result.andThen]
theorem fact_isNilT (a p:Addr) (W:World) (ha:W.cell? a=some (.pointer (some p))) :
  (ReflectliteValue.method (ReflectliteValue.valueError "reflectlite.Value.IsNil" 0) ReflectliteValue.isNil #[.agg #[Value.pointer (some ⟨1,157,none⟩),.pointer (some a),.int .u64 150]]).run Tryd.prog W=.ok (.bool false) W:=by
 rw [rlm]
 simp only [Sem.run_bind,fact_partsT,Result.andThen]
 simp [ReflectliteValue.isNil,fact_loadT a p W ha,Result.andThen,underlying,show Tryd.prog.underlying 157=some (.pointer 152) by kernel_rfl]
theorem fact_methodElem (h:Value) (w:World):(Go.method 330 187 (.agg #[h]) "Elem").run Tryd.prog w=.ok (162,.agg #[h]) w:=by kernel_rfl
theorem fact_methodImplements (h:Value) (w:World):(Go.method 330 187 (.agg #[h]) "Implements").run Tryd.prog w=.ok (163,.agg #[h]) w:=by kernel_rfl
theorem fact_methodAssignableTo (h:Value) (w:World):(Go.method 330 187 (.agg #[h]) "AssignableTo").run Tryd.prog w=.ok (160,.agg #[h]) w:=by kernel_rfl
theorem fact_elemT (w:World):(ReflectliteType.method ReflectliteType.elem #[.agg #[Value.pointer (some ⟨1,157,none⟩)]]).run Tryd.prog w=.ok (.iface 187 (.agg #[Value.pointer (some ⟨1,152,none⟩)])) w:=by kernel_rfl
theorem fact_implE (w:World):(ReflectliteType.relation "Implements" ReflectliteType.implements_ #[.agg #[Value.pointer (some ⟨1,152,none⟩)],.iface 187 (.agg #[Value.pointer (some ⟨1,155,none⟩)])]).run Tryd.prog w=.ok (.bool true) w:=by kernel_rfl
theorem fact_typeOfE (v:Value) (w:World):(ReflectliteType.typeOf #[.iface 152 v]).run Tryd.prog w=.ok (.iface 187 (.agg #[Value.pointer (some ⟨1,152,none⟩)])) w:=by kernel_rfl
theorem fact_assE (w:World):(ReflectliteType.relation "AssignableTo" ReflectliteType.assignableTo #[.agg #[Value.pointer (some ⟨1,152,none⟩)],.iface 187 (.agg #[Value.pointer (some ⟨1,152,none⟩)])]).run Tryd.prog w=.ok (.bool true) w:=by kernel_rfl
theorem fact_valueOfE (i:Int) (w:World):(ReflectliteValue.unpack (.iface 152 (.agg #[.int .i64 i]))).run Tryd.prog w
  = .ok (.agg #[Value.pointer (some ⟨1,152,none⟩),.pointer (some ⟨w.heap.size,0,none⟩),.int .u64 153]) (w.alloc (.cells #[.int .i64 i] 152)):=by kernel_rfl
theorem fact_elemOfT (w:World):(Rtype.elem? 157).run Tryd.prog w=.ok (some 152) w:=by kernel_rfl
theorem fact_mkE (p:Addr) (w:World):(ReflectliteValue.mk 152 p ReflectliteValue.flagAddr).run Tryd.prog w=.ok (.agg #[Value.pointer (some ⟨1,152,none⟩),.pointer (some p),.int .u64 409]) w:=by kernel_rfl
theorem fact_elemVT (a p:Addr) (W:World) (ha:W.cell? a=some (.pointer (some p))) :
  (ReflectliteValue.method (ReflectliteValue.valueError "reflectlite.Value.Elem" 0) ReflectliteValue.elem #[.agg #[Value.pointer (some ⟨1,157,none⟩),.pointer (some a),.int .u64 150]]).run Tryd.prog W
   = .ok (.agg #[Value.pointer (some ⟨1,152,none⟩),.pointer (some p),.int .u64 409]) W:=by
 rw [rlm]
 simp only [Sem.run_bind,fact_partsT,Result.andThen]
 simp [ReflectliteValue.elem,fact_loadT a p W ha,Result.andThen,fact_elemOfT,fact_mkE]
theorem rls (v x:Value):ReflectliteValue.set #[v,x]=(do
  let (some (dst,a,fl),some (src,b,_)):=(← ReflectliteValue.parts v,← ReflectliteValue.parts x)
   | unsupported (.noEntry "extern/(internal/reflectlite.Value).Set.zeroValue")
  if fl / ReflectliteValue.flagAddr % 2 == 0 then unsupported (.noEntry "extern/(internal/reflectlite.Value).Set.unaddressable")
  let val ← loadVar src b
  if ← Rtype.directlyAssignable dst src then storeVar dst a val
  else if ← Rtype.implements dst src then
   if (← Rtype.kind src) == 20 then
    match val with
    | .nilIface=>unsupported (.noEntry "extern/reflectlite: a nil value of one interface type handed on as a value of another")
    | _=>storeVar dst a val
   else storeVar dst a (.iface src val)
  else panicString ("reflectlite.Set: value of type " ++ (← Rtype.spelt src) ++ " is not assignable to type " ++ (← Rtype.spelt dst))
  pure (.tuple #[])):=rfl
theorem fact_partsEa (a:Addr) (w:World):(ReflectliteValue.parts (.agg #[Value.pointer (some ⟨1,152,none⟩),.pointer (some a),.int .u64 409])).run Tryd.prog w=.ok (some (152,a,409)) w:=by kernel_rfl
theorem fact_partsE (a:Addr) (w:World):(ReflectliteValue.parts (.agg #[Value.pointer (some ⟨1,152,none⟩),.pointer (some a),.int .u64 153])).run Tryd.prog w=.ok (some (152,a,153)) w:=by kernel_rfl
theorem fact_directE (w:World):(Rtype.directlyAssignable 152 152).run Tryd.prog w=.ok true w:=by kernel_rfl
theorem rowB152:rowB Tryd.prog 152 1=true:=by kernel_rfl
theorem fact_setE (ta b:Nat) (i:Int) (W:World) (hb:W.heap[b]? = some (.cells #[.int .i64 i] 152 (0,0))) {old:Value} {t:TypeId} (ht:W.heap[ta]? = some (.cells #[old] t (0,0))) :
  (ReflectliteValue.set #[.agg #[Value.pointer (some ⟨1,152,none⟩),.pointer (some ⟨ta,0,none⟩),.int .u64 409],.agg #[Value.pointer (some ⟨1,152,none⟩),.pointer (some ⟨b,0,none⟩),.int .u64 153]]).run Tryd.prog W
   = .ok (.tuple #[]) (W.setCells ta 0 [.int .i64 i]):=by
 obtain ⟨d,hu,hd,hi⟩:=rowB_parts rowB152
 have hl:=run_loadVar_mid (P:=Tryd.prog) W b 0 152 [.int .i64 i] d (range_at (cs:=[.int .i64 i]) (n:=1) hb rfl) hu hd hi
 have hs:=run_storeVar_mid (P:=Tryd.prog) W ta 0 152 #[.int .i64 i] (there_of (cs:=[old]) (n:=1) ht (by simp)) hi (by simp [Value.oneCell'])
 rw [rls]
 simp only [Sem.run_bind,fact_partsEa,fact_partsE,Result.andThen]
 simp [ReflectliteValue.flagAddr,hl,Result.andThen,fact_directE,hs]
set_option maxRecDepth 20000 in
set_option maxHeartbeats 4000000 in
theorem as_hit (i:Int) (tb:Nat) (old:Value) (w:World) (hg:w.cell? ⟨0,0,none⟩=some (Value.iface 187 (.agg #[Value.pointer (some ⟨1,155,none⟩)]))) (ht0:w.heap[tb]? = some (.cells #[old] 152 (0,0))) :
  Calls Tryd.prog 115 #[.iface 152 (.agg #[.int .i64 i]),.iface 157 (.pointer (some ⟨tb,0,none⟩))] w fun ev w'=>ev=.returned (.bool true) ∧
   KpBut tb w w':=by
 have h6:=@run_callFunc_extern Tryd.prog 129 _ (fun args=>ReflectliteValue.unpack (args.getD 0 (.tuple #[]))) Tryd.func129 (by kernel_rfl) (by kernel_rfl) (by kernel_rfl) (by kernel_rfl)
 have h7:=@run_callFunc_extern Tryd.prog 130 _ (ReflectliteValue.methodAny (ReflectliteValue.valueError "reflectlite.Value.Type" 0) (fun t _ _ _=>ReflectliteType.toType t)) Tryd.func130 (by kernel_rfl) (by kernel_rfl) (by kernel_rfl) (by kernel_rfl)
 have h8:=@run_callFunc_extern Tryd.prog 131 _ (ReflectliteValue.method (ReflectliteValue.valueError "reflectlite.Value.IsNil" 0) ReflectliteValue.isNil) Tryd.func131 (by kernel_rfl) (by kernel_rfl) (by kernel_rfl) (by kernel_rfl)
 have h27:=@run_callFunc_extern Tryd.prog 151 _ (ReflectliteType.abiMethod fun t=>do pure (.int .u8 (← Rtype.kind t))) Tryd.func151 (by kernel_rfl) (by kernel_rfl) (by kernel_rfl) (by kernel_rfl)
 have h37:=@run_callFunc_extern Tryd.prog 162 _ (ReflectliteType.method ReflectliteType.elem) Tryd.func162 (by kernel_rfl) (by kernel_rfl) (by kernel_rfl) (by kernel_rfl)
 have h38:=@run_callFunc_extern Tryd.prog 163 _ (ReflectliteType.relation "Implements" ReflectliteType.implements_) Tryd.func163 (by kernel_rfl) (by kernel_rfl) (by kernel_rfl) (by kernel_rfl)
 have h10:=@run_callFunc_extern Tryd.prog 134 _ ReflectliteType.typeOf Tryd.func134 (by kernel_rfl) (by kernel_rfl) (by kernel_rfl) (by kernel_rfl)
 have h35:=@run_callFunc_extern Tryd.prog 160 _ (ReflectliteType.relation "AssignableTo" ReflectliteType.assignableTo) Tryd.func160 (by kernel_rfl) (by kernel_rfl) (by kernel_rfl) (by kernel_rfl)
 have h11:=@run_callFunc_extern Tryd.prog 135 _ (ReflectliteValue.method (ReflectliteValue.valueError "reflectlite.Value.Elem" 0) ReflectliteValue.elem) Tryd.func135 (by kernel_rfl) (by kernel_rfl) (by kernel_rfl) (by kernel_rfl)
 have h12:=@run_callFunc_extern Tryd.prog 136 _ ReflectliteValue.set Tryd.func136 (by kernel_rfl) (by kernel_rfl) (by kernel_rfl) (by kernel_rfl)
 have tO:=fact_typeOfE
 have mA:=fact_methodAssignableTo
 have a25:=fact_assE
 have v25:=fact_valueOfE
 have f6:=fact_valueOfT
 have f7:=fact_typeT
 have mK:=fact_methodKind
 have mE:=fact_methodElem
 have mI:=fact_methodImplements
 have k27:=fact_kindT
 have k25:=fact_kindE
 have e27:=fact_elemT
 have i25:=fact_implE
 have htl:=lt_of_heap ht0
 have n8:=fact_isNilT ⟨w.heap.size,0,none⟩ ⟨tb,0,none⟩ ((w.alloc (.cells #[.pointer (some ⟨tb,0,none⟩)] 157)).alloc (.cells #[Value.pointer (some ⟨1,157,none⟩),.pointer (some ⟨w.heap.size,0,none⟩),.int .u64 150] 176)) (by simp)
 have hlt:0 < w.heap.size:=by
  rcases Nat.eq_zero_or_pos w.heap.size with h0 | h
  ·simp [World.cell?,h0] at hg
  ·exact h
 have hg2:((w.alloc (.cells #[.pointer (some ⟨tb,0,none⟩)] 157)).alloc (.cells #[Value.pointer (some ⟨1,157,none⟩),.pointer (some ⟨w.heap.size,0,none⟩),.int .u64 150] 176)).cell? ⟨0,0,none⟩=some (Value.iface 187 (.agg #[Value.pointer (some ⟨1,155,none⟩)])):=by
  rw [World.cell?_alloc_lt _ _ ⟨0,0,none⟩ (by simp),World.cell?_alloc_lt _ _ ⟨0,0,none⟩ hlt];exact hg
 have el:=fact_elemVT ⟨w.heap.size,0,none⟩ ⟨tb,0,none⟩ (((w.alloc (.cells #[.pointer (some ⟨tb,0,none⟩)] 157)).alloc (.cells #[Value.pointer (some ⟨1,157,none⟩),.pointer (some ⟨w.heap.size,0,none⟩),.int .u64 150] 176)).alloc (.cells #[Value.pointer (some ⟨1,157,none⟩),.pointer (some ⟨w.heap.size,0,none⟩),.int .u64 150] 176)) (by rw [World.cell?_alloc_lt _ _ ⟨w.heap.size,0,none⟩ (by simp;omega)];simp)
 have st:=fact_setE tb (w.heap.size+1+1+1) i ((((w.alloc (.cells #[.pointer (some ⟨tb,0,none⟩)] 157)).alloc (.cells #[Value.pointer (some ⟨1,157,none⟩),.pointer (some ⟨w.heap.size,0,none⟩),.int .u64 150] 176)).alloc (.cells #[Value.pointer (some ⟨1,157,none⟩),.pointer (some ⟨w.heap.size,0,none⟩),.int .u64 150] 176)).alloc (.cells #[.int .i64 i] 152))
  (by have:=heap_alloc_new (((w.alloc (.cells #[.pointer (some ⟨tb,0,none⟩)] 157)).alloc (.cells #[Value.pointer (some ⟨1,157,none⟩),.pointer (some ⟨w.heap.size,0,none⟩),.int .u64 150] 176)).alloc (.cells #[Value.pointer (some ⟨1,157,none⟩),.pointer (some ⟨w.heap.size,0,none⟩),.int .u64 150] 176)) (.cells #[.int .i64 i] 152);simpa using this)
  (old:=old) (t:=152)
  (by rw [heap_alloc_old _ _ (by simp;omega),heap_alloc_old _ _ (by simp;omega),heap_alloc_old _ _ (by simp;omega),heap_alloc_old _ _ htl];exact ht0)
 go_enter Tryd.func115,Tryd.ntmps115
 go_wp2
 refine wp_loop_rounds 1 ?_
 rw [rounds_succ]
 go_wp2
 go_ret
 refine ⟨rfl,?_⟩
 obtain ⟨q1,q2,q3,q4⟩:=setCells_same [.int .i64 i] tb 0 ((((w.alloc (.cells #[.pointer (some ⟨tb,0,none⟩)] 157)).alloc (.cells #[Value.pointer (some ⟨1,157,none⟩),.pointer (some ⟨w.heap.size,0,none⟩),.int .u64 150] 176)).alloc (.cells #[Value.pointer (some ⟨1,157,none⟩),.pointer (some ⟨w.heap.size,0,none⟩),.int .u64 150] 176)).alloc (.cells #[.int .i64 i] 152))
 refine ⟨q1,q2,by rw [q3];simp;omega,fun j hj hjt=>(q4 j hjt).trans ?_⟩
 rw [heap_alloc_old _ _ (by simp;omega),heap_alloc_old _ _ (by simp;omega),heap_alloc_old _ _ (by simp;omega),heap_alloc_old _ _ hj]
end Go.Proofs.YtjjmefieegcddaaDoor
namespace Go.Proofs.YtjjmefieegcddaaDoor
open Go.RowKit Go.Wg Go.Mm
set_option maxHeartbeats 400000 in
theorem span_no (lo hi:Int) (h:hi < 0∨hi < lo) (w:World) :
  Calls Tryd.prog 100 #[.int .i64 lo,.int .i64 hi] w fun r w'=>r=.returned (.int .u64 0)∧w'=w:=by
 by_cases h0:hi < 0
 ·go_enter Tryd.func100,Tryd.ntmps100
  go_wp2
  go_ret
  exact ⟨rfl,rfl⟩
 ·have h1:0≤hi:=by omega
  have h2:hi < lo:=by omega
  clear h h0
  go_enter Tryd.func100,Tryd.ntmps100
  go_wp2
  go_ret
  exact ⟨rfl,rfl⟩
set_option maxHeartbeats 400000 in
theorem span_over (lo hi:Int) (h0:0≤hi) (h:lo≤hi) (h1:40 < lo) (w:World) :
  Calls Tryd.prog 100 #[.int .i64 lo,.int .i64 hi] w fun r w'=>r=.returned (.int .u64 0)∧w'=w:=by
 have h2:0≤lo:=by omega
 go_enter Tryd.func100,Tryd.ntmps100
 go_wp2
 go_ret
 exact ⟨rfl,rfl⟩
set_option maxHeartbeats 400000 in
theorem span_in1 (lo hi:Nat) (h:lo≤hi) (h1:hi≤40) (w:World) :
  Calls Tryd.prog 100 #[.int .i64 lo,.int .i64 hi] w fun r w'=>r=.returned (.int .u64 (spanN lo hi:Nat))∧∃ n,w'=w.drewN n:=by
 have h2:(0:Int)≤hi:=by omega
 have h3:(lo:Int)≤hi:=by omega
 have h4:(lo:Int)≤40:=by omega
 have h5:(hi:Int)≤40:=by omega
 go_enter Tryd.func100,Tryd.ntmps100
 go_wp2
 go_quiet (fail)
 go_wp2
 go_ret
 refine ⟨?_,_,rfl⟩
 have:=span_bits lo hi h h1
 simpa using this
set_option maxHeartbeats 400000 in
theorem span_in2 (lo:Nat) (hi:Int) (h:(lo:Int)≤40) (h1:40 < hi) (w:World) :
  Calls Tryd.prog 100 #[.int .i64 lo,.int .i64 hi] w fun r w'=>r=.returned (.int .u64 (spanN lo 40:Nat))∧∃ n,w'=w.drewN n:=by
 have h2:(0:Int)≤hi:=by omega
 have h3:(lo:Int)≤hi:=by omega
 go_enter Tryd.func100,Tryd.ntmps100
 go_wp2
 go_quiet (fail)
 go_wp2
 go_ret
 refine ⟨?_,_,rfl⟩
 have:=span_bits lo 40 (by omega) (by omega)
 simpa using this
set_option maxHeartbeats 400000 in
theorem span_in3 (lo:Int) (hi:Nat) (h:lo < 0) (h1:hi≤40) (w:World) :
  Calls Tryd.prog 100 #[.int .i64 lo,.int .i64 hi] w fun r w'=>r=.returned (.int .u64 (spanN 0 hi:Nat))∧∃ n,w'=w.drewN n:=by
 have h2:(0:Int)≤hi:=by omega
 have h3:lo≤hi:=by omega
 have h5:(hi:Int)≤40:=by omega
 go_enter Tryd.func100,Tryd.ntmps100
 go_wp2
 go_quiet (fail)
 go_wp2
 go_ret
 refine ⟨?_,_,rfl⟩
 have:=span_bits 0 hi (by omega) h1
 simpa [wrap_u64] using this
set_option maxHeartbeats 400000 in
theorem span_in4 (lo hi:Int) (h:lo < 0) (h1:40 < hi) (w:World) :
  Calls Tryd.prog 100 #[.int .i64 lo,.int .i64 hi] w fun r w'=>r=.returned (.int .u64 (spanN 0 40:Nat))∧∃ n,w'=w.drewN n:=by
 have h2:(0:Int)≤hi:=by omega
 have h3:lo≤hi:=by omega
 go_enter Tryd.func100,Tryd.ntmps100
 go_wp2
 go_quiet (fail)
 go_wp2
 go_ret
 refine ⟨?_,_,rfl⟩
 have:=span_bits 0 40 (by omega) (by omega)
 simpa [wrap_u64] using this
theorem span_ok (lo hi:Int) (w:World) :
  Calls Tryd.prog 100 #[.int .i64 lo,.int .i64 hi] w fun r w'=>r=.returned (.int .u64 (spanB lo hi:Nat))∧Kp w w':=by
 unfold spanB
 by_cases h:hi < 0∨hi < lo
 ·rw [if_pos h]
  exact (span_no lo hi h w).mono fun _ _ ⟨h1,h2⟩=>⟨h1,h2 ▸ Kp.refl w⟩
 ·rw [if_neg h]
  by_cases h2:40 < lo
  ·rw [if_pos h2]
   exact (span_over lo hi (by omega) (by omega) h2 w).mono fun _ _ ⟨h1,h2⟩=>⟨h1,h2 ▸ Kp.refl w⟩
  ·rw [if_neg h2]
   have key:Calls Tryd.prog 100 #[.int .i64 lo,.int .i64 hi] w fun r w'=>r=.returned (.int .u64 (spanN lo.toNat (min hi 40).toNat:Nat))∧∃ n,w'=w.drewN n:=by
    by_cases h3:lo < 0
    ·by_cases h4:40 < hi
     ·have:=span_in4 lo hi h3 h4 w
      rwa [show lo.toNat=0 by omega,show (min hi 40).toNat=40 by omega]
     ·have:=span_in3 lo hi.toNat h3 (by omega) w
      rw [show ((hi.toNat:Nat):Int)=hi by omega] at this
      rwa [show lo.toNat=0 by omega,show (min hi 40).toNat=hi.toNat by omega]
    ·by_cases h4:40 < hi
     ·have:=span_in2 lo.toNat hi (by omega) h4 w
      rw [show ((lo.toNat:Nat):Int)=lo by omega] at this
      rwa [show (min hi 40).toNat=40 by omega]
     ·have:=span_in1 lo.toNat hi.toNat (by omega) (by omega) w
      rw [show ((lo.toNat:Nat):Int)=lo by omega,show ((hi.toNat:Nat):Int)=hi by omega] at this
      rwa [show (min hi 40).toNat=hi.toNat by omega]
   exact key.mono fun _ _ ⟨h1,n,h2⟩=>⟨h1,h2 ▸ Kp.drew w n⟩
set_option maxHeartbeats 400000 in
theorem has_ok (m n:Nat) (hm:m < 18446744073709551616) (hn:n < 64) (w:World) :
  Calls Tryd.prog 125 #[.int .u64 m,.int .i64 n] w fun r w'=>r=.returned (.bool (m.testBit n))∧w'=w:=by
 have h1:(0:Int)≤n:=by omega
 have h2:(n:Int) < 64:=by omega
 have:=has_bits m n hm
 have HS:Hid ((bits .and .u64 ((m:Int) / 2 ^ n) 1 == 1)=m.testBit n):=this
 clear this
 go_enter Tryd.func125,Tryd.ntmps125
 go_wp2
 go_ret
 refine ⟨?_,rfl⟩
 have:=HS.out
 simp [← this]
end Go.Proofs.YtjjmefieegcddaaDoor
namespace Go.Proofs.YtjjmefieegcddaaDoor
open Go.RowKit Go.Wg Go.Mm
theorem plus_end (m v:Nat):bits .and .u64 (plusTo m v 41:Int) 2199023255551=((plusB m v:Nat):Int):=by
 exact bits_and (plusTo m v 41) 2199023255551 (plusTo_lt m v 41) (by decide)
theorem plus_hit (m v k:Nat) (h:m.testBit k=true):bits .or .u64 (plusTo m v k:Int) (IntKind.u64.wrap ((v:Int) * 2 ^ k))=((plusTo m v (k+1):Nat):Int):=by
 rw [wrap_shl,bits_or _ _ (plusTo_lt m v k) (Nat.mod_lt _ (by decide)),plusTo_succ,plusStep,h]
 rfl
theorem plus_miss (m v k:Nat) (h:m.testBit k=false):plusTo m v (k+1)=plusTo m v k:=by
 rw [plusTo_succ,plusStep,h]
 rfl
set_option maxHeartbeats 400000 in
theorem plus_ok (m v:Nat) (hm:m < 18446744073709551616) (w:World) :
  Calls Tryd.prog 120 #[.int .u64 m,.int .u64 v] w fun r w'=>r=.returned (.int .u64 (plusB m v:Nat))∧Kp w w':=by
 have HE:Hid (bits .and .u64 (plusTo m v 41:Int) 2199023255551=((plusB m v:Nat):Int)):=plus_end m v
 go_enter Tryd.func120,Tryd.ntmps120
 go_wp2
 go_loop [5,7] (fun out n=>∃ k:Nat,k≤41∧n=.int .i64 k∧out=.int .u64 (plusTo m v k)) (fun _ n=>41 - (intOf n).toNat)
 case atStart=>exact ⟨0,by omega,rfl,rfl⟩
 case round =>
  obtain ⟨k,hk,rfl,rfl⟩:=hrel
  by_cases hlt:k < 41
  ·have h1:(k:Int) < 41:=by omega
   have h2:(0:Int)≤k:=by omega
   have h3:(k:Int) < 64:=by omega
   have HH:Hid (m.testBit k=true→bits .or .u64 (plusTo m v k:Int) (IntKind.u64.wrap ((v:Int) * 2 ^ k))=((plusTo m v (k+1):Nat):Int)):=plus_hit m v k
   have HM:Hid (m.testBit k=false→plusTo m v (k+1)=plusTo m v k):=plus_miss m v k
   go_wp2_with (refine (has_ok m k hm (by omega) _).mono ?_;rintro _ w' ⟨rfl,rfl⟩)
   all_goals go_round
   case rel=>exact ⟨k+1,by omega,by go_num,by rw [HH.out (by assumption)]⟩
   case measure=>simp [intOf];omega
   case rel=>exact ⟨k+1,by omega,by go_num,by rw [HM.out (by assumption)]⟩
   case measure=>simp [intOf];omega
  ·obtain rfl:k=41:=by omega
   go_wp2
   go_ret
   refine ⟨?_,Kp.refl _⟩
   rw [← HE.out]
   rfl
set_option maxHeartbeats 400000 in
theorem weighed_ok (s:SS) (hs:s.WF) (i:Nat) (hi:i < 6) (n:Int) (w:World) :
  Calls Tryd.prog 84 #[.agg (stC s).toArray,.int .i64 i,.int .i64 n] w fun r w'=>r=.returned (.agg (stC (s.weighed i n)).toArray)∧Kp w w':=by
 have hi1:(0:Int)≤i:=by omega
 have hi2:(i:Int) < 6:=by omega
 have hx:=stC_lim hs hi
 have HB:Hid (bits .and .u64 (s.limAt i:Int) (spanB n n:Int)=((s.limAt i &&& spanB n n:Nat):Int)):=bits_and _ _ (by have:=hs.limAt_lt i;omega) (by have:=spanB_lt n n;omega)
 have HL:(stC s).length=18:=stC_len hs
 have HL':∀ m,(stC (s.setLim i m)).length=18:=fun m=>by rw [← stC_setlim hs hi];simpa using HL
 have hS:=St.start w (fun _=>none) (fun k o h=>by cases h)
 go_enter Tryd.func84,Tryd.ntmps84
 go_wp2_with ((first | ((with_reducible refine gA ?_);refine qalloc hS rfl rfl ?_) | ((with_reducible refine gB ?_);refine qbox hS rfl rfl rfl ?_;refine ⟨_,za,?_⟩));clear hS;(try clear w');intro _;intro a' hp;(try simp only [fr] at hp);subst hp;intro w' hS)
 (refine wp_region_quiet_tail 10 (by kernel_rfl) (by kernel_rfl) (St.drew1 hS) ?_;simp only [List.take_succ_cons,List.take_zero,List.drop_succ_cons,List.drop_zero];clear hS;(repeat ((go_big_quiet_want;(first | ((with_reducible refine gqM ?_);refine quiet_mv rfl rfl ?_;intro a' hp;(try simp only [fr] at hp);subst hp) | ((with_reducible refine gqL ?_);(refine quiet_l1 rfl rfl ?_);refine ⟨_,zd,?_⟩;intro a' hp;(try simp only [fr] at hp);subst hp) | ((with_reducible refine gqV ?_);refine quiet_con ?_;refine ⟨_,_,by (intro _;go_simp;exact ⟨rfl,rfl⟩),?_⟩;refine ⟨_,by (intro w' hS;((go_at_call 100;exact span_ok _ _ _))),?_⟩;intro a' hp;(try simp only [fr] at hp);subst hp) | (refine quiet_pure ?_;refine ⟨_,zp,?_⟩;intro a' hp;(try simp only [fr] at hp);subst hp));go_big_quiet_on)));refine wpQuiet_nil ?_;(try clear w');intro w' hS)
 go_wp2_with (((first | ((with_reducible refine gL ?_);refine qln hS rfl rfl rfl ?_) | ((with_reducible refine gS ?_);first | refine qs1 hS rfl rfl rfl ?_ | refine qsall hS rfl rfl rfl ?_));refine ⟨_,zd,?_⟩;clear hS;(try clear w');intro a' hp;(try simp only [fr] at hp);subst hp;intro w' hS;(try simp only [sE] at hS));try (simp only [HB.out,stC_setlim hs hi] at hS))
 ((try simp only [Exit.inBlock,Exit.then]);(try refine bodyPost_norm ?_);refine ret_by ⟨_,by exact results1 (r1:=.cell 6 100) (by kernel_rfl) (by exact rs_n hS rfl zd),?_⟩ rfl)
 exact ⟨rfl,hS.toKp⟩
end Go.Proofs.YtjjmefieegcddaaDoor
