/- A part of the proof: Q1, Q2, S2, S3, S4, S5, S6, S7, S8. -/
import Derived.Test.YtjjmefieegcddaaDoorA12
import Derived.BigRegion
import Derived.Test.YtjjmefieegcddaaDoorProg
import Derived.Test.YtjjmefieegcddaaDoorA11
set_option linter.unusedVariables false
set_option linter.unusedSimpArgs false
namespace Go.Mm
open Go
variable {P:Program}
class RowT (P:Program) (ty:TypeId) (n:outParam Nat):Prop where
 ok:rowB P ty n=true
class OneT (P:Program) (ty:TypeId):Prop where
 ok:oneB P ty=true
class ZeroT (P:Program) (ty:TypeId) (cs:outParam (List Value)):Prop where
 has:zeroB P ty=true
 ok:zeroC P ty=cs
class SlT (P:Program) (t:TypeId) (e:outParam TypeId):Prop where
 ok:sl1B P t e=true
class ApT (P:Program) (t:TypeId) (e:outParam TypeId) (size:outParam Nat):Prop where
 ok:slB P t e size=true
class Hr (L:List Ent) (v:Value) (j:outParam Nat) (t:outParam TypeId) (s n:outParam Nat) (xs:outParam (List Value)):Prop where
 ok:L[j]? = some (.row v t s n xs)
instance Hr.here {L:List Ent} {v:Value} {t:TypeId} {s n:Nat} {xs:List Value}:Hr (.row v t s n xs :: L) v 0 t s n xs:=⟨rfl⟩
instance Hr.there {L:List Ent} {v:Value} {j:Nat} {t:TypeId} {s n:Nat} {xs:List Value} {e:Ent} [h:Hr L v j t s n xs]:Hr (e :: L) v (j+1) t s n xs:=⟨by simpa using h.ok⟩
class Hs (L:List Ent) (b:Nat) (j:outParam Nat) (t:outParam TypeId) (cs:outParam (List Value)):Prop where
 ok:L[j]? = some (.blk b t cs)
instance Hs.here {L:List Ent} {b:Nat} {t:TypeId} {cs:List Value}:Hs (.blk b t cs :: L) b 0 t cs:=⟨rfl⟩
instance Hs.there {L:List Ent} {b j:Nat} {t:TypeId} {cs:List Value} {e:Ent} [h:Hs L b j t cs]:Hs (e :: L) b (j+1) t cs:=⟨by simpa using h.ok⟩
def evalL (a:Act):Operand→Option Value
 | .tmp t=>a.tmps.toList[t]?
 | .const v=>some v
 | .global g=>some (.pointer (some ⟨g,0,none⟩))
 | .func f=>some (.func (.func f) #[] #[])
theorem evalL_ok {a:Act} {x:Operand} {v:Value} (h:evalL a x=some v):a.eval x=v:=by
 cases x with
 | tmp t =>
  have h':a.tmps[t]? = some v:=by simpa [evalL] using h
  simp [Act.eval,Array.getD_eq_getD_getElem?,h']
 | const c=>exact Option.some.inj h
 | global g=>exact Option.some.inj h
 | func f=>exact Option.some.inj h
structure PartOf (cs:List Value) (i n:Nat) (vs:List Value):Prop where
 part:(cs.drop i).take n=vs
 len:vs.length=n
theorem part_all {cs:List Value} {n:Nat} (h:cs.length=n):PartOf cs 0 n cs:=⟨take_all h,h⟩
inductive Lit:List Value→Nat→Nat→List Value→Prop where
 | nil {l:List Value}:Lit l 0 0 []
 | take {x:Value} {l r:List Value} {n:Nat}:Lit l 0 n r→Lit (x :: l) 0 (n+1) (x :: r)
 | drop {x:Value} {l r:List Value} {i n:Nat}:Lit l i n r→Lit (x :: l) (i+1) n r
theorem part_lit {cs:List Value} {i n:Nat} {vs:List Value} (h:Lit cs i n vs):PartOf cs i n vs:=by
 induction h with
 | nil=>exact ⟨by simp,rfl⟩
 | take _ ih=>exact ⟨by simpa using ih.part,by simpa using ih.len⟩
 | drop _ ih=>exact ⟨by simpa using ih.part,ih.len⟩
inductive Parts (a:Act):Nat→List (Nat × Operand)→List Value→Prop where
 | nil {i:Nat}:Parts a i [] []
 | cons {i:Nat} {x:Operand} {v:Value} {r:List (Nat × Operand)} {vs:List Value}:evalL a x=some v→Parts a (i+1) r vs→Parts a i ((i,x) :: r) (v :: vs)
theorem parts_ok {a:Act} {i:Nat} {l:List (Nat × Operand)} {vs:List Value} (h:Parts a i l vs):(l.map fun p=>(p.1,a.eval p.2))=tagged i vs:=by
 induction h with
 | nil=>rfl
 | cons hx _ ih=>simp [tagged,ih,evalL_ok hx]
section
variable {w0:World} {X:List Nat} {V:View} {L:List Ent} {w:World}
variable {ops:Array Oper} {rest:List Oper} {o:Oper} {a:Act} {Q:Exit→Act→World→Prop}
theorem ql1 (hS:St w0 X V L w) (hgd:Region.wanted o (yielded ops a.tmps)=true) {ty:TypeId} {x:Operand} (ho:o.op=.load ty x) {b i:Nat} (hx:a.eval x=.pointer (some ⟨b,i,none⟩))
  {j:Nat} {t:TypeId} {cs:List Value} [hj:Hs L b j t cs] [hty:OneT P ty] (h:∃ v,cs[i]? = some v∧∀ a',a.put o.dst v=a'→∀ w',St w0 X V L w'→wpList P ops Q rest a' w'):wpList P ops Q (o :: rest) a w:=by
 obtain ⟨v,hv,h⟩:=h
 exact wpl_load1 hS hgd ho j hx hj.ok hty.ok hv (h _ rfl w hS)
theorem qln (hS:St w0 X V L w) (hgd:Region.wanted o (yielded ops a.tmps)=true) {ty:TypeId} {x:Operand} (ho:o.op=.load ty x) {b i:Nat} (hx:a.eval x=.pointer (some ⟨b,i,none⟩))
  {j n:Nat} {t:TypeId} {cs:List Value} [hj:Hs L b j t cs] [hty:RowT P ty n] (h:∃ vs,PartOf cs i n vs∧∀ a',a.put o.dst (.agg vs.toArray)=a'→∀ w',St w0 X V L w'→wpList P ops Q rest a' w'):wpList P ops Q (o :: rest) a w:=by
 obtain ⟨vs,hv,h⟩:=h
 exact wpl_loadn hS hgd ho j hx hj.ok hty.ok hv.part hv.len (h _ rfl w hS)
theorem qv1 (hS:St w0 X V L w) (hgd:Region.wanted o (yielded ops a.tmps)=true) {ty:TypeId} {x:Operand} (ho:o.op=.load ty x) {b i:Nat} (hx:a.eval x=.pointer (some ⟨b,i,none⟩))
  [hty:OneT P ty] (h:∃ v,V.Cell b i v∧∀ a',a.put o.dst v=a'→∀ w',St w0 X V L w'→wpList P ops Q rest a' w'):wpList P ops Q (o :: rest) a w:=by
 obtain ⟨v,hv,h⟩:=h
 exact wpl_vload1 hS hgd ho hx hty.ok hv (h _ rfl w hS)
theorem qvn (hS:St w0 X V L w) (hgd:Region.wanted o (yielded ops a.tmps)=true) {ty:TypeId} {x:Operand} (ho:o.op=.load ty x) {b i:Nat} (hx:a.eval x=.pointer (some ⟨b,i,none⟩))
  {n:Nat} [hty:RowT P ty n] (h:∃ vs,(V.Range b i vs∧vs.length=n)∧∀ a',a.put o.dst (.agg vs.toArray)=a'→∀ w',St w0 X V L w'→wpList P ops Q rest a' w'):wpList P ops Q (o :: rest) a w:=by
 obtain ⟨vs,hv,h⟩:=h
 exact wpl_vloadn hS hgd ho hx hty.ok hv.1 hv.2 (h _ rfl w hS)
theorem qs1 (hS:St w0 X V L w) (hgd:Region.wanted o (yielded ops a.tmps)=true) {ty:TypeId} {x y:Operand} (ho:o.op=.store ty x y) {b i:Nat} (hx:a.eval x=.pointer (some ⟨b,i,none⟩))
  {j:Nat} {t:TypeId} {cs:List Value} [hj:Hs L b j t cs] [hty:OneT P ty] (h:∃ v,(evalL a y=some v∧v.oneCell'=true∧i < cs.length)∧∀ a',a.put o.dst undef=a'→∀ w',St w0 X V (L.set j (.blk b t (cs.set i v))) w'→wpList P ops Q rest a' w'):wpList P ops Q (o :: rest) a w:=by
 obtain ⟨v,⟨hy,h1,h2⟩,h⟩:=h
 exact wpl_store1 hS hgd ho j hx hj.ok (evalL_ok hy) h1 hty.ok h2 rfl fun w' hw=>h _ rfl w' hw
theorem qsn (hS:St w0 X V L w) (hgd:Region.wanted o (yielded ops a.tmps)=true) {ty:TypeId} {x y:Operand} (ho:o.op=.store ty x y) {b i:Nat} (hx:a.eval x=.pointer (some ⟨b,i,none⟩))
  {j n:Nat} {t:TypeId} {cs:List Value} [hj:Hs L b j t cs] [hty:RowT P ty n] (h:∃ vs:List Value,(evalL a y=some (.agg vs.toArray)∧(∀ v∈vs,v.oneCell'=true)∧vs.length=n∧i+n≤cs.length)∧∀ a',a.put o.dst undef=a' →
   ∀ w',St w0 X V (L.set j (.blk b t (splice cs i vs))) w'→wpList P ops Q rest a' w'):wpList P ops Q (o :: rest) a w:=by
 obtain ⟨vs,⟨hy,h1,h2,h3⟩,h⟩:=h
 exact wpl_storen hS hgd ho j hx hj.ok (evalL_ok hy) h1 hty.ok h2 h3 rfl fun w' hw=>h _ rfl w' hw
theorem qsall (hS:St w0 X V L w) (hgd:Region.wanted o (yielded ops a.tmps)=true) {ty:TypeId} {x y:Operand} (ho:o.op=.store ty x y) {b:Nat} (hx:a.eval x=.pointer (some ⟨b,0,none⟩))
  {j n:Nat} {t:TypeId} {cs:List Value} [hj:Hs L b j t cs] [hty:RowT P ty n] (h:∃ vs:List Value,(evalL a y=some (.agg vs.toArray)∧(∀ v∈vs,v.oneCell'=true)∧vs.length=n∧cs.length=n)∧∀ a',a.put o.dst undef=a' →
   ∀ w',St w0 X V (L.set j (.blk b t vs)) w'→wpList P ops Q rest a' w'):wpList P ops Q (o :: rest) a w:=by
 obtain ⟨vs,⟨hy,h1,h2,h3⟩,h⟩:=h
 exact wpl_storeall hS hgd ho j hx hj.ok (evalL_ok hy) h1 hty.ok h2 h3 rfl fun w' hw=>h _ rfl w' hw
theorem qbox (hS:St w0 X V L w) (hgd:Region.wanted o (yielded ops a.tmps)=true) {ty:TypeId} {x:Operand} (ho:o.op=.box ty x) {v:Value} (hx:evalL a x=some v)
  (h:∃ cs:List Value,v.cells=cs.toArray∧∀ b a',a.put o.dst (.pointer (some ⟨b,0,none⟩))=a'→∀ w',St w0 X V (.blk b ty cs :: L) w'→wpList P ops Q rest a' w'):wpList P ops Q (o :: rest) a w:=by
 obtain ⟨cs,hc,h⟩:=h
 exact wpl_box hS hgd ho (evalL_ok hx) hc fun b w' hw=>h b _ rfl w' hw
theorem qalloc (hS:St w0 X V L w) (hgd:Region.wanted o (yielded ops a.tmps)=true) {ty:TypeId} (ho:o.op=.alloc ty) {cs:List Value} [hz:ZeroT P ty cs]
  (h:∀ b a',a.put o.dst (.pointer (some ⟨b,0,none⟩))=a'→∀ w',St w0 X V (.blk b ty cs :: L) w'→wpList P ops Q rest a' w'):wpList P ops Q (o :: rest) a w :=
 wpl_alloc hS hgd ho hz.has hz.ok fun b w' hw=>h b _ rfl w' hw
theorem qbsl (hS:St w0 X V L w) (hgd:Region.wanted o (yielded ops a.tmps)=true) {t e:TypeId} {len:Nat} {parts:List (Nat × Operand)} (ho:o.op=.buildSlice t len parts.toArray) [ht:SlT P t e]
  (h:∃ vs,Parts a 0 parts vs∧(vs.length=len∧len≤100∧∀ v∈vs,v.oneCell'=true)∧∀ b a',a.put o.dst (.slice (some ⟨b,0,none⟩) len len)=a'→∀ w',St w0 X V (.blk b e vs :: L) w'→wpList P ops Q rest a' w'):wpList P ops Q (o :: rest) a w:=by
 obtain ⟨vs,hp,hc,h⟩:=h
 exact wpl_bslice hS hgd ho (by simpa using parts_ok hp) hc.1 hc.2.1 hc.2.2 ht.ok fun b w' hw=>h b _ rfl w' hw
theorem qboxd (d:Nat) (_hd:o.dst=some d) (hS:St w0 X V L w) (hgd:Region.wanted o (yielded ops a.tmps)=true) {ty:TypeId} {x:Operand} (ho:o.op=.box ty x) {v:Value} (hx:evalL a x=some v)
  (h:∃ cs:List Value,v.cells=cs.toArray∧∀ b a',a.put o.dst (.pointer (some ⟨b,0,none⟩))=a'→∀ w',St w0 X V (.blk b ty cs :: L) w'→wpList P ops Q rest a' w'):wpList P ops Q (o :: rest) a w :=
 qbox hS hgd ho hx h
theorem qallocd (d:Nat) (_hd:o.dst=some d) (hS:St w0 X V L w) (hgd:Region.wanted o (yielded ops a.tmps)=true) {ty:TypeId} (ho:o.op=.alloc ty) {cs:List Value} [hz:ZeroT P ty cs]
  (h:∀ b a',a.put o.dst (.pointer (some ⟨b,0,none⟩))=a'→∀ w',St w0 X V (.blk b ty cs :: L) w'→wpList P ops Q rest a' w'):wpList P ops Q (o :: rest) a w :=
 qalloc hS hgd ho h
theorem qbsld (d:Nat) (_hd:o.dst=some d) (hS:St w0 X V L w) (hgd:Region.wanted o (yielded ops a.tmps)=true) {t e:TypeId} {len:Nat} {parts:List (Nat × Operand)} (ho:o.op=.buildSlice t len parts.toArray) [ht:SlT P t e]
  (h:∃ vs,Parts a 0 parts vs∧(vs.length=len∧len≤100∧∀ v∈vs,v.oneCell'=true)∧∀ b a',a.put o.dst (.slice (some ⟨b,0,none⟩) len len)=a'→∀ w',St w0 X V (.blk b e vs :: L) w'→wpList P ops Q rest a' w'):wpList P ops Q (o :: rest) a w :=
 qbsl hS hgd ho h
end
section
variable {w0:World} {X:List Nat} {V:View} {L:List Ent} {w:World}
variable {ops:Array Oper} {rest:List Oper} {o:Oper} {a:Act} {Q:Exit→Act→World→Prop}
end
section
variable {w0:World} {X:List Nat} {V:View} {L:List Ent}
variable {o:Oper} {a:Act} {K:Act→Prop}
theorem quiet_l1 {ty:TypeId} {x:Operand} (ho:o.op=.load ty x) {b i:Nat} (hx:a.eval x=.pointer (some ⟨b,i,none⟩)) {j:Nat} {t:TypeId} {cs:List Value} [hj:Hs L b j t cs] [hty:OneT P ty]
  (h:∃ v,cs[i]? = some v∧∀ a',a.put o.dst v=a'→K a'):o.quiet P a (St w0 X V L) K:=by
 obtain ⟨v,hv,h⟩:=h
 exact quiet_load1 ho j hx hj.ok hty.ok hv (h _ rfl)
theorem quiet_ln {ty:TypeId} {x:Operand} (ho:o.op=.load ty x) {b i:Nat} (hx:a.eval x=.pointer (some ⟨b,i,none⟩)) {j n:Nat} {t:TypeId} {cs:List Value} [hj:Hs L b j t cs] [hty:RowT P ty n]
  (h:∃ vs,PartOf cs i n vs∧∀ a',a.put o.dst (.agg vs.toArray)=a'→K a'):o.quiet P a (St w0 X V L) K:=by
 obtain ⟨vs,hv,h⟩:=h
 exact quiet_loadn ho j hx hj.ok hty.ok hv.part hv.len (h _ rfl)
theorem quiet_v1 {ty:TypeId} {x:Operand} (ho:o.op=.load ty x) {b i:Nat} (hx:a.eval x=.pointer (some ⟨b,i,none⟩)) [hty:OneT P ty]
  (h:∃ v,V.Cell b i v∧∀ a',a.put o.dst v=a'→K a'):o.quiet P a (St w0 X V L) K:=by
 obtain ⟨v,hv,h⟩:=h
 exact quiet_vload1 ho hx hty.ok hv (h _ rfl)
theorem quiet_vn {ty:TypeId} {x:Operand} (ho:o.op=.load ty x) {b i:Nat} (hx:a.eval x=.pointer (some ⟨b,i,none⟩)) {n:Nat} [hty:RowT P ty n]
  (h:∃ vs,(V.Range b i vs∧vs.length=n)∧∀ a',a.put o.dst (.agg vs.toArray)=a'→K a'):o.quiet P a (St w0 X V L) K:=by
 obtain ⟨vs,hv,h⟩:=h
 exact quiet_vloadn ho hx hty.ok hv.1 hv.2 (h _ rfl)
theorem quiet_mv {C:World→Prop} {x:Operand} {v:Value} (ho:o.op=.move x) (hx:evalL a x=some v) (h:∀ a',a.put o.dst v=a'→K a'):o.quiet P a C K :=
 quiet_value (fun w _=>by have:=evalL_ok hx;exact this ▸ BigFrame.run_move x ho w) (h _ rfl)
theorem quiet_pure {C:World→Prop} (h:∃ v,(∀ w,(execOp a.eval o).run P w=.ok (.value v) w)∧∀ a',a.put o.dst v=a'→K a'):o.quiet P a C K:=by
 obtain ⟨v,hr,h⟩:=h
 exact quiet_value (fun w _=>hr w) (h _ rfl)
theorem quiet_con (h:∃ f args,(∀ w,(execOp a.eval o).run P w=.ok (.enter f args) w)∧∃ v,(∀ w,St w0 X V L w→Calls P f args w fun e w'=>e=.returned v∧Kp w w')∧∀ a',a.put o.dst v=a'→K a'):o.quiet P a (St w0 X V L) K:=by
 obtain ⟨f,args,hr,v,hc,h⟩:=h
 exact quiet_enter (fun w _=>hr w) (fun w hS=>calls_kp hS (hc w hS)) (h _ rfl)
end
section
variable {w0:World} {X:List Nat} {V:View} {L:List Ent} {w:World}
theorem rs_tmp {tmps:Array Value} {t:Tmp} {v:Value} (h:tmps.toList[t]? = some v):(resSem tmps (.tmp t)).run P w=.ok v w:=by
 have h':tmps[t]? = some v:=by simpa using h
 exact res_tmp (by simp [h'])
theorem rs_1 (hS:St w0 X V L w) {tmps:Array Value} {t:Tmp} {ty:TypeId} {b i:Nat} (hx:tmps.getD t undef=.pointer (some ⟨b,i,none⟩)) {j:Nat} {t':TypeId} {cs:List Value} [hj:Hs L b j t' cs]
  [hty:OneT P ty] {v:Value} (hv:cs[i]? = some v):(resSem tmps (.cell t ty)).run P w=.ok v w:=res_cell1 hS j hx hj.ok hty.ok hv
theorem rs_n (hS:St w0 X V L w) {tmps:Array Value} {t:Tmp} {ty:TypeId} {b i:Nat} (hx:tmps.getD t undef=.pointer (some ⟨b,i,none⟩)) {j n:Nat} {t':TypeId} {cs:List Value} [hj:Hs L b j t' cs]
  [hty:RowT P ty n] {vs:List Value} (hv:PartOf cs i n vs):(resSem tmps (.cell t ty)).run P w=.ok (.agg vs.toArray) w:=res_celln hS j hx hj.ok hty.ok hv.part hv.len
theorem ret_by {fn:Func} {R:Ending→World→Prop} {a:Act} (h:∃ v,(results fn a.tmps).run P w=.ok v w∧R (.returned v) w) (hd:a.defers=[]):bodyPost P fn R .ret a w:=by
 obtain ⟨v,hr,hR⟩:=h
 exact bodyPost_ret hr hd hR
theorem calls_by {f:FuncId} {args:Array Value} {R:Ending→World→Prop} (hS:St w0 X V L w) (h:∃ v,(Calls P f args w fun e w'=>e=.returned v∧Kp w w')∧∀ w',St w0 X V L w'→R (.returned v) w'):Calls P f args w R:=by
 obtain ⟨v,hc,h⟩:=h
 exact calls_go hS hc h
end
theorem fr:(∀ (t:Array Value) (d:List Deferred) (i:Nat) (v:Value),(⟨t,d⟩:Act).put (some i) v=⟨t.setIfInBounds i v,d⟩)∧(∀ (a:Act) (v:Value),a.put none v=a) ∧
  (∀ (l:List Value) (i:Nat) (v:Value),l.toArray.setIfInBounds i v=(l.set i v).toArray)∧(∀ (x:Value) (l:List Value) (i:Nat) (v:Value),(x :: l).set (i+1) v=x :: l.set i v) ∧
  (∀ (x:Value) (l:List Value) (v:Value),(x :: l).set 0 v=v :: l) :=
 ⟨fun _ _ _ _=>rfl,fun _ _=>rfl,fun l i v=>by simp,fun _ _ _ _=>rfl,fun _ _ _=>rfl⟩
theorem sE:(∀ (x:Ent) (l:List Ent) (i:Nat) (v:Ent),(x :: l).set (i+1) v=x :: l.set i v)∧(∀ (x:Ent) (l:List Ent) (v:Ent),(x :: l).set 0 v=v :: l) ∧
  (∀ (x:Value) (l:List Value) (i:Nat) (v:Value),(x :: l).set (i+1) v=x :: l.set i v)∧(∀ (x:Value) (l:List Value) (v:Value),(x :: l).set 0 v=v :: l) :=
 ⟨fun _ _ _ _=>rfl,fun _ _ _=>rfl,fun _ _ _ _=>rfl,fun _ _ _=>rfl⟩
theorem lV:(∀ (l:List Value) (i:Nat) (v:Value),(l.set i v).length=l.length)∧(∀ (l r:List Value),(l ++ r).length=l.length+r.length)∧(∀ (n:Nat) (v:Value),(List.replicate n v).length=n) ∧
  (∀ (x:Value) (l:List Value),(x :: l).length=l.length+1)∧(([]:List Value).length=0) :=
 ⟨fun _ _ _=>by simp,fun _ _=>by simp,fun _ _=>by simp,fun _ _=>rfl,rfl⟩
theorem oN:∀ v∈([]:List Value),v.oneCell'=true:=by simp
theorem oC {x:Value} {l:List Value} (hx:x.oneCell'=true) (h:∀ v∈l,v.oneCell'=true):∀ v∈x :: l,v.oneCell'=true:=by
 intro v hv
 rcases List.mem_cons.1 hv with rfl | hv
 ·exact hx
 ·exact h v hv
section
variable {w0:World} {X:List Nat} {V:View} {L:List Ent} {w:World}
variable {ops:Array Oper} {rest:List Oper} {a:Act} {Q:Exit→Act→World→Prop} {d:Option Tmp} {t:TypeId} {p:String} {af:Array Edge} {g:Option (Nat × Bool)}
theorem gL {ty:TypeId} {x:Operand} (h:wpList P ops Q (⟨d,.load ty x,t,p,af,g⟩ :: rest) a w):wpList P ops Q (⟨d,.load ty x,t,p,af,g⟩ :: rest) a w:=h
theorem gS {ty:TypeId} {x y:Operand} (h:wpList P ops Q (⟨d,.store ty x y,t,p,af,g⟩ :: rest) a w):wpList P ops Q (⟨d,.store ty x y,t,p,af,g⟩ :: rest) a w:=h
theorem gA {ty:TypeId} (h:wpList P ops Q (⟨d,.alloc ty,t,p,af,g⟩ :: rest) a w):wpList P ops Q (⟨d,.alloc ty,t,p,af,g⟩ :: rest) a w:=h
theorem gB {ty:TypeId} {x:Operand} (h:wpList P ops Q (⟨d,.box ty x,t,p,af,g⟩ :: rest) a w):wpList P ops Q (⟨d,.box ty x,t,p,af,g⟩ :: rest) a w:=h
theorem gSl {ty:TypeId} {n:Nat} {ps:Array (Nat × Operand)} (h:wpList P ops Q (⟨d,.buildSlice ty n ps,t,p,af,g⟩ :: rest) a w):wpList P ops Q (⟨d,.buildSlice ty n ps,t,p,af,g⟩ :: rest) a w:=h
theorem gAp {xs:Array Operand} {ts:Array TypeId} (h:wpList P ops Q (⟨d,.call ⟨.builtin .append,xs,ts⟩,t,p,af,g⟩ :: rest) a w):wpList P ops Q (⟨d,.call ⟨.builtin .append,xs,ts⟩,t,p,af,g⟩ :: rest) a w:=h
theorem gC {f:FuncId} {xs:Array Value} {R:Ending→World→Prop} (h:Calls P f xs w R):Calls P f xs w R:=h
variable {C:World→Prop} {K:Act→Prop}
theorem gqL {ty:TypeId} {x:Operand} (h:(⟨d,.load ty x,t,p,af,g⟩:Oper).quiet P a C K):(⟨d,.load ty x,t,p,af,g⟩:Oper).quiet P a C K:=h
theorem gqM {x:Operand} (h:(⟨d,.move x,t,p,af,g⟩:Oper).quiet P a C K):(⟨d,.move x,t,p,af,g⟩:Oper).quiet P a C K:=h
theorem gqV {x:Operand} {xs:Array Operand} {ts:Array TypeId} (h:(⟨d,.call ⟨.value x,xs,ts⟩,t,p,af,g⟩:Oper).quiet P a C K):(⟨d,.call ⟨.value x,xs,ts⟩,t,p,af,g⟩:Oper).quiet P a C K:=h
end
theorem gE {a:Act} {x:Operand} {v:Value} (h:evalL a x=some v):evalL a x=some v:=h
theorem gO {v:Value} (h:v.oneCell'=true):v.oneCell'=true:=h
theorem gI {cs:List Value} {i:Nat} {v:Value} (h:cs[i]? = some v):cs[i]? = some v:=h
theorem gP {cs vs:List Value} {i n:Nat} (h:PartOf cs i n vs):PartOf cs i n vs:=h
theorem gN {cs:List Value} {n:Nat} (h:cs.length=n):cs.length=n:=h
theorem gV {vs:List Value} (h:∀ v∈vs,v.oneCell'=true):∀ v∈vs,v.oneCell'=true:=h
theorem zd {p:Prop} (h:p:=by ((repeat' (apply And.intro)) <;> (first | ((with_reducible apply gE);exact rfl) | ((with_reducible apply gO);first | exact rfl | assumption) | ((with_reducible apply gI);first | assumption | exact rfl | (simp only [lV,limC_len,losC_len,Nat.reduceAdd,Nat.reduceMul, *];done)) | ((with_reducible apply gP);first | exact PartOf.mk (by assumption) (by (first | assumption | (simp only [lV,limC_len,losC_len,Nat.reduceAdd,Nat.reduceMul, *];done) | rfl | omega)) | exact part_all (by (first | assumption | (simp only [lV,limC_len,losC_len,Nat.reduceAdd,Nat.reduceMul, *];done) | rfl | omega)) | exact part_lit (by repeat (first | exact Go.Mm.Lit.nil | apply Go.Mm.Lit.take | apply Go.Mm.Lit.drop))) | ((with_reducible apply gN);(first | assumption | (simp only [lV,limC_len,losC_len,Nat.reduceAdd,Nat.reduceMul, *];done) | rfl | omega)) | ((with_reducible apply gV);first | assumption | exact rdgC_one _ | exact vesC_one _ | exact Rdg.one _ | exact Ves.one _ | exact limC_one _ | exact stC_one _ | (repeat (first | exact oN | refine oC rfl ?_))) | assumption | omega | exact ints_hit (by assumption) | exact nowS_wf _ _ | exact SS.WF.setLos (by assumption) | exact SS.WF.weighed (by assumption) _ _ | (simp only [lV,limC_len,losC_len,Nat.reduceAdd,Nat.reduceMul, *];omega) | exact rfl | (simp only [lV,limC_len,losC_len,Nat.reduceAdd,Nat.reduceMul, *];done)))):p:=h
theorem zp {p:Prop} (h:p:=by (intro _;go_simp;(try simp (disch:=omega) only [IntWalk.i64_in,IntWalk.u64_in,IntWalk.u8_in]);first | done | rfl | exact ⟨rfl,rfl⟩)):p:=h
theorem zc {p:Prop} (h:p:=by (first | assumption | exact rfl | omega | exact nowS_wf _ _ | exact SS.WF.setLos (by assumption) | exact SS.WF.weighed (by assumption) _ _ | exact Rdg.one _ | exact Ves.one _ | exact limC_one _ | exact stC_one _ | (simp only [lV,limC_len,losC_len,Nat.reduceAdd,Nat.reduceMul, *];done) | (simp only [lV,limC_len,losC_len,Nat.reduceAdd,Nat.reduceMul, *];omega))):p:=h
theorem zo {p:Prop} (h:p:=by (go_simp;first | done | rfl | exact ⟨rfl,rfl⟩)):p:=h
theorem zq {p:Prop} (h:p:=by repeat (first | exact Parts.nil | (apply Parts.cons;exact rfl))):p:=h
theorem za {p:Prop} (h:p:=by first | exact rfl | assumption):p:=h
end Go.Mm
namespace Go.Mm
open Go Go.Proofs
instance:OneT Tryd.prog 1:=⟨by kernel_rfl⟩
instance:OneT Tryd.prog 2:=⟨by kernel_rfl⟩
instance:OneT Tryd.prog 3:=⟨by kernel_rfl⟩
instance:OneT Tryd.prog 4:=⟨by kernel_rfl⟩
instance:OneT Tryd.prog 22:=⟨by kernel_rfl⟩
instance:OneT Tryd.prog 23:=⟨by kernel_rfl⟩
instance:RowT Tryd.prog 25 2:=⟨by kernel_rfl⟩
instance:RowT Tryd.prog 27 2:=⟨by kernel_rfl⟩
instance:RowT Tryd.prog 29 4:=⟨by kernel_rfl⟩
instance:OneT Tryd.prog 30:=⟨by kernel_rfl⟩
instance:OneT Tryd.prog 38:=⟨by kernel_rfl⟩
instance:RowT Tryd.prog 59 4:=⟨by kernel_rfl⟩
instance:OneT Tryd.prog 82:=⟨by kernel_rfl⟩
instance:OneT Tryd.prog 87:=⟨by kernel_rfl⟩
instance:OneT Tryd.prog 88:=⟨by kernel_rfl⟩
instance:RowT Tryd.prog 90 3:=⟨by kernel_rfl⟩
instance:OneT Tryd.prog 95:=⟨by kernel_rfl⟩
instance:RowT Tryd.prog 96 6:=⟨by kernel_rfl⟩
instance:RowT Tryd.prog 98 12:=⟨by kernel_rfl⟩
instance:RowT Tryd.prog 100 18:=⟨by kernel_rfl⟩
instance:RowT Tryd.prog 104 2:=⟨by kernel_rfl⟩
instance:OneT Tryd.prog 110:=⟨by kernel_rfl⟩
instance:RowT Tryd.prog 112 3:=⟨by kernel_rfl⟩
instance:OneT Tryd.prog 124:=⟨by kernel_rfl⟩
instance:RowT Tryd.prog 129 6:=⟨by kernel_rfl⟩
instance:OneT Tryd.prog 142:=⟨by kernel_rfl⟩
instance:RowT Tryd.prog 152 1:=⟨by kernel_rfl⟩
instance:OneT Tryd.prog 155:=⟨by kernel_rfl⟩
instance:OneT Tryd.prog 159:=⟨by kernel_rfl⟩
instance:OneT Tryd.prog 163:=⟨by kernel_rfl⟩
instance:OneT Tryd.prog 165:=⟨by kernel_rfl⟩
instance:RowT Tryd.prog 170 84:=⟨by kernel_rfl⟩
instance:RowT Tryd.prog 176 3:=⟨by kernel_rfl⟩
instance:OneT Tryd.prog 179:=⟨by kernel_rfl⟩
instance:ZeroT Tryd.prog 25 ([.slice none 0 0,.slice none 0 0]):=⟨by kernel_rfl,by kernel_rfl⟩
instance:ZeroT Tryd.prog 27 (List.replicate 2 (.int .i64 0)):=⟨by kernel_rfl,by kernel_rfl⟩
instance:ZeroT Tryd.prog 29 ([.int .i64 0,.int .i64 0,.int .i64 0,.int .i64 0]):=⟨by kernel_rfl,by kernel_rfl⟩
instance:ZeroT Tryd.prog 38 ([.int .i64 0]):=⟨by kernel_rfl,by kernel_rfl⟩
instance:ZeroT Tryd.prog 59 ([.int .i64 0,.int .i64 0,.int .i64 0,.int .i64 0]):=⟨by kernel_rfl,by kernel_rfl⟩
instance:ZeroT Tryd.prog 82 ([.slice none 0 0]):=⟨by kernel_rfl,by kernel_rfl⟩
instance:ZeroT Tryd.prog 96 (List.replicate 6 (.int .u64 0)):=⟨by kernel_rfl,by kernel_rfl⟩
instance:ZeroT Tryd.prog 98 (List.replicate 12 (.int .i64 0)):=⟨by kernel_rfl,by kernel_rfl⟩
instance:ZeroT Tryd.prog 100 (List.replicate 6 (.int .u64 0) ++ List.replicate 12 (.int .i64 0)):=⟨by kernel_rfl,by kernel_rfl⟩
instance:ZeroT Tryd.prog 104 ([.slice none 0 0,.slice none 0 0]):=⟨by kernel_rfl,by kernel_rfl⟩
instance:ZeroT Tryd.prog 124 ([.pointer none]):=⟨by kernel_rfl,by kernel_rfl⟩
instance:ZeroT Tryd.prog 142 ([.int .u8 0]):=⟨by kernel_rfl,by kernel_rfl⟩
instance:ZeroT Tryd.prog 152 ([.int .i64 0]):=⟨by kernel_rfl,by kernel_rfl⟩
instance:ZeroT Tryd.prog 163 ([.nilFunc]):=⟨by kernel_rfl,by kernel_rfl⟩
instance:ZeroT Tryd.prog 165 ([.chan none]):=⟨by kernel_rfl,by kernel_rfl⟩
instance:ZeroT Tryd.prog 176 ([.pointer none,.pointer none,.int .u64 0]):=⟨by kernel_rfl,by kernel_rfl⟩
instance:SlT Tryd.prog 30 3:=⟨by kernel_rfl⟩
instance:SlT Tryd.prog 74 30:=⟨by kernel_rfl⟩
instance:SlT Tryd.prog 110 124:=⟨by kernel_rfl⟩
instance:SlT Tryd.prog 143 142:=⟨by kernel_rfl⟩
instance:SlT Tryd.prog 161 38:=⟨by kernel_rfl⟩
instance:ApT Tryd.prog 22 29 4:=⟨by kernel_rfl⟩
instance:ApT Tryd.prog 23 59 4:=⟨by kernel_rfl⟩
instance:ApT Tryd.prog 30 3 1:=⟨by kernel_rfl⟩
instance:ApT Tryd.prog 74 30 1:=⟨by kernel_rfl⟩
instance:ApT Tryd.prog 110 124 1:=⟨by kernel_rfl⟩
end Go.Mm
namespace Go.Wg
open Go
structure SS where
 lim:List Nat
 los:List (Int × Int)
structure SS.WF (s:SS):Prop where
 lim:s.lim.length=6
 los:s.los.length=6
 small:∀ m∈s.lim,m < 2199023255552
def limC (l:List Nat):List Value:=l.map fun m:Nat=>.int .u64 (m:Int)
def losC (l:List (Int × Int)):List Value:=l.flatMap fun p=>[.int .i64 p.1,.int .i64 p.2]
def stC (s:SS):List Value:=limC s.lim ++ losC s.los
def SS.limAt (s:SS) (i:Nat):Nat:=s.lim.getD i 0
def SS.losAt (s:SS) (i:Nat):Int × Int:=s.los.getD i (0,0)
def SS.setLim (s:SS) (i m:Nat):SS:={ s with lim:=s.lim.set i m }
def SS.setLos (s:SS) (i:Nat) (p:Int × Int):SS:={ s with los:=s.los.set i p }
theorem limC_len (l:List Nat):(limC l).length=l.length:=by simp [limC]
theorem losC_len (l:List (Int × Int)):(losC l).length=l.length * 2:=by
 induction l with
 | nil=>rfl
 | cons p l ih=>simp [losC] at ih ⊢;omega
theorem stC_len {s:SS} (h:s.WF):(stC s).length=18:=by simp [stC,limC_len,losC_len,h.lim,h.los]
theorem losC_get (l:List (Int × Int)) (i:Nat) (h:i < l.length):(losC l)[i * 2]? = some (.int .i64 (l.getD i (0,0)).1)∧(losC l)[i * 2+1]? = some (.int .i64 (l.getD i (0,0)).2):=by
 induction l generalizing i with
 | nil=>simp at h
 | cons p l ih =>
  cases i with
  | zero=>simp [losC]
  | succ i =>
   have:=ih i (by simpa using h)
   simp only [losC,List.flatMap_cons,List.cons_append,List.nil_append] at this ⊢
   rw [show (i+1) * 2=i * 2+1+1 by omega]
   simpa using this
theorem stC_lim {s:SS} (h:s.WF) {i:Nat} (hi:i < 6):(stC s)[i]? = some (.int .u64 (s.limAt i:Int)):=by
 have h1:=h.lim
 unfold stC SS.limAt
 rw [List.getElem?_append_left (by simp [limC_len,h1,hi])]
 simp [limC,List.getElem?_map,List.getElem?_eq_getElem (show i < s.lim.length by omega)]
theorem stC_lo {s:SS} (h:s.WF) {i:Nat} (hi:i < 6):(stC s)[6+i * 2]? = some (.int .i64 (s.losAt i).1):=by
 have h1:=h.lim
 unfold stC SS.losAt
 rw [List.getElem?_append_right (by simp [limC_len,h1])]
 simp only [limC_len,h1,Nat.add_sub_cancel_left]
 exact (losC_get s.los i (by have:=h.los;omega)).1
theorem stC_hi {s:SS} (h:s.WF) {i:Nat} (hi:i < 6):(stC s)[6+i * 2+1]? = some (.int .i64 (s.losAt i).2):=by
 have h1:=h.lim
 unfold stC SS.losAt
 rw [List.getElem?_append_right (by simp [limC_len,h1];omega)]
 simp only [limC_len,h1,show 6+i * 2+1 - 6=i * 2+1 by omega]
 exact (losC_get s.los i (by have:=h.los;omega)).2
theorem limC_set (l:List Nat) (i m:Nat):(limC l).set i (.int .u64 (m:Int))=limC (l.set i m):=by simp [limC]
theorem losC_setlo (l:List (Int × Int)) (i:Nat) (x:Int) (h:i < l.length):(losC l).set (i * 2) (.int .i64 x)=losC (l.set i (x,(l.getD i (0,0)).2)):=by
 induction l generalizing i with
 | nil=>simp at h
 | cons p l ih =>
  cases i with
  | zero=>simp [losC]
  | succ i =>
   have:=ih i (by simpa using h)
   simp only [losC,List.flatMap_cons,List.cons_append,List.nil_append] at this ⊢
   rw [show (i+1) * 2=i * 2+1+1 by omega]
   simpa using this
theorem losC_sethi (l:List (Int × Int)) (i:Nat) (x:Int) (h:i < l.length):(losC l).set (i * 2+1) (.int .i64 x)=losC (l.set i ((l.getD i (0,0)).1,x)):=by
 induction l generalizing i with
 | nil=>simp at h
 | cons p l ih =>
  cases i with
  | zero=>simp [losC]
  | succ i =>
   have:=ih i (by simpa using h)
   simp only [losC,List.flatMap_cons,List.cons_append,List.nil_append] at this ⊢
   rw [show (i+1) * 2=i * 2+1+1 by omega]
   simpa using this
theorem stC_setlim {s:SS} (h:s.WF) {i:Nat} (hi:i < 6) (m:Nat):(stC s).set i (.int .u64 (m:Int))=stC (s.setLim i m):=by
 have h1:=h.lim
 unfold stC SS.setLim
 rw [List.set_append_left _ _ (by simp [limC_len,h1,hi]),limC_set]
theorem stC_setlo {s:SS} (h:s.WF) {i:Nat} (hi:i < 6) (x:Int):(stC s).set (6+i * 2) (.int .i64 x)=stC (s.setLos i (x,(s.losAt i).2)):=by
 have h1:=h.lim
 unfold stC SS.setLos SS.losAt
 rw [List.set_append_right _ _ (by simp [limC_len,h1])]
 simp only [limC_len,h1,Nat.add_sub_cancel_left]
 rw [losC_setlo _ _ _ (by have:=h.los;omega)]
theorem stC_sethi {s:SS} (h:s.WF) {i:Nat} (hi:i < 6) (x:Int):(stC s).set (6+i * 2+1) (.int .i64 x)=stC (s.setLos i ((s.losAt i).1,x)):=by
 have h1:=h.lim
 unfold stC SS.setLos SS.losAt
 rw [List.set_append_right _ _ (by simp [limC_len,h1];omega)]
 simp only [limC_len,h1,show 6+i * 2+1 - 6=i * 2+1 by omega]
 rw [losC_sethi _ _ _ (by have:=h.los;omega)]
theorem SS.WF.setLim {s:SS} (h:s.WF) {i m:Nat} (hm:m < 2199023255552):(s.setLim i m).WF :=
 ⟨by simp [SS.setLim,h.lim],h.los,fun x hx=>by
  rcases List.mem_or_eq_of_mem_set hx with hx | rfl
  ·exact h.small x hx
  ·exact hm⟩
theorem SS.WF.setLos {s:SS} (h:s.WF) {i:Nat} {p:Int × Int}:(s.setLos i p).WF:=⟨h.lim,by simp [SS.setLos,h.los],h.small⟩
theorem SS.WF.limAt_lt {s:SS} (h:s.WF) (i:Nat):s.limAt i < 2199023255552:=by
 unfold SS.limAt
 rw [List.getD_eq_getElem?_getD]
 cases hi:s.lim[i]? with
 | none=>decide
 | some m=>exact h.small m (List.mem_of_getElem? hi)
theorem stC_one (s:SS):∀ v∈stC s,v.oneCell'=true:=by
 intro v hv
 unfold stC limC losC at hv
 rcases List.mem_append.1 hv with h | h
 ·obtain ⟨m,_,rfl⟩:=List.mem_map.1 h;rfl
 ·obtain ⟨p,_,h⟩:=List.mem_flatMap.1 h
  rcases List.mem_cons.1 h with rfl | h
  ·rfl
  ·rcases List.mem_cons.1 h with rfl | h
   ·rfl
   ·cases h
theorem limC_one (l:List Nat):∀ v∈limC l,v.oneCell'=true:=by
 intro v hv
 obtain ⟨m,_,rfl⟩:=List.mem_map.1 hv;rfl
def SS.weighed (s:SS) (i:Nat) (n:Int):SS:=s.setLim i (s.limAt i &&& spanB n n)
theorem SS.WF.weighed {s:SS} (h:s.WF) (i:Nat) (n:Int):(s.weighed i n).WF:=h.setLim (Nat.lt_of_le_of_lt Nat.and_le_left (h.limAt_lt i))
end Go.Wg
namespace Go.Wg
open Go Go.Mm
structure Ves where
 from_:Int
 room:Int
 lo:Int
 hi:Int
 deriving DecidableEq,Inhabited
structure Rdg where
 vessel:Int
 scale:Int
 shown:Int
 err:Int
 deriving DecidableEq,Inhabited
structure Wk where
 ves:List Ves
 rdg:List Rdg
 deriving DecidableEq
def Ves.cells (v:Ves):List Value:=[.int .i64 v.from_,.int .i64 v.room,.int .i64 v.lo,.int .i64 v.hi]
def Rdg.cells (r:Rdg):List Value:=[.int .i64 r.vessel,.int .i64 r.scale,.int .i64 r.shown,.int .i64 r.err]
def Wk.n (k:Wk):Nat:=k.ves.length
def Wk.v (k:Wk) (i:Nat):Ves:=k.ves.getD i default
def Wk.fills (k:Wk) (i:Nat):List Nat:=(List.range k.n).filter fun j=>(k.v j).from_ == (i:Int)
structure VSl (V:View) (v:Value) (n sz:Nat) (get:Nat→List Value):Prop where
 is:∃ a cap,v=.slice a n cap∧n≤cap∧cap≤maxLen∧(0 < n→∃ g off,a=some ⟨g,off,none⟩∧∀ i,i < n→V.Range g (off+i * sz) (get i))
def ptr (b:Nat):Value:=.pointer (some ⟨b,0,none⟩)
structure Cel (V:View) (p:Nat) (k:Wk) (ts:List Nat) (vv rv:Value):Prop where
 c0:V.Cell p 0 vv
 c1:V.Cell p 1 rv
 c2:∃ g cap,V.Cell p 2 (.slice (some ⟨g,0,none⟩) k.n cap)∧∀ i,i < k.n→V.Cell g i (ptr (ts.getD i 0))
 ves:VSl V vv k.n 4 fun i=>(k.v i).cells
 rdg:VSl V rv k.rdg.length 4 fun i=>(k.rdg.getD i default).cells
 tun:∀ i,i < k.n→V.Range (ts.getD i 0) 0 ((k.v i).cells ++ [.int .i64 (i:Int)])
 fil:∀ i,i < k.n→∃ v,V.Cell (ts.getD i 0) 5 v∧VSl V v (k.fills i).length 1 fun j=>[ptr (ts.getD ((k.fills i).getD j 0) 0)]
 pos:0 < k.n
 le:k.n≤6
def Cellar (V:View) (p:Nat) (k:Wk):Prop:=∃ ts vv rv,Cel V p k ts vv rv
theorem Cel.mono {V V':View} {p:Nat} {k:Wk} {ts:List Nat} {vv rv:Value} (h:Cel V p k ts vv rv) (hV:∀ i o,V i=some o→V' i=some o):Cel V' p k ts vv rv:=by
 have sl:∀ {v n sz get},VSl V v n sz get→VSl V' v n sz get:=fun ⟨a,cap,h1,h2,h3,h4⟩ =>
  ⟨a,cap,h1,h2,h3,fun hn=>by obtain ⟨g,off,h5,h6⟩:=h4 hn;exact ⟨g,off,h5,fun i hi=>(h6 i hi).mono hV⟩⟩
 refine ⟨h.c0.mono hV,h.c1.mono hV,?_,sl h.ves,sl h.rdg,fun i hi=>(h.tun i hi).mono hV,fun i hi=>?_,h.pos,h.le⟩
 ·obtain ⟨g,cap,h1,h2⟩:=h.c2
  exact ⟨g,cap,h1.mono hV,fun i hi=>(h2 i hi).mono hV⟩
 ·obtain ⟨v,h1,h2⟩:=h.fil i hi
  exact ⟨v,h1.mono hV,sl h2⟩
def sums (out:List Nat) (f:List Nat):Nat:=f.foldl (fun m x=>plusB m (out.getD x 0)) 1
def upOne (k:Wk) (s:SS) (out:List Nat) (i:Nat):Nat :=
 if k.fills i=[] then s.limAt i else s.limAt i &&& plusB (sums (out.set i (s.limAt i)) (k.fills i)) (spanB (s.losAt i).1 (s.losAt i).2)
def upAt (k:Wk) (s:SS):Nat→List Nat
 | 0=>List.replicate 6 0
 | m+1=>(upAt k s m).set (k.n - 1 - m) (upOne k s (upAt k s m) (k.n - 1 - m))
def up (k:Wk) (s:SS):List Nat:=upAt k s k.n
theorem upAt_len (k:Wk) (s:SS) (m:Nat):(upAt k s m).length=6:=by
 induction m with
 | zero=>rfl
 | succ m ih=>simp [upAt,ih]
theorem sums_lt (out f:List Nat):sums out f < 2199023255552:=by
 unfold sums
 rcases List.eq_nil_or_concat f with rfl | ⟨l,x,rfl⟩
 ·exact (by decide:(1:Nat) < 2199023255552)
 ·rw [List.concat_eq_append,List.foldl_append]
  exact plusB_lt _ _
theorem sums_take (out f:List Nat) (j:Nat) (h:j < f.length):sums out (f.take (j+1))=plusB (sums out (f.take j)) (out.getD (f.getD j 0) 0):=by
 unfold sums
 rw [List.take_succ_eq_append_getElem h,List.foldl_append]
 simp [List.getD_eq_getElem?_getD,List.getElem?_eq_getElem h]
theorem upOne_lt {k:Wk} {s:SS} (h:s.WF) (out:List Nat) (i:Nat):upOne k s out i < 2199023255552:=by
 unfold upOne
 split
 ·exact h.limAt_lt i
 ·exact Nat.lt_of_le_of_lt Nat.and_le_left (h.limAt_lt i)
theorem upAt_lt {k:Wk} {s:SS} (h:s.WF) (m x:Nat):(upAt k s m).getD x 0 < 2199023255552:=by
 induction m with
 | zero =>
  rw [List.getD_eq_getElem?_getD,upAt,List.getElem?_replicate]
  split <;> decide
 | succ m ih =>
  rw [upAt,List.getD_eq_getElem?_getD,List.getElem?_set]
  split
  ·split
   ·exact upOne_lt h _ _
   ·decide
  ·rw [← List.getD_eq_getElem?_getD];exact ih
theorem setAt_lt {l:List Nat} (h:∀ x,l.getD x 0 < 2199023255552) {m:Nat} (hm:m < 2199023255552) (i x:Nat):(l.set i m).getD x 0 < 2199023255552:=by
 rw [List.getD_eq_getElem?_getD,List.getElem?_set]
 split
 ·split
  ·exact hm
  ·decide
 ·rw [← List.getD_eq_getElem?_getD];exact h x
theorem limC_get {l:List Nat} {i:Nat} (h:i < l.length):(limC l)[i]? = some (.int .u64 (l.getD i 0:Nat)):=by
 simp [limC,List.getElem?_map,List.getElem?_eq_getElem h,List.getD_eq_getElem?_getD]
def settle (k:Wk) (s:SS):Option Nat:=(List.range k.n).reverse.find? fun i=>(up k s).getD i 0 == 0
def can (k:Wk) (s:SS):Bool:=(settle k s).isNone
def settleV (k:Wk) (s:SS):Value:=match settle k s with | none=>.nilIface | some i=>.iface 152 (.agg #[.int .i64 (i:Int)])
theorem settle_some {k:Wk} {s:SS} {i:Nat} (h:i < k.n) (h0:(up k s).getD i 0=0) (h1:∀ j,i < j→j < k.n→(up k s).getD j 0≠0):settle k s=some i:=by
 unfold settle
 have key:∀ n,i < n→(∀ j,i < j→j < n→(up k s).getD j 0≠0)→(List.range n).reverse.find? (fun i=>(up k s).getD i 0 == 0)=some i:=by
  intro n
  induction n with
  | zero=>omega
  | succ n ih =>
   intro hn hj
   rw [List.range_succ,List.reverse_append]
   simp only [List.reverse_cons,List.reverse_nil,List.nil_append,List.cons_append,List.find?_cons]
   by_cases hin:i=n
   ·subst hin
    simp only [h0,beq_self_eq_true]
   ·have hz:((up k s).getD n 0 == 0)=false:=by rw [beq_eq_false_iff_ne];exact hj n (by omega) (by omega)
    rw [hz]
    exact ih (by omega) fun j h2 h3=>hj j h2 (by omega)
 exact key k.n h h1
theorem settle_none {k:Wk} {s:SS} (h1:∀ j,j < k.n→(up k s).getD j 0≠0):settle k s=none:=by
 unfold settle
 rw [List.find?_eq_none]
 intro j hj
 have:j < k.n:=by simpa using hj
 simpa using h1 j this
end Go.Wg
namespace Go.Wg
open Go Go.Mm
def nowA (k:Wk):Nat→SS
 | 0=>⟨List.replicate 6 0,List.replicate 6 (0,0)⟩
 | i+1=>((nowA k i).setLim i (spanB 0 (k.v i).room)).setLos i ((k.v i).lo,(k.v i).hi)
def rdOne (b:Rdg→Bool) (s:SS) (r:Rdg):SS:=if b r then s else s.setLim r.vessel.toNat (s.limAt r.vessel.toNat &&& spanB (r.shown - r.err) (r.shown+r.err))
def nowS (k:Wk) (b:Rdg→Bool):SS:=k.rdg.foldl (rdOne b) (nowA k k.n)
def noneB (_:Rdg):Bool:=false
theorem nowA_wf (k:Wk) (i:Nat):(nowA k i).WF:=by
 induction i with
 | zero=>exact ⟨by simp [nowA],by simp [nowA],fun m hm=>by simp [nowA] at hm;omega⟩
 | succ i ih=>exact (ih.setLim (spanB_lt _ _)).setLos
theorem rdOne_wf {b:Rdg→Bool} {s:SS} (h:s.WF) (r:Rdg):(rdOne b s r).WF:=by
 unfold rdOne
 split
 ·exact h
 ·exact h.setLim (Nat.lt_of_le_of_lt Nat.and_le_left (h.limAt_lt _))
theorem rds_wf {b:Rdg→Bool} {s:SS} (h:s.WF) (l:List Rdg):(l.foldl (rdOne b) s).WF:=by
 induction l generalizing s with
 | nil=>exact h
 | cons r l ih=>exact ih (rdOne_wf h r)
theorem nowS_wf (k:Wk) (b:Rdg→Bool):(nowS k b).WF:=rds_wf (nowA_wf k _) _
def Rdg.Ok (n:Nat) (r:Rdg):Prop:=0≤r.vessel∧r.vessel < n∧0≤r.scale∧r.scale≤2∧0≤r.shown∧r.shown≤60∧0≤r.err∧r.err≤9
def Ves.Ok (i:Nat) (v:Ves):Prop:=-1≤v.from_∧v.from_ < i∧0≤v.room∧v.room≤40∧0≤v.lo∧v.lo≤20∧0≤v.hi∧v.hi≤20∧v.lo≤v.hi
structure Wk.Ok (k:Wk):Prop where
 pos:0 < k.n
 le:k.n≤6
 ves:∀ i,i < k.n→(k.v i).Ok i
 rdl:k.rdg.length≤6
 rdg:∀ i,i < k.rdg.length→(k.rdg.getD i default).Ok k.n
theorem splice_losC (s:SS) (h:s.WF) (i:Nat) (hi:i < 6) (x y:Int):splice (stC s) (6+i * 2) [.int .i64 x,.int .i64 y]=stC (s.setLos i (x,y)):=by
 have e1:=stC_setlo h hi x
 have h':(s.setLos i (x,(s.losAt i).2)).WF:=h.setLos
 have e2:=stC_sethi h' hi y
 rw [← e1] at e2
 have e3:(s.setLos i (x,(s.losAt i).2)).setLos i (((s.setLos i (x,(s.losAt i).2)).losAt i).1,y)=s.setLos i (x,y):=by
  have hl:i < s.los.length:=by rw [h.los];exact hi
  simp [SS.setLos,SS.losAt,hl]
 rw [e3] at e2
 rw [← e2]
 have hl:(stC s).length=18:=stC_len h
 unfold splice
 apply List.ext_getElem?
 intro j
 simp only [List.length_cons,List.length_nil,List.append_assoc,List.getElem?_append,List.length_take,hl,List.getElem?_take,List.getElem?_drop,List.getElem?_set,List.length_set]
 have e4:min (6+i * 2) 18=6+i * 2:=by omega
 rw [e4]
 by_cases h1:j < 6+i * 2
 ·simp [h1,show ¬ 6+i * 2=j by omega,show ¬ 6+i * 2+1=j by omega]
 ·simp only [h1,if_false]
  by_cases h2:j=6+i * 2
  ·subst h2;simp;omega
  ·by_cases h3:j=6+i * 2+1
   ·subst h3;simp [show 6+i * 2+1 - (6+i * 2)=1 by omega];omega
   ·have:¬ j - (6+i * 2) < 0+1+1:=by omega
    simp only [this,if_false,show ¬ 6+i * 2=j by omega,show ¬ 6+i * 2+1=j by omega]
    congr 1
    omega
theorem Ves.one (v:Ves):∀ x∈v.cells,x.oneCell'=true:=by
 intro x hx
 simp only [Ves.cells,List.mem_cons,List.not_mem_nil,or_false] at hx
 rcases hx with rfl | rfl | rfl | rfl <;> rfl
theorem Rdg.one (v:Rdg):∀ x∈v.cells,x.oneCell'=true:=by
 intro x hx
 simp only [Rdg.cells,List.mem_cons,List.not_mem_nil,or_false] at hx
 rcases hx with rfl | rfl | rfl | rfl <;> rfl
end Go.Wg
namespace Go.Wg
open Go Go.Mm
def weightTo (k:Wk) (s:SS) (v:Nat):Nat→Int × Int
 | 0=>(40,0)
 | m+1=>if can k (s.weighed v (m:Nat)) then (min (weightTo k s v m).1 m,m) else weightTo k s v m
def weightS (k:Wk) (s:SS) (v:Nat):Int × Int:=weightTo k s v 41
def moreS (s:SS) (v:Nat) (n:Nat):SS:=s.setLos v ((s.losAt v).1,(s.losAt v).2+n)
def beyondS (k:Wk) (v:Nat):Option Nat:=(List.range 41).find? fun n=>can k (moreS (nowS k noneB) v n)
def spanV (p:Int × Int):Value:=.agg #[.int .i64 p.1,.int .i64 p.2]
theorem weightTo_bd (k:Wk) (s:SS) (v m:Nat) (hm:m≤41):0≤(weightTo k s v m).1∧(weightTo k s v m).1≤40∧0≤(weightTo k s v m).2∧(weightTo k s v m).2≤40:=by
 induction m with
 | zero=>simp only [weightTo];omega
 | succ m ih =>
  have:=ih (by omega)
  rw [weightTo]
  split
  ·simp only;omega
  ·exact this
theorem SS.setLos_twice (s:SS) (i:Nat) (p q:Int × Int):(s.setLos i p).setLos i q=s.setLos i q:=by simp [SS.setLos]
theorem SS.losAt_setLos (s:SS) (hs:s.WF) (i:Nat) (hi:i < 6) (p:Int × Int):(s.setLos i p).losAt i=p:=by
 have:i < s.los.length:=by rw [hs.los];exact hi
 simp [SS.setLos,SS.losAt,this]
theorem take_two {l:List Value} {i:Nat} {a b:Value} (h1:l[i]? = some a) (h2:l[i+1]? = some b):(l.drop i).take 2=[a,b]:=by
 obtain ⟨hi,rfl⟩:=List.getElem?_eq_some_iff.1 h1
 obtain ⟨hj,rfl⟩:=List.getElem?_eq_some_iff.1 h2
 rw [List.drop_eq_getElem_cons hi,List.drop_eq_getElem_cons hj]
 rfl
theorem stC_span {s:SS} (h:s.WF) {i:Nat} (hi:i < 6):((stC s).drop (6+i * 2)).take 2=[.int .i64 (s.losAt i).1,.int .i64 (s.losAt i).2]:=take_two (stC_lo h hi) (stC_hi h hi)
theorem moreS_succ {s:SS} (hs:s.WF) {v:Nat} (hv:v < 6) (n:Nat):(moreS s v n).setLos v (((moreS s v n).losAt v).1,((moreS s v n).losAt v).2+1)=moreS s v (n+1):=by
 unfold moreS
 rw [SS.setLos_twice,SS.losAt_setLos s hs v hv]
 congr 2
 show (s.losAt v).2+(n:Int)+1=(s.losAt v).2+((n+1:Nat):Int)
 omega
theorem moreS_zero {s:SS} (hs:s.WF) {v:Nat} (hv:v < 6):moreS s v 0=s:=by
 unfold moreS SS.setLos SS.losAt
 have:v < s.los.length:=by rw [hs.los];exact hv
 cases s with
 | mk lim los =>
  simp only [SS.mk.injEq,true_and]
  simp only at this
  rw [List.getD_eq_getElem?_getD,List.getElem?_eq_getElem this]
  simp only [Option.getD_some,Int.natCast_zero,Int.add_zero]
  exact List.set_getElem_self this
theorem moreS_wf {s:SS} (hs:s.WF) (v n:Nat):(moreS s v n).WF:=hs.setLos
end Go.Wg
namespace Go.Wg
open Go Go.Mm
def firstE:List Int→Int
 | []=>0
 | e :: l=>if e=0 then firstE l else e
def unlessE (b:Bool) (e:Int):Int:=if b then 0 else e
def outB (n lo hi:Int):Bool:=decide (n < lo) || decide (hi < n)
def vesE (i:Nat) (v:Ves):Int :=
 firstE [unlessE (!outB v.from_ (-1) (i - 1)) 3,unlessE (!outB v.room 0 40) 1,unlessE (!outB v.lo 0 20 && !outB v.hi 0 20) 1,unlessE (decide (v.lo≤v.hi)) 5]
def rdgE (n:Nat) (r:Rdg):Int:=firstE [unlessE (!outB r.vessel 0 (n - 1) && !outB r.scale 0 2) 3,unlessE (!outB r.shown 0 60 && !outB r.err 0 9) 1]
def vesTo (k:Wk) (m:Nat):Int:=firstE ((List.range m).map fun i=>vesE i (k.v i))
def rdgTo (k:Wk) (m:Nat):Int:=firstE ((List.range m).map fun i=>rdgE k.n (k.rdg.getD i default))
def checkE (k:Wk):Int :=
 firstE [firstE [unlessE (decide (0 < k.n)) 7,unlessE (decide (k.n≤6)) 6],vesTo k k.n,if 6 < k.rdg.length then 6 else 0,rdgTo k k.rdg.length]
theorem firstE_append (a b:List Int):firstE (a ++ b)=if firstE a=0 then firstE b else firstE a:=by
 induction a with
 | nil=>simp [firstE]
 | cons e a ih =>
  simp only [List.cons_append,firstE]
  by_cases h:e=0
  ·simp only [h,if_true];exact ih
  ·simp only [h,if_false]
theorem vesTo_succ (k:Wk) (m:Nat):vesTo k (m+1)=if vesTo k m=0 then vesE m (k.v m) else vesTo k m:=by
 unfold vesTo
 rw [List.range_succ,List.map_append,firstE_append]
 simp only [List.map_cons,List.map_nil,firstE]
 congr 1
 split
 ·rename_i h;exact h.symm
 ·rfl
theorem rdgTo_succ (k:Wk) (m:Nat):rdgTo k (m+1)=if rdgTo k m=0 then rdgE k.n (k.rdg.getD m default) else rdgTo k m:=by
 unfold rdgTo
 rw [List.range_succ,List.map_append,firstE_append]
 simp only [List.map_cons,List.map_nil,firstE]
 congr 1
 split
 ·rename_i h;exact h.symm
 ·rfl
theorem vesTo_hit {k:Wk} {m n:Nat} (h:m < n) (h0:vesTo k m=0) (h1:vesE m (k.v m)≠0):vesTo k n=vesE m (k.v m):=by
 induction n with
 | zero=>omega
 | succ n ih =>
  rw [vesTo_succ]
  by_cases hn:m=n
  ·subst hn;rw [if_pos h0]
  ·have:=ih (by omega)
   rw [if_neg (by rw [this];exact h1),this]
theorem rdgTo_hit {k:Wk} {m n:Nat} (h:m < n) (h0:rdgTo k m=0) (h1:rdgE k.n (k.rdg.getD m default)≠0):rdgTo k n=rdgE k.n (k.rdg.getD m default):=by
 induction n with
 | zero=>omega
 | succ n ih =>
  rw [rdgTo_succ]
  by_cases hn:m=n
  ·subst hn;rw [if_pos h0]
  ·have:=ih (by omega)
   rw [if_neg (by rw [this];exact h1),this]
end Go.Wg
namespace Go.Wg
open Go Go.Mm
def widerS (a b:Int × Int):Int × Int:=(min a.1 b.1,max a.2 b.2)
def bothS (a b:Int × Int):Int × Int:=(a.1+b.1,a.2+b.2)
structure Gr where
 at_:List (Int × Int)
 has:Nat
structure Gr.WF (g:Gr):Prop where
 len:g.at_.length=41
 small:g.has < 2199023255552
def Gr.empty:Gr:=⟨List.replicate 41 (0,0),0⟩
def Gr.get (g:Gr) (n:Nat):Int × Int:=g.at_.getD n (0,0)
def Gr.add (g:Gr) (n:Nat) (v:Int × Int):Gr:=⟨g.at_.set n (if g.has.testBit n then widerS (g.get n) v else v),g.has ||| 2 ^ n⟩
def joinV:Value:=.func (.func 126) #[] #[]
def grC (g:Gr):List Value:=losC g.at_ ++ [.int .u64 (g.has:Nat),joinV]
theorem Gr.empty_wf:Gr.empty.WF:=⟨by simp [Gr.empty],by decide⟩
theorem Gr.WF.add {g:Gr} (h:g.WF) {n:Nat} (hn:n < 41) (v:Int × Int):(g.add n v).WF:=by
 refine ⟨by simp [Gr.add,h.len],?_⟩
 have h2:(2:Nat) ^ n < 2 ^ 41:=Nat.pow_lt_pow_right (by omega) hn
 have h1:=h.small
 have:g.has ||| 2 ^ n < 2 ^ 41:=Nat.or_lt_two_pow (by omega) h2
 show g.has ||| 2 ^ n < 2199023255552
 omega
theorem grC_len {g:Gr} (h:g.WF):(grC g).length=84:=by simp [grC,losC_len,h.len]
theorem grC_has {g:Gr} (h:g.WF):(grC g)[82]? = some (.int .u64 (g.has:Nat)):=by
 unfold grC
 rw [List.getElem?_append_right (by simp [losC_len,h.len])]
 simp [losC_len,h.len]
theorem grC_join {g:Gr} (h:g.WF):(grC g)[83]? = some joinV:=by
 unfold grC
 rw [List.getElem?_append_right (by simp [losC_len,h.len])]
 simp [losC_len,h.len]
theorem grC_at {g:Gr} (h:g.WF) {n:Nat} (hn:n < 41):((grC g).drop (n * 2)).take 2=[.int .i64 (g.get n).1,.int .i64 (g.get n).2]:=by
 have h1:=losC_get g.at_ n (by rw [h.len];exact hn)
 refine take_two ?_ ?_
 ·unfold grC
  rw [List.getElem?_append_left (by simp [losC_len,h.len];omega)];exact h1.1
 ·unfold grC
  rw [List.getElem?_append_left (by simp [losC_len,h.len];omega)];exact h1.2
theorem losC_splice (l:List (Int × Int)) (i:Nat) (h:i < l.length) (p:Int × Int) (r:List Value):splice (losC l ++ r) (i * 2) [.int .i64 p.1,.int .i64 p.2]=losC (l.set i p) ++ r:=by
 induction l generalizing i with
 | nil=>simp at h
 | cons q l ih =>
  cases i with
  | zero=>simp [losC,splice]
  | succ i =>
   have:=ih i (by simpa using h)
   simp only [losC,List.flatMap_cons,List.cons_append,List.nil_append,splice,List.set_cons_succ] at this ⊢
   rw [show (i+1) * 2=i * 2+1+1 by omega]
   simp only [List.take_succ_cons,List.drop_succ_cons,List.cons_append,List.length_cons,List.length_nil] at this ⊢
   rw [← this]
theorem grC_setat {g:Gr} (h:g.WF) {n:Nat} (hn:n < 41) (p:Int × Int):splice (grC g) (n * 2) [.int .i64 p.1,.int .i64 p.2]=grC ⟨g.at_.set n p,g.has⟩:=by
 unfold grC
 exact losC_splice _ _ (by rw [h.len];exact hn) _ _
theorem grC_sethas {g:Gr} (h:g.WF) (m:Nat):(grC g).set 82 (.int .u64 (m:Nat))=grC ⟨g.at_,m⟩:=by
 unfold grC
 rw [List.set_append_right _ _ (by simp [losC_len,h.len])]
 simp [losC_len,h.len]
end Go.Wg
namespace Go.Wg
open Go Go.Mm
def leafTo (s:SS) (st:Bool) (i:Nat):Nat→Gr
 | 0=>Gr.empty
 | m+1=>if (s.limAt i).testBit m then (leafTo s st i m).add m (if st then ((m:Int),(m:Int)) else (0,0)) else leafTo s st i m
def rowTo (a b:Gr) (x:Nat) (g:Gr):Nat→Gr
 | 0=>g
 | m+1=>if a.has.testBit x && b.has.testBit m then (rowTo a b x g m).add (x+m) (bothS (a.get x) (b.get m)) else rowTo a b x g m
def joinTo (a b:Gr):Nat→Gr
 | 0=>Gr.empty
 | x+1=>rowTo a b x (joinTo a b x) (41 - x)
def joinG (a b:Gr):Gr:=joinTo a b 41
def lossRow (sums:Gr) (lim:Nat) (st:Bool) (lo:Int) (x:Nat) (g:Gr):Nat→Gr
 | 0=>g
 | m+1=>if sums.has.testBit x && lim.testBit (x+(lo+m).toNat) then (lossRow sums lim st lo x g m).add (x+(lo+m).toNat) (if st then sums.get x else bothS (sums.get x) (lo+m,lo+m)) else lossRow sums lim st lo x g m
def lossN (lo hi:Int) (x:Nat):Nat:=(min hi (40 - x) - lo+1).toNat
def lossTo' (sums:Gr) (lim:Nat) (st:Bool) (lo hi:Int):Nat→Gr
 | 0=>Gr.empty
 | x+1=>lossRow sums lim st lo x (lossTo' sums lim st lo hi x) (lossN lo hi x)
def spreadF (k:Wk) (s:SS) (st:Bool):Nat→Nat→Gr
 | 0,_=>Gr.empty
 | f+1,i =>
  if k.fills i=[] then leafTo s st i 41
  else lossTo' ((k.fills i).foldl (fun sm x=>joinG sm (spreadF k s st f x)) (Gr.empty.add 0 (0,0))) (s.limAt i) st (s.losAt i).1 (s.losAt i).2 41
def spreadS (k:Wk) (s:SS) (st:Bool) (i:Nat):Gr:=spreadF k s st (k.n - i) i
def foundTo (g:Gr):Nat→Option (Int × Int)
 | 0=>none
 | n+1=>if g.has.testBit n then some (match foundTo g n with | none=>g.get n | some r=>widerS r (g.get n)) else foundTo g n
def foundS (k:Wk) (s:SS) (st:Bool) (i:Nat):Int × Int:=(foundTo (spreadS k s st i) 41).getD (0,0)
def Wk.sources (k:Wk):List Nat:=(List.range k.n).filter fun i=>decide ((k.v i).from_ < 0)
def totalS (k:Wk) (s:SS) (st:Bool):Int × Int:=k.sources.foldl (fun t i=>bothS t (foundS k s st i)) (0,0)
theorem leafTo_wf (s:SS) (st:Bool) (i m:Nat) (hm:m≤41):(leafTo s st i m).WF:=by
 induction m with
 | zero=>exact Gr.empty_wf
 | succ m ih =>
  rw [leafTo]
  split
  ·exact (ih (by omega)).add (by omega) _
  ·exact ih (by omega)
theorem rowTo_wf (a b:Gr) (x:Nat) {g:Gr} (hg:g.WF) (m:Nat) (hm:x+m≤41):(rowTo a b x g m).WF:=by
 induction m with
 | zero=>exact hg
 | succ m ih =>
  rw [rowTo]
  split
  ·exact (ih (by omega)).add (by omega) _
  ·exact ih (by omega)
theorem joinTo_wf (a b:Gr) (x:Nat) (hx:x≤41):(joinTo a b x).WF:=by
 induction x with
 | zero=>exact Gr.empty_wf
 | succ x ih =>
  rw [joinTo]
  exact rowTo_wf a b x (ih (by omega)) _ (by omega)
theorem joinG_wf (a b:Gr):(joinG a b).WF:=joinTo_wf a b 41 (by omega)
theorem lossRow_wf (sums:Gr) (lim:Nat) (st:Bool) (lo:Int) (hlo:0≤lo) (x:Nat) {g:Gr} (hg:g.WF) (m:Nat) (hm:x+lo+m≤41):(lossRow sums lim st lo x g m).WF:=by
 induction m with
 | zero=>exact hg
 | succ m ih =>
  rw [lossRow]
  split
  ·exact (ih (by omega)).add (by omega) _
  ·exact ih (by omega)
theorem lossTo'_wf (sums:Gr) (lim:Nat) (st:Bool) (lo hi:Int) (hlo:0≤lo) (x:Nat) (hx:x≤41):(lossTo' sums lim st lo hi x).WF:=by
 induction x with
 | zero=>exact Gr.empty_wf
 | succ x ih =>
  rw [lossTo']
  have ihx:=ih (by omega)
  by_cases h0:lossN lo hi x=0
  ·rw [h0];exact ihx
  ·refine lossRow_wf _ _ _ _ hlo _ ihx _ ?_
   unfold lossN at h0 ⊢
   omega
theorem spreadF_wf (k:Wk) (s:SS) (st:Bool) (hlo:∀ i,0≤(s.losAt i).1) (f i:Nat):(spreadF k s st f i).WF:=by
 cases f with
 | zero=>exact Gr.empty_wf
 | succ f =>
  rw [spreadF]
  split
  ·exact leafTo_wf s st i 41 (by omega)
  ·exact lossTo'_wf _ _ _ _ _ (hlo i) 41 (by omega)
end Go.Wg
