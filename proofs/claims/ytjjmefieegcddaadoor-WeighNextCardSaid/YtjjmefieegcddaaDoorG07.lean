/- A part of the proof: Q3, Q4, S10, S11, S12, S13, S14, S15, S16, S17, W7, W3, W4, W5, W6, W8. -/
import Derived.Test.YtjjmefieegcddaaDoorG06
import Derived.Test.YtjjmefieegcddaaDoorG02
import Derived.LaidEql
import Derived.Stop.Asserts
import Derived.RowKitTokens
set_option linter.unusedVariables false
set_option linter.unusedSimpArgs false
set_option maxHeartbeats 8000000
set_option maxRecDepth 20000
namespace Go.Mm
open Go
class Jf (L' L:List dF):Prop where
 ok:L'.Sublist L
instance Jf.nil {L:List dF}:Jf [] L:=⟨List.nil_sublist _⟩
instance Jf.skip {e:dF} {L' L:List dF} [h:Jf L' L]:Jf L' (e :: L):=⟨h.ok.cons e⟩
instance Jf.cons {e:dF} {L' L:List dF} [h:Jf L' L]:Jf (e :: L') (e :: L):=⟨h.ok.cons_cons e⟩
theorem St.aG {w0 w:World} {X:List Nat} {V:View} {L L':List dF} (h:St w0 X V L w) [hs:Jf L' L]:St w0 X V L' w:=h.sub hs.ok
variable {P:Program}
section
variable {w0:World} {X:List Nat} {V:View} {L:List dF} {w:World}
variable {l:List Oper} {md:Region.Mode} {o:Oper} {a:Act} {Q:Exit→Act→World→Prop} {S:World→Prop} {fuel:Nat} {listed:Array Bool}
theorem bF {id:Nat} {l:List Oper} (bs:List Bool) (hb:bs=List.replicate l.length false) (hm:P.follows .mixedOrders=true)
  (h:wpAnyH P .any l.toArray Q S l.length bs.toArray a { w with drawn:=w.drawn+1 }):(Code.region id l.toArray true).wp P Q a w:=by
 subst hb
 refine wp_region_held (S:=S) hm ?_
 have e:(List.replicate l.length false).toArray=Array.replicate l.toArray.size false:=by apply Array.ext';simp
 rw [e] at h
 simpa using h
theorem jV {i:Nat} (h:l[i]? = some o):l.toArray[i]? = some o:=by simpa using h
theorem aar (i:Nat) (hi₀:l[i]? = some o) (hs:Region.noSelect l.toArray=true) (hf:Region.free md l.toArray listed i=true) (hr:(Region.ready md l.toArray listed).contains i=true)
  {x:Operand} (ho:o.op=.move x) {v:Value} (hx:kV a x=some v) (hQ:∀ c a w,Q (.panic c) (a.put o.dst v) w→Q (.panic c) a w) (hw:Region.wanted o (yielded l.toArray a.tmps)=true) (hS:S w)
  (h:∀ a' l',a.put o.dst v=a'→listed.setIfInBounds i true=l'→wpAnyH P md l.toArray Q S fuel l' a' w):wpAnyH P md l.toArray Q S (fuel+1) listed a w :=
 wpAnyH_take (jV hi₀) hs hf hr hQ (.inl ⟨hw,fun w _=>by have:=gU hx;exact this ▸ BigFrame.run_move x ho w⟩) hS (h _ _ rfl rfl)
theorem dw (i:Nat) (hi₀:l[i]? = some o) (hs:Region.noSelect l.toArray=true) (hf:Region.free md l.toArray listed i=true) (hr:(Region.ready md l.toArray listed).contains i=true)
  (hQ:∀ v c a w,Q (.panic c) (a.put o.dst v) w→Q (.panic c) a w) (hw:Region.wanted o (yielded l.toArray a.tmps)=true) (hS:S w)
  (h:∃ v,(∀ w,(execOp a.eval o).run P w=.ok (.value v) w)∧∀ a' l',a.put o.dst v=a'→listed.setIfInBounds i true=l'→wpAnyH P md l.toArray Q S fuel l' a' w):wpAnyH P md l.toArray Q S (fuel+1) listed a w:=by
 obtain ⟨v,hv,h⟩:=h
 exact wpAnyH_take (jV hi₀) hs hf hr (hQ v) (.inl ⟨hw,fun w _=>hv w⟩) hS (h _ _ rfl rfl)
theorem aaR (i:Nat) (hi₀:l[i]? = some o) (hs:Region.noSelect l.toArray=true) (hf:Region.free md l.toArray listed i=true) (hr:(Region.ready md l.toArray listed).contains i=true)
  (hQ:∀ v c a w,Q (.panic c) (a.put o.dst v) w→Q (.panic c) a w) (hw:Region.wanted o (yielded l.toArray a.tmps)=true) (hS:St w0 X V L w)
  {ty:TypeId} {x:Operand} (ho:o.op=.load ty x) {b k:Nat} (hx:a.eval x=.pointer (some ⟨b,k,none⟩)) {j:Nat} {t:TypeId} {cs:List Value} [hj:Hs L b j t cs] [hty:iR P ty]
  (h:∃ v,cs[k]? = some v∧∀ a' l',a.put o.dst v=a'→listed.setIfInBounds i true=l'→wpAnyH P md l.toArray Q (St w0 X V L) fuel l' a' w):wpAnyH P md l.toArray Q (St w0 X V L) (fuel+1) listed a w:=by
 obtain ⟨v,hv,h⟩:=h
 exact wpAnyH_take (jV hi₀) hs hf hr (hQ v) (TU ho j hw hx hj.ok hty.ok hv) hS (h _ _ rfl rfl)
theorem aaC (i:Nat) (hi₀:l[i]? = some o) (hs:Region.noSelect l.toArray=true) (hf:Region.free md l.toArray listed i=true) (hr:(Region.ready md l.toArray listed).contains i=true)
  (hQ:∀ v c a w,Q (.panic c) (a.put o.dst v) w→Q (.panic c) a w) (hw:Region.wanted o (yielded l.toArray a.tmps)=true) (hS:St w0 X V L w)
  {ty:TypeId} {x:Operand} (ho:o.op=.load ty x) {b k:Nat} (hx:a.eval x=.pointer (some ⟨b,k,none⟩)) {j n:Nat} {t:TypeId} {cs:List Value} [hj:Hs L b j t cs] [hty:jS P ty n]
  (h:∃ vs,PartOf cs k n vs∧∀ a' l',a.put o.dst (.agg vs.toArray)=a'→listed.setIfInBounds i true=l'→wpAnyH P md l.toArray Q (St w0 X V L) fuel l' a' w):wpAnyH P md l.toArray Q (St w0 X V L) (fuel+1) listed a w:=by
 obtain ⟨v,hv,h⟩:=h
 exact wpAnyH_take (jV hi₀) hs hf hr (hQ _) (RN ho j hw hx hj.ok hty.ok hv.part hv.len) hS (h _ _ rfl rfl)
theorem aax (i:Nat) (hi₀:l[i]? = some o) (hs:Region.noSelect l.toArray=true) (hf:Region.free md l.toArray listed i=true) (hr:(Region.ready md l.toArray listed).contains i=true)
  (hQ:∀ v c a w,Q (.panic c) (a.put o.dst v) w→Q (.panic c) a w) (hw:Region.wanted o (yielded l.toArray a.tmps)=true) (hS:St w0 X V L w)
  {ty:TypeId} {x:Operand} (ho:o.op=.load ty x) {b k:Nat} (hx:a.eval x=.pointer (some ⟨b,k,none⟩)) [hty:iR P ty]
  (h:∃ v,V.Cell b k v∧∀ a' l',a.put o.dst v=a'→listed.setIfInBounds i true=l'→wpAnyH P md l.toArray Q (St w0 X V L) fuel l' a' w):wpAnyH P md l.toArray Q (St w0 X V L) (fuel+1) listed a w:=by
 obtain ⟨v,hv,h⟩:=h
 exact wpAnyH_take (jV hi₀) hs hf hr (hQ v) (PE ho hw hx hty.ok hv) hS (h _ _ rfl rfl)
theorem aey (i:Nat) (hi₀:l[i]? = some o) (hs:Region.noSelect l.toArray=true) (hf:Region.free md l.toArray listed i=true) (hr:(Region.ready md l.toArray listed).contains i=true)
  (hQ:∀ v c a w,Q (.panic c) (a.put o.dst v) w→Q (.panic c) a w) (hw:Region.wanted o (yielded l.toArray a.tmps)=true) (hS:St w0 X V L w)
  {ty:TypeId} {x:Operand} (ho:o.op=.load ty x) {b k:Nat} (hx:a.eval x=.pointer (some ⟨b,k,none⟩)) {n:Nat} [hty:jS P ty n]
  (h:∃ vs,(V.Range b k vs∧vs.length=n)∧∀ a' l',a.put o.dst (.agg vs.toArray)=a'→listed.setIfInBounds i true=l'→wpAnyH P md l.toArray Q (St w0 X V L) fuel l' a' w):wpAnyH P md l.toArray Q (St w0 X V L) (fuel+1) listed a w:=by
 obtain ⟨v,hv,h⟩:=h
 exact wpAnyH_take (jV hi₀) hs hf hr (hQ _) (ad1 ho hw hx hty.ok hv.1 hv.2) hS (h _ _ rfl rfl)
theorem mG {i:Nat} (hr:Region.ready md l.toArray listed=[i]) (h:wpOp P l.toArray Q i (fun a' w'=>S w'∧wpAnyH P md l.toArray Q S fuel (listed.setIfInBounds i true) a' w') a w):wpAnyH P md l.toArray Q S (fuel+1) listed a w :=
 wpAnyH_all hr (by simp) fun k hk=>by rw [List.mem_singleton] at hk;subst hk;exact h
theorem jl (i:Nat) (hr:Region.ready md l.toArray listed=[i]) (hi₀:l[i]? = some o) (hS:St w0 X V L w) (hw:Region.wanted o (yielded l.toArray a.tmps)=true) {ty:TypeId} {x y:Operand} (ho:o.op=.store ty x y)
  {b k:Nat} (hx:a.eval x=.pointer (some ⟨b,k,none⟩)) {j:Nat} {t:TypeId} {cs:List Value} [hj:Hs L b j t cs] [hty:iR P ty]
  (h:∃ v,(kV a y=some v∧v.oneCell'=true∧k < cs.length)∧∀ a' l',a.put o.dst undef=a'→listed.setIfInBounds i true=l'→∀ w',St w0 X V (L.set j (.blk b t (cs.set k v))) w'→S w'∧wpAnyH P md l.toArray Q S fuel l' a' w'):wpAnyH P md l.toArray Q S (fuel+1) listed a w:=by
 obtain ⟨v,⟨hy,h1,h2⟩,h⟩:=h
 exact mG hr (PS hS (jV hi₀) hw ho j hx hj.ok (gU hy) h1 hty.ok h2 rfl fun w' hS'=>h _ _ rfl rfl w' hS')
theorem Qm (i:Nat) (hr:Region.ready md l.toArray listed=[i]) (hi₀:l[i]? = some o) (hS:St w0 X V L w) (hw:Region.wanted o (yielded l.toArray a.tmps)=true) {ty:TypeId} {x y:Operand} (ho:o.op=.store ty x y)
  {b k:Nat} (hx:a.eval x=.pointer (some ⟨b,k,none⟩)) {j n:Nat} {t:TypeId} {cs:List Value} [hj:Hs L b j t cs] [hty:jS P ty n]
  (h:∃ vs:List Value,(kV a y=some (.agg vs.toArray)∧(∀ v∈vs,v.oneCell'=true)∧vs.length=n∧k+n≤cs.length)∧∀ a' l',a.put o.dst undef=a'→listed.setIfInBounds i true=l'→∀ w',St w0 X V (L.set j (.blk b t (splice cs k vs))) w'→S w'∧wpAnyH P md l.toArray Q S fuel l' a' w') :
  wpAnyH P md l.toArray Q S (fuel+1) listed a w:=by
 obtain ⟨vs,⟨hy,h1,h2,h3⟩,h⟩:=h
 exact mG hr (Di hS (jV hi₀) hw ho j hx hj.ok (gU hy) h1 hty.ok h2 h3 rfl fun w' hS'=>h _ _ rfl rfl w' hS')
theorem wQ (i:Nat) (hr:Region.ready md l.toArray listed=[i]) (hi₀:l[i]? = some o) (hS:St w0 X V L w) (hw:Region.wanted o (yielded l.toArray a.tmps)=true) {ty:TypeId} {x y:Operand} (ho:o.op=.store ty x y)
  {b:Nat} (hx:a.eval x=.pointer (some ⟨b,0,none⟩)) {j n:Nat} {t:TypeId} {cs:List Value} [hj:Hs L b j t cs] [hty:jS P ty n]
  (h:∃ vs:List Value,(kV a y=some (.agg vs.toArray)∧(∀ v∈vs,v.oneCell'=true)∧vs.length=n∧cs.length=n)∧∀ a' l',a.put o.dst undef=a'→listed.setIfInBounds i true=l'→∀ w',St w0 X V (L.set j (.blk b t vs)) w'→S w'∧wpAnyH P md l.toArray Q S fuel l' a' w') :
  wpAnyH P md l.toArray Q S (fuel+1) listed a w:=by
 obtain ⟨vs,⟨hy,h1,h2,h3⟩,h⟩:=h
 exact mG hr (Il hS (jV hi₀) hw ho j hx hj.ok (gU hy) h1 hty.ok h2 h3 rfl fun w' hS'=>h _ _ rfl rfl w' hS')
theorem ae8 (i:Nat) (hr:Region.ready md l.toArray listed=[i]) (hi₀:l[i]? = some o) (hS:St w0 X V L w) (hw:Region.wanted o (yielded l.toArray a.tmps)=true) {ty:TypeId} (ho:o.op=.alloc ty) {cs:List Value} [hz:lX P ty cs]
  (h:∀ b a' l',a.put o.dst (.pointer (some ⟨b,0,none⟩))=a'→listed.setIfInBounds i true=l'→∀ w',St w0 X V (.blk b ty cs :: L) w'→S w'∧wpAnyH P md l.toArray Q S fuel l' a' w'):wpAnyH P md l.toArray Q S (fuel+1) listed a w :=
 mG hr (aeE hS (jV hi₀) hw ho hz.has hz.ok fun b w' hS'=>h b _ _ rfl rfl w' hS')
theorem Ec (i:Nat) (hr:Region.ready md l.toArray listed=[i]) (hi₀:l[i]? = some o) (hS:St w0 X V L w) (hw:Region.wanted o (yielded l.toArray a.tmps)=true) {t e:TypeId} {len:Nat} {parts:List (Nat × Operand)}
  (ho:o.op=.buildSlice t len parts.toArray) [ht:Xu P t e] (h:∃ vs,Parts a 0 parts vs∧(vs.length=len∧len≤100∧∀ v∈vs,v.oneCell'=true)∧∀ b a' l',a.put o.dst (.slice (some ⟨b,0,none⟩) len len)=a' →
   listed.setIfInBounds i true=l'→∀ w',St w0 X V (.blk b e vs :: L) w'→S w'∧wpAnyH P md l.toArray Q S fuel l' a' w'):wpAnyH P md l.toArray Q S (fuel+1) listed a w:=by
 obtain ⟨vs,hp,hc,h⟩:=h
 exact mG hr (DU hS (jV hi₀) hw ho (by simpa using Eo hp) hc.1 hc.2.1 hc.2.2 ht.ok fun b w' hS'=>h b _ _ rfl rfl w' hS')
theorem Jt (i:Nat) (hr:Region.ready md l.toArray listed=[i]) (hi₀:l[i]? = some o) (hS:St w0 X V L w) (hw:Region.wanted o (yielded l.toArray a.tmps)=true)
  (h:∃ f args,(execOp a.eval o).run P w=.ok (.enter f args) w∧∃ v,(Calls P f args w fun e w'=>e=.returned v∧Kp w w')∧∀ a' l',a.put o.dst v=a'→listed.setIfInBounds i true=l' →
   ∀ w',St w0 X V L w'→S w'∧wpAnyH P md l.toArray Q S fuel l' a' w'):wpAnyH P md l.toArray Q S (fuel+1) listed a w:=by
 obtain ⟨f,args,hr',v,hc,h⟩:=h
 exact mG hr (Rx (jV hi₀) hw hr' (L9 hS hc) fun w' hS'=>h _ _ rfl rfl w' hS')
end
theorem sB:(∀ (l:List Bool) (i:Nat) (v:Bool),l.toArray.setIfInBounds i v=(l.set i v).toArray)∧(∀ (x:Bool) (l:List Bool) (i:Nat) (v:Bool),(x :: l).set (i+1) v=x :: l.set i v) ∧
  (∀ (x:Bool) (l:List Bool) (v:Bool),(x :: l).set 0 v=v :: l):=⟨fun l i v=>by simp,fun _ _ _ _=>rfl,fun _ _ _=>rfl⟩
section
variable {P:Program} {w0:World} {X:List Nat} {V:View} {L:List dF} {w:World} {l:List Oper} {md:Region.Mode} {o:Oper} {a:Act} {Q:Exit→Act→World→Prop} {S:World→Prop} {fuel:Nat} {listed:Array Bool}
theorem hxp (i:Nat) (_hn:listed[i]? = some false) {v:Value} (h:∀ a' l',a.put o.dst v=a'→listed.setIfInBounds i true=l'→wpAnyH P md l.toArray Q S fuel l' a' w) (hi₀:l[i]? = some o:=by exact rfl) (hv:∀ w,(execOp a.eval o).run P w=.ok (.value v) w:=by exact zp) (hs:Region.noSelect l.toArray=true:=by kernel_rfl) (hf:Region.free md l.toArray listed i=true:=by kernel_rfl) (hr:(Region.ready md l.toArray listed).contains i=true:=by kernel_rfl) (hQ:∀ v c a w,Q (.panic c) (a.put o.dst v) w→Q (.panic c) a w:=by first | exact fun _ _ _ _ h=>h | exact fun _ _ _ _ h=>zX (by kernel_rfl) h | exact fun _ _ _ _ h=>nomatch h.1) (hw:Region.wanted o (yielded l.toArray a.tmps)=true:=by exact rfl) (hS':S w:=by first | exact St.aG hS | (refine ⟨?_,?_,?_⟩ <;> first | exact aX hS.dR rfl | exact aX hS.dR (by assumption))):wpAnyH P md l.toArray Q S (fuel+1) listed a w :=
 dw i hi₀ hs hf hr hQ hw hS' ⟨v,hv,h⟩
theorem hxm (i:Nat) (_hn:listed[i]? = some false) {v:Value} {x:Operand} (h:∀ a' l',a.put o.dst v=a'→listed.setIfInBounds i true=l'→wpAnyH P md l.toArray Q S fuel l' a' w) (hi₀:l[i]? = some o:=by exact rfl) (ho:o.op=.move x:=by exact rfl) (hx:kV a x=some v:=by exact rfl) (hs:Region.noSelect l.toArray=true:=by kernel_rfl) (hf:Region.free md l.toArray listed i=true:=by kernel_rfl) (hr:(Region.ready md l.toArray listed).contains i=true:=by kernel_rfl) (hQ:∀ c a w,Q (.panic c) (a.put o.dst v) w→Q (.panic c) a w:=by first | exact fun _ _ _ h=>h | exact fun _ _ _ h=>zX (by kernel_rfl) h | exact fun _ _ _ h=>nomatch h.1) (hw:Region.wanted o (yielded l.toArray a.tmps)=true:=by exact rfl) (hS':S w:=by first | exact St.aG hS | (refine ⟨?_,?_,?_⟩ <;> first | exact aX hS.dR rfl | exact aX hS.dR (by assumption))):wpAnyH P md l.toArray Q S (fuel+1) listed a w :=
 aar i hi₀ hs hf hr ho hx hQ hw hS' h
theorem hxa (i:Nat) (_hn:listed[i]? = some false) {ty:TypeId} {x:Operand} {b k:Nat} {j:Nat} {t:TypeId} {cs:List Value} {v:Value} (h:∀ a' l',a.put o.dst v=a'→listed.setIfInBounds i true=l'→wpAnyH P md l.toArray Q (St w0 X V L) fuel l' a' w) (hi₀:l[i]? = some o:=by exact rfl) (ho:o.op=.load ty x:=by exact rfl) (hx:a.eval x=.pointer (some ⟨b,k,none⟩):=by exact rfl) (hj:Hs L b j t cs:=by exact inferInstance) (hty:iR P ty:=by exact inferInstance) (hv:cs[k]? = some v:=by exact zd) (hs:Region.noSelect l.toArray=true:=by kernel_rfl) (hf:Region.free md l.toArray listed i=true:=by kernel_rfl) (hr:(Region.ready md l.toArray listed).contains i=true:=by kernel_rfl) (hQ:∀ v c a w,Q (.panic c) (a.put o.dst v) w→Q (.panic c) a w:=by first | exact fun _ _ _ _ h=>h | exact fun _ _ _ _ h=>zX (by kernel_rfl) h | exact fun _ _ _ _ h=>nomatch h.1) (hw:Region.wanted o (yielded l.toArray a.tmps)=true:=by exact rfl) (hS':(St w0 X V L) w:=by first | exact St.aG hS | (refine ⟨?_,?_,?_⟩ <;> first | exact aX hS.dR rfl | exact aX hS.dR (by assumption))):wpAnyH P md l.toArray Q (St w0 X V L) (fuel+1) listed a w :=
 aaR i hi₀ hs hf hr hQ hw hS' ho hx ⟨v,hv,h⟩
theorem hxb (i:Nat) (_hn:listed[i]? = some false) {ty:TypeId} {x:Operand} {b k:Nat} {j n:Nat} {t:TypeId} {cs:List Value} {vs:List Value} (h:∀ a' l',a.put o.dst (.agg vs.toArray)=a'→listed.setIfInBounds i true=l'→wpAnyH P md l.toArray Q (St w0 X V L) fuel l' a' w) (hi₀:l[i]? = some o:=by exact rfl) (ho:o.op=.load ty x:=by exact rfl) (hx:a.eval x=.pointer (some ⟨b,k,none⟩):=by exact rfl) (hj:Hs L b j t cs:=by exact inferInstance) (hty:jS P ty n:=by exact inferInstance) (hv:PartOf cs k n vs:=by exact zd) (hs:Region.noSelect l.toArray=true:=by kernel_rfl) (hf:Region.free md l.toArray listed i=true:=by kernel_rfl) (hr:(Region.ready md l.toArray listed).contains i=true:=by kernel_rfl) (hQ:∀ v c a w,Q (.panic c) (a.put o.dst v) w→Q (.panic c) a w:=by first | exact fun _ _ _ _ h=>h | exact fun _ _ _ _ h=>zX (by kernel_rfl) h | exact fun _ _ _ _ h=>nomatch h.1) (hw:Region.wanted o (yielded l.toArray a.tmps)=true:=by exact rfl) (hS':(St w0 X V L) w:=by first | exact St.aG hS | (refine ⟨?_,?_,?_⟩ <;> first | exact aX hS.dR rfl | exact aX hS.dR (by assumption))):wpAnyH P md l.toArray Q (St w0 X V L) (fuel+1) listed a w :=
 aaC i hi₀ hs hf hr hQ hw hS' ho hx ⟨vs,hv,h⟩
theorem hxc (i:Nat) (_hn:listed[i]? = some false) {ty:TypeId} {x:Operand} {b k:Nat} {v:Value} (h:∀ a' l',a.put o.dst v=a'→listed.setIfInBounds i true=l'→wpAnyH P md l.toArray Q (St w0 X V L) fuel l' a' w) (hi₀:l[i]? = some o:=by exact rfl) (ho:o.op=.load ty x:=by exact rfl) (hx:a.eval x=.pointer (some ⟨b,k,none⟩):=by exact rfl) (hty:iR P ty:=by exact inferInstance) (hv:V.Cell b k v:=by exact zd) (hs:Region.noSelect l.toArray=true:=by kernel_rfl) (hf:Region.free md l.toArray listed i=true:=by kernel_rfl) (hr:(Region.ready md l.toArray listed).contains i=true:=by kernel_rfl) (hQ:∀ v c a w,Q (.panic c) (a.put o.dst v) w→Q (.panic c) a w:=by first | exact fun _ _ _ _ h=>h | exact fun _ _ _ _ h=>zX (by kernel_rfl) h | exact fun _ _ _ _ h=>nomatch h.1) (hw:Region.wanted o (yielded l.toArray a.tmps)=true:=by exact rfl) (hS':(St w0 X V L) w:=by first | exact St.aG hS | (refine ⟨?_,?_,?_⟩ <;> first | exact aX hS.dR rfl | exact aX hS.dR (by assumption))):wpAnyH P md l.toArray Q (St w0 X V L) (fuel+1) listed a w :=
 aax i hi₀ hs hf hr hQ hw hS' ho hx ⟨v,hv,h⟩
end
end Go.Mm
namespace Go.Mm
theorem zH {α β:Type} {x y:α} {x' y':β} {K:α→β→Prop} (h:K y y') (hp:x=y:=by ((try simp only [fr]);exact rfl)) (hl:x'=y':=by ((try simp only [sB]);exact rfl)):∀ z z',x=z→x'=z'→K z z':=fun z z' e e'=>by subst e;subst e';rw [hp,hl];exact h
end Go.Mm
namespace Go.Mm
open Go
variable {P:Program} {w0:World} {X:List Nat} {V:View} {L:List dF} {w:World}
theorem oM {f:FuncId} {args:Array Value} {R:Ending→World→Prop} (hS:St w0 X V L w) {g j:Nat} {t:TypeId} {cs:List Value} [hj:Hs L g j t cs]
  (h:∃ v cs',(w.heap[g]? = some (.cells cs.toArray t (0,0))→Calls P f args w fun e w'=>e=.returned v∧ni g w w'∧w'.heap[g]? = some (.cells cs'.toArray t (0,0))) ∧
   ∀ w',St w0 X V (L.set j (.blk g t cs')) w'→R (.returned v) w'):Calls P f args w R:=by
 obtain ⟨v,cs',hc,h⟩:=h
 exact (hc (hS.at hj.ok)).mono fun e w' ⟨he,hk,hg⟩=>by subst he;exact h w' (hS.mut hj.ok hk hg rfl)
theorem Aj {f:FuncId} {args:Array Value} {R:Ending→World→Prop} (hS:St w0 X V L w)
  (h:∃ t cs,(Calls P f args w fun e w'=>∃ g,e=.returned (.pointer (some ⟨g,0,none⟩))∧Kp w w'∧w.heap.size≤g∧w'.heap[g]? = some (.cells cs.toArray t (0,0))) ∧
   ∀ g w',St w0 X V (.blk g t cs :: L) w'→R (.returned (.pointer (some ⟨g,0,none⟩))) w'):Calls P f args w R:=by
 obtain ⟨t,cs,hc,h⟩:=h
 refine hc.mono fun e w' ⟨g,he,hk,hl,hg⟩=>?_
 subst he
 exact h g w' (hS.fresh hk (e:=.blk g t cs) hg fun b hb=>by cases hb;exact hl)
theorem St.newAt (hS:St w0 [] V L w) {b j:Nat} {t:TypeId} {cs:List Value} [hj:Hs L b j t cs]:w0.heap.size≤b:=by
 rcases hS.new _ (List.mem_of_getElem? hj.ok) b rfl with h | h
 ·exact h
 ·cases h
theorem St.dR (hS:St w0 X V L w) {b j:Nat} {t:TypeId} {cs:List Value} [hj:Hs L b j t cs]:w.heap[b]? = some (.cells cs.toArray t (0,0)):=hS.at hj.ok
end Go.Mm
namespace Go.Wg
open Go Go.Mm
def fO (k:Wk) (i j:Nat):List Nat:=(List.range i).filter fun x=>(k.v x).from_ == (j:Int)
theorem MJ (k:Wk) (j:Nat):fO k k.n j=k.fills j:=rfl
theorem MK (k:Wk) (i j:Nat) (h:(k.v i).from_=(j:Int)):fO k (i+1) j=fO k i j ++ [i]:=by
 unfold fO
 rw [List.range_succ,List.filter_append]
 simp [h]
theorem JG (k:Wk) (i j:Nat) (h:(k.v i).from_≠(j:Int)):fO k (i+1) j=fO k i j:=by
 unfold fO
 rw [List.range_succ,List.filter_append]
 simp [h]
theorem BN (k:Wk) (hk:k.Ok) (i j:Nat) (hi:i≤k.n) (hj:i≤j+1):fO k i j=[]:=by
 unfold fO
 rw [List.filter_eq_nil_iff]
 intro x hx
 have hx':=List.mem_range.1 hx
 have:=(hk.ves x (by omega)).2.1
 simp;omega
theorem KW (k:Wk) (i j:Nat):(fO k i j).length≤i:=by
 unfold fO
 have:=List.length_filter_le (fun x=>(k.v x).from_ == (j:Int)) (List.range i)
 rwa [List.length_range] at this
theorem xU (k:Wk) (i j x:Nat) (h:x∈fO k i j):x < i:=List.mem_range.1 (List.mem_filter.1 h).1
def nU (k:Wk) (ts:Nat→Nat) (fv:Nat→Value) (i j:Nat):List dF :=
 [.blk (ts j) 129 [.int .i64 (k.v j).from_,.int .i64 (k.v j).room,.int .i64 (k.v j).lo,.int .i64 (k.v j).hi,.int .i64 (j:Int),fv j],.row (fv j) 124 1 (fO k i j).length ((fO k i j).map fun x=>ptr (ts x))]
def iW (k:Wk) (ts:Nat→Nat) (fv:Nat→Value) (i m:Nat):List dF:=(List.range m).flatMap (nU k ts fv i)
theorem xP (k:Wk) (ts:Nat→Nat) (fv:Nat→Value) (i m:Nat):iW k ts fv i (m+1)=iW k ts fv i m ++ nU k ts fv i m:=by
 unfold iW
 rw [List.range_succ,List.flatMap_append]
 simp
theorem Me {k:Wk} {ts ts':Nat→Nat} {fv fv':Nat→Value} {i i' m:Nat} (h:∀ j,j < m→nU k ts fv i j=nU k ts' fv' i' j):iW k ts fv i m=iW k ts' fv' i' m:=by
 unfold iW
 rw [List.flatMap_def,List.flatMap_def]
 congr 1
 exact List.map_congr_left fun j hj=>h j (List.mem_range.1 hj)
theorem Qc (k:Wk) (ts:Nat→Nat) (fv:Nat→Value) (i m j:Nat) (hj:j < m):∃ R,(iW k ts fv i m).Perm (nU k ts fv i j ++ R) ∧
  ∀ ts' fv' i',(∀ x,x < m→x≠j→nU k ts' fv' i' x=nU k ts fv i x)→(iW k ts' fv' i' m).Perm (nU k ts' fv' i' j ++ R):=by
 have hr:List.range m=List.range j ++ j :: List.range' (j+1) (m - j - 1):=by
  have e1:List.range m=List.range' 0 m:=List.range_eq_range'
  have e2:List.range j=List.range' 0 j:=List.range_eq_range'
  rw [e1,e2]
  have e3:List.range' 0 m=List.range' 0 j ++ List.range' j (m - j):=by
   have:=List.range'_append (s:=0) (m:=j) (n:=m - j) (step:=1)
   simp only [Nat.zero_add,Nat.one_mul] at this
   rw [this];congr 1;omega
  rw [e3]
  congr 1
  rw [show m - j=(m - j - 1)+1 by omega,List.range'_succ]
  simp
 have key:∀ ts fv i,(iW k ts fv i m).Perm (nU k ts fv i j ++ ((List.range j).flatMap (nU k ts fv i) ++ (List.range' (j+1) (m - j - 1)).flatMap (nU k ts fv i))):=fun ts fv i=>by
  unfold iW
  rw [hr,List.flatMap_append,List.flatMap_cons]
  exact List.perm_append_comm_assoc _ _ _
 refine ⟨_,key ts fv i,fun ts' fv' i' h=>?_⟩
 have e1:(List.range j).flatMap (nU k ts' fv' i')=(List.range j).flatMap (nU k ts fv i):=by
  rw [List.flatMap_def,List.flatMap_def];congr 1
  exact List.map_congr_left fun x hx=>by have:=List.mem_range.1 hx;exact h x (by omega) (by omega)
 have e2:(List.range' (j+1) (m - j - 1)).flatMap (nU k ts' fv' i')=(List.range' (j+1) (m - j - 1)).flatMap (nU k ts fv i):=by
  rw [List.flatMap_def,List.flatMap_def];congr 1
  exact List.map_congr_left fun x hx=>by have:=List.mem_range'_1.1 hx;exact h x (by omega) (by omega)
 rw [← e1,← e2]
 exact key ts' fv' i'
theorem oz {w:World} {v:Value} {n:Nat} {xs:List Value} (h:w.ownsRow 0 124 1 v n xs) (hn:0 < n):∃ g cap cur,v=.slice (some ⟨g,0,none⟩) n cap∧n≤cap∧cap≤maxLen∧w.heap[g]? = some (.cells cur 124 (0,0))∧cur.toList.take n=xs:=by
 obtain ⟨h1,h2⟩:=h
 rcases h2 with ⟨_,h2⟩ | ⟨g,cap,cur,rfl,_,h4,h5,h6,_,h8⟩
 ·omega
 ·exact ⟨g,cap,cur,rfl,h5,h6,h4,by simpa using h8⟩
def newV (V:View) (w w':World):View:=fun j=>if j < w.heap.size then V j else w'.heap[j]?
theorem Qe {V:View} {w w':World} (h:V.In w'):(newV V w w').In w':=fun j o hj=>by
 unfold newV at hj
 split at hj
 ·exact h j o hj
 ·exact hj
theorem rD {V:View} {w w':World} (hV:V.In w):∀ j o,V j=some o→newV V w w' j=some o:=fun j o hj=>by
 have:=lt_of_heap (hV j o hj)
 simp [newV,this,hj]
theorem Ku {V:View} {w w':World}:∀ j,j < w.heap.size→newV V w w' j=V j:=fun j hj=>by simp [newV,hj]
theorem l9 {V:View} {w w':World} {b i:Nat} {cs:Array Value} {t:TypeId} {v:Value} (hb:w.heap.size≤b) (hh:w'.heap[b]? = some (.cells cs t (0,0))) (hi:cs[i]? = some v):(newV V w w').Cell b i v :=
 ⟨cs,t,(0,0),by simp [newV,show ¬ b < w.heap.size by omega,hh],hi⟩
theorem Y4 {V:View} {w w':World} {k:Wk} {vv rv tv:Value} {b:Nat} {ts:Nat→Nat} {fv:Nat→Value} (hV:V.In w) (hk:k.Ok) (h1:pW V vv k.n 4 fun i=>(k.v i).cells) (h2:pW V rv k.rdg.length 4 fun i=>(k.rdg.getD i default).cells)
  (hS:St w [] V ([.blk b 112 [vv,rv,tv],.row tv 124 1 k.n ((List.range k.n).map fun x=>ptr (ts x))] ++ iW k ts fv k.n k.n) w'):jh (newV V w w') b k:=by
 have hnew:∀ e,e∈[dF.blk b 112 [vv,rv,tv],.row tv 124 1 k.n ((List.range k.n).map fun x=>ptr (ts x))] ++ iW k ts fv k.n k.n→∀ g,e.foot=some g→w.heap.size≤g:=fun e he g hg=>by
  rcases hS.new e he g hg with h | h
  ·exact h
  ·cases h
 have hb:=hS.has _ (List.mem_append_left _ (List.mem_cons_self ..))
 have hbn:=hnew _ (List.mem_append_left _ (List.mem_cons_self ..)) b rfl
 have hr:w'.ownsRow 0 124 1 tv k.n ((List.range k.n).map fun x=>ptr (ts x)):=(hS.has _ (List.mem_append_left _ (List.mem_cons_of_mem _ (List.mem_cons_self ..)))).1
 have hrn:=hnew _ (List.mem_append_left _ (List.mem_cons_of_mem _ (List.mem_cons_self ..)))
 have sl:∀ {v n sz get},pW V v n sz get→pW (newV V w w') v n sz get:=fun ⟨a,cap,h1,h2,h3,h4⟩ =>
  ⟨a,cap,h1,h2,h3,fun hn=>by obtain ⟨g,off,h5,h6⟩:=h4 hn;exact ⟨g,off,h5,fun i hi=>(h6 i hi).mono (rD hV)⟩⟩
 have hts:∀ x,x < k.n→((List.range k.n).map ts).getD x 0=ts x:=fun x hx=>by simp [List.getD_eq_getElem?_getD,hx]
 have hmem:∀ i,i < k.n→∀ e,e∈nU k ts fv k.n i→e∈[dF.blk b 112 [vv,rv,tv],.row tv 124 1 k.n ((List.range k.n).map fun x=>ptr (ts x))] ++ iW k ts fv k.n k.n:=fun i hi e he =>
  List.mem_append_right _ (List.mem_flatMap.2 ⟨i,List.mem_range.2 hi,he⟩)
 refine ⟨(List.range k.n).map ts,vv,rv,l9 hbn hb rfl,l9 hbn hb rfl,?_,sl h1,sl h2,fun i hi=>?_,fun i hi=>?_,hk.pos,hk.le⟩
 ·obtain ⟨g,cap,cur,rfl,_,_,hg,ht⟩:=oz hr hk.pos
  have hgn:=hrn g rfl
  refine ⟨g,cap,l9 hbn hb rfl,fun i hi=>l9 hgn hg ?_⟩
  rw [hts i hi]
  have:(cur.toList.take k.n)[i]? = some (ptr (ts i)):=by rw [ht];simp [hi]
  rw [List.getElem?_take] at this
  simpa [hi] using this
 ·rw [hts i hi]
  have he:=hmem i hi _ (List.mem_cons_self ..)
  have hh:=hS.has _ he
  have hn:=hnew _ he _ rfl
  intro j v hj
  refine l9 hn hh ?_
  simp only [nN.cells,List.cons_append,List.nil_append,Nat.zero_add,List.getElem?_toArray] at hj ⊢
  have hj5:j < 5:=by
   rcases Nat.lt_or_ge j 5 with h | h
   ·exact h
   ·rw [List.getElem?_eq_none (by simpa using h)] at hj;cases hj
  rw [show ([.int .i64 (k.v i).from_,.int .i64 (k.v i).room,.int .i64 (k.v i).lo,.int .i64 (k.v i).hi,.int .i64 (i:Int),fv i]:List Value)=[.int .i64 (k.v i).from_,.int .i64 (k.v i).room,.int .i64 (k.v i).lo,.int .i64 (k.v i).hi,.int .i64 (i:Int)] ++ [fv i] from rfl,
   List.getElem?_append_left (by simpa using hj5)]
  exact hj
 ·rw [hts i hi]
  have he:=hmem i hi _ (List.mem_cons_self ..)
  have hh:=hS.has _ he
  have hn:=hnew _ he _ rfl
  refine ⟨fv i,l9 hn hh rfl,?_⟩
  have he2:=hmem i hi _ (List.mem_cons_of_mem _ (List.mem_cons_self ..))
  have hro:w'.ownsRow 0 124 1 (fv i) (fO k k.n i).length ((fO k k.n i).map fun x=>ptr (ts x)):=(hS.has _ he2).1
  have hn2:=hnew _ he2
  rw [MJ] at hro hn2
  by_cases h0:0 < (k.fills i).length
  ·obtain ⟨g,cap,cur,hv,hc1,hc2,hg,ht⟩:=oz hro h0
   have hgn:=hn2 g (by rw [hv];rfl)
   refine ⟨⟨some ⟨g,0,none⟩,cap,hv,hc1,hc2,fun _=>⟨g,0,rfl,fun j hj=>?_⟩⟩⟩
   intro a v ha
   cases a with
   | succ a=>simp at ha
   | zero =>
    simp only [List.getElem?_cons_zero,Option.some.injEq] at ha
    subst ha
    refine l9 hgn hg ?_
    have hx:(k.fills i).getD j 0 < k.n:=by
     rw [List.getD_eq_getElem?_getD,List.getElem?_eq_getElem hj]
     exact List.mem_range.1 (List.mem_filter.1 (List.getElem_mem hj)).1
    rw [hts _ hx]
    have:(cur.toList.take (k.fills i).length)[j]? = some (ptr (ts ((k.fills i).getD j 0))):=by
     rw [ht];simp [List.getD_eq_getElem?_getD,hj]
    rw [List.getElem?_take] at this
    simpa [hj] using this
  ·have h0':(k.fills i).length=0:=by omega
   obtain ⟨_,hr2⟩:=hro
   rcases hr2 with ⟨hv,_⟩ | ⟨g,cap,cur,hv,_,_,h5,h6,_,_⟩
   ·rw [h0']
    exact ⟨⟨none,0,hv,by omega,by omega,fun h=>absurd h (by omega)⟩⟩
   ·rw [h0'] at hv h5 ⊢
    exact ⟨⟨_,cap,hv,h5,h6,fun h=>absurd h (by omega)⟩⟩
theorem kW {l:List Int} (h:bC l=0):∀ e∈l,e=0:=by
 induction l with
 | nil=>simp
 | cons x l ih =>
  simp only [bC] at h
  split at h
  ·rename_i hx
   intro e he
   rcases List.mem_cons.1 he with rfl | he
   ·exact hx
   ·exact ih h e he
  ·rename_i hx;exact absurd h hx
theorem gX {b:Bool} {e:Int} (he:e≠0) (h:bI b e=0):b=true:=by
 unfold bI at h
 cases b
 ·simp at h;exact absurd h he
 ·rfl
theorem iV {n lo hi:Int} (h:(!fQ n lo hi)=true):lo≤n∧n≤hi:=by
 unfold fQ at h
 simp at h
 exact h
theorem AU {k:Wk} (h:nS k=0):k.Ok:=by
 have h0:=kW h
 have h1:=kW (h0 _ (List.mem_cons_self ..))
 have h2:wo k k.n=0:=h0 _ (by simp)
 have h3:(if 6 < k.rdg.length then (6:Int) else 0)=0:=h0 _ (by simp)
 have h4:uz k k.rdg.length=0:=h0 _ (by simp)
 have a1:=gX (by decide) (h1 _ (List.mem_cons_self ..))
 have a2:=gX (by decide) (h1 (bI (decide (k.n≤6)) 6) (by simp))
 refine ⟨by simpa using a1,by simpa using a2,fun i hi=>?_,?_,fun i hi=>?_⟩
 ·have:=kW h2 (Le i (k.v i)) (List.mem_map.2 ⟨i,List.mem_range.2 hi,rfl⟩)
  have hv:=kW this
  have v1:=iV (gX (by decide) (hv (bI (!fQ (k.v i).from_ (-1) (i - 1)) 3) (by simp)))
  have v2:=iV (gX (by decide) (hv (bI (!fQ (k.v i).room 0 40) 1) (by simp)))
  have v3:=gX (by decide) (hv (bI (!fQ (k.v i).lo 0 20 && !fQ (k.v i).hi 0 20) 1) (by simp))
  rw [Bool.and_eq_true] at v3
  have v4:=iV v3.1
  have v5:=iV v3.2
  have v6:=gX (by decide) (hv (bI (decide ((k.v i).lo≤(k.v i).hi)) 5) (by simp))
  have v7:(k.v i).lo≤(k.v i).hi:=by simpa using v6
  unfold nN.Ok
  omega
 ·split at h3
  ·cases h3
  ·omega
 ·have:=kW h4 (KD k.n (k.rdg.getD i default)) (List.mem_map.2 ⟨i,List.mem_range.2 hi,rfl⟩)
  have hv:=kW this
  have v1:=gX (by decide) (hv (bI (!fQ (k.rdg.getD i default).vessel 0 (k.n - 1) && !fQ (k.rdg.getD i default).scale 0 2) 3) (by simp))
  rw [Bool.and_eq_true] at v1
  have v2:=iV v1.1
  have v3:=iV v1.2
  have v4:=gX (by decide) (hv (bI (!fQ (k.rdg.getD i default).shown 0 60 && !fQ (k.rdg.getD i default).err 0 9) 1) (by simp))
  rw [Bool.and_eq_true] at v4
  have v5:=iV v4.1
  have v6:=iV v4.2
  unfold je.Ok
  omega
def aS (k:Wk) (ns:List Int):Int:=if nS k≠0 then nS k else if ns.all (fun n=>!fQ n 0 (k.n - 1)) then 0 else 3
theorem Uz (k:Wk) (m i:Nat) (hm:m≤6):(lS k m).aP i=if i < m then ((k.v i).lo,(k.v i).hi) else (0,0):=by
 induction m with
 | zero =>
  simp only [lS,SS.aP,List.getD_eq_getElem?_getD,List.getElem?_replicate,Nat.not_lt_zero,if_false]
  split <;> rfl
 | succ m ih =>
  have hl:((lS k m).cu m (dO 0 (k.v m).room)).los.length=6:=(nX k m).los
  show (((lS k m).cu m (dO 0 (k.v m).room)).los.set m ((k.v m).lo,(k.v m).hi)).getD i (0,0)=_
  rw [List.getD_eq_getElem?_getD,List.getElem?_set]
  by_cases h:m=i
  ·subst h
   simp [hl,show m < 6 by omega]
  ·rw [if_neg h,← List.getD_eq_getElem?_getD]
   show (lS k m).aP i=_
   rw [ih (by omega)]
   by_cases h1:i < m
   ·simp [h1,show i < m+1 by omega]
   ·simp [h1,show ¬ i < m+1 by omega]
theorem X6 (b:je→Bool) (l:List je) (s:SS) (i:Nat):(l.foldl (lU b) s).aP i=s.aP i:=by
 induction l generalizing s with
 | nil=>rfl
 | cons r l ih =>
  rw [List.foldl_cons,ih]
  unfold lU
  split <;> rfl
theorem rW (k:Wk) (hok:k.Ok) (b:je→Bool) (i:Nat):(aN k b).aP i=if i < k.n then ((k.v i).lo,(k.v i).hi) else (0,0):=by
 unfold aN
 rw [X6,Uz k k.n i hok.le]
theorem QU (k:Wk) (hok:k.Ok) (b:je→Bool) (i:Nat):0≤((aN k b).aP i).1:=by
 rw [rW k hok]
 split
 ·rename_i h;exact (hok.ves i h).2.2.2.2.1
 ·simp
theorem Jy (k:Wk) (hok:k.Ok) (b:je→Bool) (i:Nat):((aN k b).aP i).2≤20:=by
 rw [rW k hok]
 split
 ·rename_i h;exact (hok.ves i h).2.2.2.2.2.2.2.1
 ·simp
def IZ (D:List Nat) (v:Value):Prop:=iL v=true∨(∃ b o,v=.pointer (some ⟨b,o,none⟩)∧b∈D)∨∃ b o n c,v=.slice (some ⟨b,o,none⟩) n c∧b∈D
noncomputable def gN:Nat:=Go.Proofs.Tryd.prog.globals.size
structure Closed (V:View) (D:List Nat):Prop where
 cells:∀ b∈D,∃ cs t,V b=some (.cells cs t (0,0))∧∀ v∈cs,IZ D v
 ge:∀ b∈D,gN≤b
 last:∃ o,V (gN - 1)=some o
def keepD (V:View) (D:List Nat):View:=fun b=>if b∈D then V b else none
theorem QJ {D:List Nat} {b o:Nat} (h:IZ D (.pointer (some ⟨b,o,none⟩))):b∈D:=by
 rcases h with h | ⟨b',o',h,hb⟩ | ⟨b',o',n,c,h,_⟩
 ·cases h
 ·cases h;exact hb
 ·cases h
theorem WG {D:List Nat} {b o n c:Nat} (h:IZ D (.slice (some ⟨b,o,none⟩) n c)):b∈D:=by
 rcases h with h | ⟨b',o',h,_⟩ | ⟨b',o',n',c',h,hb⟩
 ·cases h
 ·cases h
 ·cases h;exact hb
theorem Closed.cell {V:View} {D:List Nat} (h:Closed V D) {b i:Nat} {v:Value} (hb:b∈D) (hc:V.Cell b i v):IZ D v:=by
 obtain ⟨cs,t,hV,hcs⟩:=h.cells b hb
 obtain ⟨cs',t',fr,hV',hi⟩:=hc
 rw [hV] at hV'
 cases hV'
 exact hcs v (Array.mem_of_getElem? hi)
theorem oI {V:View} {D:List Nat} {b i:Nat} {v:Value} (hb:b∈D) (hc:V.Cell b i v):(keepD V D).Cell b i v:=by
 obtain ⟨cs',t',fr,hV',hi⟩:=hc
 exact ⟨cs',t',fr,by simp [keepD,hb,hV'],hi⟩
theorem keep_range {V:View} {D:List Nat} {b i:Nat} {vs:List Value} (hb:b∈D) (hc:V.Range b i vs):(keepD V D).Range b i vs:=fun j v hj=>oI hb (hc j v hj)
theorem JH {V:View} {D:List Nat} {v:Value} {n sz:Nat} {get:Nat→List Value} (h:pW V v n sz get) (hv:IZ D v):pW (keepD V D) v n sz get:=by
 obtain ⟨a,cap,rfl,h2,h3,h4⟩:=h
 refine ⟨⟨a,cap,rfl,h2,h3,fun hn=>?_⟩⟩
 obtain ⟨g,off,rfl,h6⟩:=h4 hn
 exact ⟨g,off,rfl,fun i hi=>keep_range (WG hv) (h6 i hi)⟩
theorem zO.keep {V:View} {D:List Nat} {p:Nat} {k:Wk} {ts:List Nat} {vv rv:Value} (hC:zO V p k ts vv rv) (hD:Closed V D) (hp:p∈D):zO (keepD V D) p k ts vv rv∧∀ i,i < k.n→ts.getD i 0∈D:=by
 obtain ⟨g,cap,hc2,hts⟩:=hC.c2
 have hg:=WG (hD.cell hp hc2)
 have hti:∀ i,i < k.n→ts.getD i 0∈D:=fun i hi=>QJ (hD.cell hg (hts i hi))
 refine ⟨⟨oI hp hC.c0,oI hp hC.c1,⟨g,cap,oI hp hc2,fun i hi=>oI hg (hts i hi)⟩,JH hC.ves (hD.cell hp hC.c0),JH hC.rdg (hD.cell hp hC.c1),fun i hi=>keep_range (hti i hi) (hC.tun i hi),fun i hi=>?_,hC.pos,hC.le⟩,hti⟩
 obtain ⟨v,hv,hs⟩:=hC.fil i hi
 exact ⟨v,oI (hti i hi) hv,JH hs (hD.cell (hti i hi) hv)⟩
theorem ET {D D':List Nat} (h:∀ b∈D,b∈D') {v:Value} (hv:IZ D v):IZ D' v:=by
 rcases hv with hv | ⟨b,o,hv,hb⟩ | ⟨b,o,n,c,hv,hb⟩
 ·exact .inl hv
 ·exact .inr (.inl ⟨b,o,hv,h b hb⟩)
 ·exact .inr (.inr ⟨b,o,n,c,hv,h b hb⟩)
theorem Qx {w:World} {t:TypeId} {s n:Nat} {v:Value} {xs:List Value} {D:List Nat} (h:w.ownsRow 0 t s v n xs) (hb:∀ g,v.ownBlock=some g→g∈D):IZ D v:=by
 obtain ⟨_,h2⟩:=h
 rcases h2 with ⟨rfl,_⟩ | ⟨g,cap,cur,rfl,_⟩
 ·exact .inl rfl
 ·exact .inr (.inr ⟨g,0,n,cap,rfl,hb g rfl⟩)
theorem DI {w:World} {t:TypeId} {n g:Nat} {v:Value} {xs:List Value} {D:List Nat} (h:w.ownsRow 0 t 1 v n xs) (hp:DR w v (n * 1)) (hx:∀ x∈xs,IZ D x) (hg:v.ownBlock=some g) :
  ∃ cs t,w.heap[g]? = some (.cells cs t (0,0))∧∀ c∈cs,IZ D c:=by
 obtain ⟨_,h2⟩:=h
 rcases h2 with ⟨rfl,_⟩ | ⟨g',cap,cur,rfl,_,h4,_,_,_,h8⟩
 ·cases hg
 ·have hgg:g'=g:=by simpa [Value.ownBlock] using hg
  subst hgg
  refine ⟨cur,t,h4,fun c hc=>?_⟩
  obtain ⟨i,hi,hic⟩:=Array.mem_iff_getElem.1 hc
  have hi':cur[i]? = some c:=by rw [Array.getElem?_eq_getElem hi,hic]
  rcases Nat.lt_or_ge i (n * 1) with hlt | hge
  ·refine hx c ?_
   rw [← h8]
   have:(cur.toList.take (n * 1))[i]? = some c:=by rw [List.getElem?_take,if_pos hlt];simpa using hi'
   exact List.mem_of_getElem? this
  ·exact .inl (hp g' rfl cur t (0,0) h4 i c hge hi')
theorem RG {V:View} {w w':World} {k:Wk} {vv rv tv:Value} {b:Nat} {ts:Nat→Nat} {fv:Nat→Value} (hV:V.In w) {D0:List Nat} (hD0:Closed V D0) (hvv:IZ D0 vv) (hrv:IZ D0 rv)
  (hS:St w [] V ([.blk b 112 [vv,rv,tv],.row tv 124 1 k.n ((List.range k.n).map fun x=>ptr (ts x))] ++ iW k ts fv k.n k.n) w'):∃ D,Closed (newV V w w') D∧b∈D:=by
 let D:List Nat:=b :: (tv.ownBlock.toList ++ ((List.range k.n).map ts ++ ((List.range k.n).flatMap (fun j=>(fv j).ownBlock.toList) ++ D0)))
 have mb:b∈D:=List.mem_cons_self ..
 have mt:∀ g,tv.ownBlock=some g→g∈D:=fun g hg=>by simp [D,hg]
 have ms:∀ x,x < k.n→ts x∈D:=fun x hx=>by
  refine List.mem_cons_of_mem _ (List.mem_append_right _ (List.mem_append_left _ (List.mem_map.2 ⟨x,List.mem_range.2 hx,rfl⟩)))
 have mf:∀ j,j < k.n→∀ g,(fv j).ownBlock=some g→g∈D:=fun j hj g hg=>by
  refine List.mem_cons_of_mem _ (List.mem_append_right _ (List.mem_append_right _ (List.mem_append_left _ (List.mem_flatMap.2 ⟨j,List.mem_range.2 hj,by simp [hg]⟩))))
 have m0:∀ x∈D0,x∈D:=fun x hx=>List.mem_cons_of_mem _ (List.mem_append_right _ (List.mem_append_right _ (List.mem_append_right _ hx)))
 have hnew:∀ e,e∈[dF.blk b 112 [vv,rv,tv],.row tv 124 1 k.n ((List.range k.n).map fun x=>ptr (ts x))] ++ iW k ts fv k.n k.n→∀ g,e.foot=some g→w.heap.size≤g:=fun e he g hg=>by
  rcases hS.new e he g hg with h | h
  ·exact h
  ·cases h
 have hv:∀ {g:Nat},w.heap.size≤g→∀ {cs:Array Value} {t:TypeId},w'.heap[g]? = some (.cells cs t (0,0))→newV V w w' g=some (.cells cs t (0,0)):=fun {g} hg {cs t} hh=>by
  simp [newV,show ¬ g < w.heap.size by omega,hh]
 have hb:=hS.has _ (List.mem_append_left _ (List.mem_cons_self ..))
 have hbn:=hnew _ (List.mem_append_left _ (List.mem_cons_self ..)) b rfl
 have hrm:dF.row tv 124 1 k.n ((List.range k.n).map fun x=>ptr (ts x))∈[dF.blk b 112 [vv,rv,tv],.row tv 124 1 k.n ((List.range k.n).map fun x=>ptr (ts x))] ++ iW k ts fv k.n k.n:=List.mem_append_left _ (List.mem_cons_of_mem _ (List.mem_cons_self ..))
 have hr:=hS.has _ hrm
 have hmem:∀ i,i < k.n→∀ e,e∈nU k ts fv k.n i→e∈[dF.blk b 112 [vv,rv,tv],.row tv 124 1 k.n ((List.range k.n).map fun x=>ptr (ts x))] ++ iW k ts fv k.n k.n:=fun i hi e he =>
  List.mem_append_right _ (List.mem_flatMap.2 ⟨i,List.mem_range.2 hi,he⟩)
 have ptrs:∀ l:List Nat,(∀ x∈l,x < k.n)→∀ y∈l.map (fun x=>ptr (ts x)),IZ D y:=fun l hl y hy=>by
  obtain ⟨x,hx,rfl⟩:=List.mem_map.1 hy
  exact .inr (.inl ⟨ts x,0,rfl,ms x (hl x hx)⟩)
 have hGw:gN≤w.heap.size:=by
  obtain ⟨o,ho⟩:=hD0.last
  have:=lt_of_heap (hV _ _ ho)
  omega
 refine ⟨D,⟨fun g hg=>?_,fun g hg=>?_,hD0.last.imp fun o ho=>rD hV _ _ ho⟩,mb⟩
 rotate_left
 ·rcases List.mem_cons.mp hg with rfl | hg
  ·exact Nat.le_trans hGw hbn
  rcases List.mem_append.mp hg with hg | hg
  ·exact Nat.le_trans hGw (hnew _ hrm g (show tv.ownBlock=some g by simpa using hg))
  rcases List.mem_append.mp hg with hg | hg
  ·obtain ⟨x,hx,rfl⟩:=List.mem_map.1 hg
   exact Nat.le_trans hGw (hnew _ (hmem x (List.mem_range.1 hx) _ (List.mem_cons_self ..)) _ rfl)
  rcases List.mem_append.mp hg with hg | hg
  ·obtain ⟨j,hj,hgj⟩:=List.mem_flatMap.1 hg
   exact Nat.le_trans hGw (hnew _ (hmem j (List.mem_range.1 hj) _ (List.mem_cons_of_mem _ (List.mem_cons_self ..))) g (show (fv j).ownBlock=some g by simpa using hgj))
  ·exact hD0.ge g hg
 rcases List.mem_cons.mp hg with rfl | hg
 ·refine ⟨_,_,hv hbn hb,fun c hc=>?_⟩
  simp only [List.mem_toArray,List.mem_cons,List.not_mem_nil,or_false] at hc
  rcases hc with rfl | rfl | rfl
  ·exact ET m0 hvv
  ·exact ET m0 hrv
  ·exact Qx hr.1 mt
 rcases List.mem_append.mp hg with hg | hg
 ·have hg':tv.ownBlock=some g:=by simpa using hg
  obtain ⟨cs,t,h1,h2⟩:=DI (D:=D) hr.1 hr.2 (ptrs _ fun x hx=>List.mem_range.1 hx) hg'
  exact ⟨cs,t,hv (hnew _ hrm g hg') h1,h2⟩
 rcases List.mem_append.mp hg with hg | hg
 ·obtain ⟨x,hx,rfl⟩:=List.mem_map.1 hg
  have hx':=List.mem_range.1 hx
  have he:=hmem x hx' _ (List.mem_cons_self ..)
  have he2:=hmem x hx' _ (List.mem_cons_of_mem _ (List.mem_cons_self ..))
  refine ⟨_,_,hv (hnew _ he _ rfl) (hS.has _ he),fun c hc=>?_⟩
  simp only [List.mem_toArray,List.mem_cons,List.not_mem_nil,or_false] at hc
  rcases hc with rfl | rfl | rfl | rfl | rfl | rfl
  ·exact .inl rfl
  ·exact .inl rfl
  ·exact .inl rfl
  ·exact .inl rfl
  ·exact .inl rfl
  ·exact Qx (hS.has _ he2).1 (mf x hx')
 rcases List.mem_append.mp hg with hg | hg
 ·obtain ⟨j,hj,hgj⟩:=List.mem_flatMap.1 hg
  have hj':=List.mem_range.1 hj
  have hg':(fv j).ownBlock=some g:=by simpa using hgj
  have he2:=hmem j hj' _ (List.mem_cons_of_mem _ (List.mem_cons_self ..))
  obtain ⟨cs,t,h1,h2⟩:=DI (D:=D) (hS.has _ he2).1 (hS.has _ he2).2 (ptrs _ fun x hx=>xU k k.n j x hx) hg'
  exact ⟨cs,t,hv (hnew _ he2 g hg') h1,h2⟩
 ·obtain ⟨cs,t,h1,h2⟩:=hD0.cells g hg
  exact ⟨cs,t,rD hV g _ h1,fun c hc=>ET m0 (h2 c hc)⟩
theorem kM {V V':View} {D:List Nat} (h:Closed V D) (hV:∀ i o,V i=some o→V' i=some o):Closed V' D :=
 ⟨fun b hb=>by obtain ⟨cs,t,h1,h2⟩:=h.cells b hb;exact ⟨cs,t,hV b _ h1,h2⟩,h.ge,h.last.imp fun _ ho=>hV _ _ ho⟩
def CJ (l:List (Int × Int)):Int × Int:=l.foldl dX (0,0)
theorem aaB (l:List (Int × Int)) (a:Int × Int):l.foldl dX a=dX a (CJ l):=by
 unfold CJ
 induction l generalizing a with
 | nil=>simp [dX]
 | cons x l ih =>
  rw [List.foldl_cons,List.foldl_cons,ih,ih (dX (0,0) x)]
  unfold dX
  simp only [Prod.mk.injEq]
  omega
theorem GL (x:Int × Int):dX (0,0) x=x:=by
 obtain ⟨a,b⟩:=x
 unfold dX
 simp
theorem kT (x:Int × Int) (l:List (Int × Int)):CJ (x :: l)=dX x (CJ l):=by
 show (x :: l).foldl dX (0,0)=_
 rw [List.foldl_cons,aaB,GL]
theorem H9 {l l':List (Int × Int)} (h:l.Perm l'):CJ l=CJ l':=by
 induction h with
 | nil=>rfl
 | cons x _ ih=>rw [kT,kT,ih]
 | swap x y l =>
  rw [kT,kT,kT,kT]
  unfold dX
  simp only [Prod.mk.injEq]
  omega
 | trans _ _ h1 h2=>exact h1.trans h2
theorem Dw (k:Wk) (s:SS) (st:Bool):dW k s st=CJ (k.sources.map (kX k s st)):=by
 unfold dW CJ
 rw [List.foldl_map]
theorem N7 {g:Gr} {c:Int} (h:g.Bd c) (hc:0≤c) (m:Nat):∀ r,gy g m=some r→Pb c r:=by
 induction m with
 | zero=>intro r hr;cases hr
 | succ m ih =>
  intro r hr
  rw [gy] at hr
  split at hr
  ·cases hf:gy g m with
   | none =>
    rw [hf] at hr
    cases hr
    exact h.get hc m
   | some u =>
    rw [hf] at hr
    cases hr
    exact (ih u hf).wider (h.get hc m)
  ·exact ih r hr
theorem Hy (k:Wk) (hk:k.n≤6) (s:SS) (st:Bool) (hlo:∀ i,0≤(s.aP i).1) (i:Nat):Pb 11764900 (kX k s st i):=by
 have h1:=D9 k hk s st hlo (k.n - i) i
 have h2:(100:Int) * 7 ^ (k.n - i)≤11764900:=by
  have:k.n - i≤6:=by omega
  generalize k.n - i=f at this
  have hf:f=0∨f=1∨f=2∨f=3∨f=4∨f=5∨f=6:=by omega
  rcases hf with rfl | rfl | rfl | rfl | rfl | rfl | rfl <;> decide
 have h3:=h1.mono h2
 unfold kX Qg
 cases hf:gy (jm k s st (k.n - i) i) 41 with
 | none=>unfold Pb;simp
 | some r=>exact N7 h3 (by omega) 41 r hf
theorem Xv {l:List (Int × Int)} {c:Int} (h:∀ x∈l,Pb c x):Pb (c * l.length) (CJ l):=by
 induction l with
 | nil=>simp [Pb,CJ]
 | cons x l ih =>
  have h1:=h x (by simp)
  have h2:=ih fun y hy=>h y (by simp [hy])
  rw [kT,List.length_cons]
  have h3:=h1.both h2
  have e:c+c * (l.length:Int)=c * ((l.length+1:Nat):Int):=by rw [Int.natCast_add,Int.mul_add];omega
  rw [e] at h3
  exact h3
end Go.Wg
namespace Go.Mm
open Go Go.Tm
variable {V:View}
theorem St.re0 {w0 w:World} {X:List Nat} {L:List dF} {τ:Nat→Question→Nat} {d:Nat} (h:St (w0.re τ d) X V L w):St w0 X V L w:=⟨h.os,h.output,h.size,h.old,h.view,h.has,h.new,h.off,h.nd⟩
theorem St.re1 {w0 w:World} {X:List Nat} {L:List dF} (h:St w0 X V L w) (τ:Nat→Question→Nat) (d:Nat):St w0 X V L (w.re τ d):=⟨h.os,h.output,h.size,h.old,h.view,fun e he=>by
 have:=h.has e he
 cases e with
 | blk b t cs=>exact this
 | row v t s n xs=>exact ⟨this.1,this.2⟩,h.new,h.off,h.nd⟩
end Go.Mm
namespace Go.Wg
open Go Go.Mm
def oQ (x:Int × Int):Int:=x.2 - x.1+1
def jA (s:SS) (i:Nat) (err shown:Int):Nat:=s.aK i &&& dO (shown - err) (shown+err)
def PL (k:Wk) (s:SS) (i:Nat) (err:Int) (st:List Nat × Int) (shown:Int):List Nat × Int :=
 if st.1.contains (jA s i err shown) || !can k (s.cu i (jA s i err shown)) then st else (jA s i err shown :: st.1,max st.2 (oQ (dW k (s.cu i (jA s i err shown)) false)))
def Kw (k:Wk) (s:SS) (i:Nat) (err lo:Int):Nat→List Nat × Int
 | 0=>([],0)
 | c+1=>PL k s i err (Kw k s i err lo c) (lo+c)
def Ia (r:Int × Int) (err:Int):Nat:=(r.2+err - (r.1 - err)+1).toNat
def qK (k:Wk) (s:SS) (i:Nat) (err:Int):Int:=(Kw k s i err ((aO k s i).1 - err) (Ia (aO k s i) err)).2
def fM (k:Wk) (s:SS) (err:Int):Nat→Int × Int
 | 0=>(-1,oQ (dW k s false))
 | i+1=>if qK k s i err < (fM k s err i).2 then ((i:Int),qK k s i err) else fM k s err i
def oW (k:Wk) (err:Int):(Int × Int) × Int :=
 if aS k []≠0 then ((0,0),aS k [])
 else if fQ err 0 9 then ((0,0),1)
 else if (settle k (aN k aC)).isSome then ((0,0),9)
 else if (fM k (aN k aC) err k.n).1 < 0 then ((0,0),11) else (fM k (aN k aC) err k.n,0)
end Go.Wg
namespace Go.Proofs.YtjjmefieegcddaaDoor
open Go.RowKit Go.Extern.Stop Go.Stop Go.Extern Go.Mm
theorem as_nil (t:Value) (w:World) :
  Calls Tryd.prog 115 #[.nilIface,t] w fun e w'=>e=.returned (.bool false)∧w'=w:=by
 go_enter Tryd.func115,Tryd.ntmps115
 go_wp2
 go_ret
 exact ⟨rfl,rfl⟩
abbrev XF:Value:=.iface 187 (.agg #[Value.pointer (some ⟨1,155,none⟩)])
theorem F8 (t:Addr) (w:World):(ReflectliteValue.unpack (.iface 157 (.pointer (some t)))).run Tryd.prog w
  = .ok (.agg #[Value.pointer (some ⟨1,157,none⟩),.pointer (some ⟨w.heap.size,0,none⟩),.int .u64 150]) (w.alloc (.cells #[.pointer (some t)] 157)):=by kernel_rfl
theorem NI (a:Addr) (w:World):(ReflectliteValue.methodAny (ReflectliteValue.valueError "reflectlite.Value.Type" 0) (fun t _ _ _=>ReflectliteType.toType t) #[.agg #[Value.pointer (some ⟨1,157,none⟩),.pointer (some a),.int .u64 150]]).run Tryd.prog w
  = .ok (.iface 187 (.agg #[Value.pointer (some ⟨1,157,none⟩)])) w:=by kernel_rfl
theorem CG (h:Value) (w:World):(Go.method 330 187 (.agg #[h]) "Kind").run Tryd.prog w=.ok (151,h) w:=by kernel_rfl
theorem Qa (w:World):((ReflectliteType.abiMethod fun t=>(fun a:Nat=>Value.int IntKind.u8 (a:Int)) <$> Rtype.kind t) #[Value.pointer (some ⟨1,157,none⟩)]).run Tryd.prog w=.ok (.int .u8 22) w:=by kernel_rfl
theorem O8 (w:World):((ReflectliteType.abiMethod fun t=>(fun a:Nat=>Value.int IntKind.u8 (a:Int)) <$> Rtype.kind t) #[Value.pointer (some ⟨1,152,none⟩)]).run Tryd.prog w=.ok (.int .u8 25) w:=by kernel_rfl
theorem rlm (z:Sem Value) (f:TypeId→Addr→Nat→Nat→Sem Value) (v:Value) :
  ReflectliteValue.method z f #[v]=(do match ← ReflectliteValue.parts v with | none=>z | some (t,a,fl)=>f t a fl (fl % 32)):=rfl
theorem BL (a:Addr) (w:World):(ReflectliteValue.parts (.agg #[Value.pointer (some ⟨1,157,none⟩),.pointer (some a),.int .u64 150])).run Tryd.prog w=.ok (some (157,a,150)) w:=by kernel_rfl
theorem Dk (a p:Addr) (W:World) (ha:W.cell? a=some (.pointer (some p))):(loadVar 157 a).run Tryd.prog W=.ok (.pointer (some p)) W:=by
 simp [loadVar,qR (show uK Tryd.prog 157=true by kernel_rfl),ha,Result.andThen]
theorem KJ (a p:Addr) (W:World) (ha:W.cell? a=some (.pointer (some p))) :
  (ReflectliteValue.method (ReflectliteValue.valueError "reflectlite.Value.IsNil" 0) ReflectliteValue.isNil #[.agg #[Value.pointer (some ⟨1,157,none⟩),.pointer (some a),.int .u64 150]]).run Tryd.prog W=.ok (.bool false) W:=by
 rw [rlm]
 simp only [Sem.run_bind,BL,Result.andThen]
 simp [ReflectliteValue.isNil,Dk a p W ha,Result.andThen,underlying,show Tryd.prog.underlying 157=some (.pointer 152) by kernel_rfl]
theorem CO (h:Value) (w:World):(Go.method 330 187 (.agg #[h]) "Elem").run Tryd.prog w=.ok (162,.agg #[h]) w:=by kernel_rfl
theorem uI (h:Value) (w:World):(Go.method 330 187 (.agg #[h]) "Implements").run Tryd.prog w=.ok (163,.agg #[h]) w:=by kernel_rfl
theorem sG (h:Value) (w:World):(Go.method 330 187 (.agg #[h]) "AssignableTo").run Tryd.prog w=.ok (160,.agg #[h]) w:=by kernel_rfl
theorem OE (w:World):(ReflectliteType.method ReflectliteType.elem #[.agg #[Value.pointer (some ⟨1,157,none⟩)]]).run Tryd.prog w=.ok (.iface 187 (.agg #[Value.pointer (some ⟨1,152,none⟩)])) w:=by kernel_rfl
theorem O1 (w:World):(ReflectliteType.relation "Implements" ReflectliteType.implements_ #[.agg #[Value.pointer (some ⟨1,152,none⟩)],.iface 187 (.agg #[Value.pointer (some ⟨1,155,none⟩)])]).run Tryd.prog w=.ok (.bool true) w:=by kernel_rfl
theorem Iw (v:Value) (w:World):(ReflectliteType.typeOf #[.iface 152 v]).run Tryd.prog w=.ok (.iface 187 (.agg #[Value.pointer (some ⟨1,152,none⟩)])) w:=by kernel_rfl
theorem SV (w:World):(ReflectliteType.relation "AssignableTo" ReflectliteType.assignableTo #[.agg #[Value.pointer (some ⟨1,152,none⟩)],.iface 187 (.agg #[Value.pointer (some ⟨1,152,none⟩)])]).run Tryd.prog w=.ok (.bool true) w:=by kernel_rfl
theorem Gn (i:Int) (w:World):(ReflectliteValue.unpack (.iface 152 (.agg #[.int .i64 i]))).run Tryd.prog w
  = .ok (.agg #[Value.pointer (some ⟨1,152,none⟩),.pointer (some ⟨w.heap.size,0,none⟩),.int .u64 153]) (w.alloc (.cells #[.int .i64 i] 152)):=by kernel_rfl
theorem Ja (w:World):(Rtype.elem? 157).run Tryd.prog w=.ok (some 152) w:=by kernel_rfl
theorem WO (p:Addr) (w:World):(ReflectliteValue.mk 152 p ReflectliteValue.flagAddr).run Tryd.prog w=.ok (.agg #[Value.pointer (some ⟨1,152,none⟩),.pointer (some p),.int .u64 409]) w:=by kernel_rfl
theorem Nv (a p:Addr) (W:World) (ha:W.cell? a=some (.pointer (some p))) :
  (ReflectliteValue.method (ReflectliteValue.valueError "reflectlite.Value.Elem" 0) ReflectliteValue.elem #[.agg #[Value.pointer (some ⟨1,157,none⟩),.pointer (some a),.int .u64 150]]).run Tryd.prog W
   = .ok (.agg #[Value.pointer (some ⟨1,152,none⟩),.pointer (some p),.int .u64 409]) W:=by
 rw [rlm]
 simp only [Sem.run_bind,BL,Result.andThen]
 simp [ReflectliteValue.elem,Dk a p W ha,Result.andThen,Ja,WO]
theorem rls (v x:Value):ReflectliteValue.set #[v,x]=(do
  let (some (dst,a,fl),some (src,b,_)):=(← ReflectliteValue.parts v,← ReflectliteValue.parts x)
   | unsupported (.noEntry "extern/(internal/reflectlite.Value).Set.zeroValue")
  if fl / ReflectliteValue.flagAddr % 2 == 0 then unsupported (.noEntry "extern/(internal/reflectlite.Value).Set.unaddressable")
  let val ← loadVar src b
  if ← Rtype.directlyAssignable dst src then storeVar dst a val
  else if ← Rtype.implements dst src then
   if (← Rtype.kind src) == 20 then
    match val with
    | .nilIface=>unsupported (.noEntry "extern/reflectlite: a nil value of one interface type handed on as a value of another")
    | _=>storeVar dst a val
   else storeVar dst a (.iface src val)
  else panicString ("reflectlite.Set: value of type " ++ (← Rtype.spelt src) ++ " is not assignable to type " ++ (← Rtype.spelt dst))
  pure (.tuple #[])):=rfl
theorem Jh (a:Addr) (w:World):(ReflectliteValue.parts (.agg #[Value.pointer (some ⟨1,152,none⟩),.pointer (some a),.int .u64 409])).run Tryd.prog w=.ok (some (152,a,409)) w:=by kernel_rfl
theorem LC (a:Addr) (w:World):(ReflectliteValue.parts (.agg #[Value.pointer (some ⟨1,152,none⟩),.pointer (some a),.int .u64 153])).run Tryd.prog w=.ok (some (152,a,153)) w:=by kernel_rfl
theorem Iy (w:World):(Rtype.directlyAssignable 152 152).run Tryd.prog w=.ok true w:=by kernel_rfl
theorem Yj:rowB Tryd.prog 152 1=true:=by kernel_rfl
theorem RI (ta b:Nat) (i:Int) (W:World) (hb:W.heap[b]? = some (.cells #[.int .i64 i] 152 (0,0))) {old:Value} {t:TypeId} (ht:W.heap[ta]? = some (.cells #[old] t (0,0))) :
  (ReflectliteValue.set #[.agg #[Value.pointer (some ⟨1,152,none⟩),.pointer (some ⟨ta,0,none⟩),.int .u64 409],.agg #[Value.pointer (some ⟨1,152,none⟩),.pointer (some ⟨b,0,none⟩),.int .u64 153]]).run Tryd.prog W
   = .ok (.tuple #[]) (W.setCells ta 0 [.int .i64 i]):=by
 obtain ⟨d,hu,hd,hi⟩:=sW Yj
 have hl:=run_loadVar_mid (P:=Tryd.prog) W b 0 152 [.int .i64 i] d (lK (cs:=[.int .i64 i]) (n:=1) hb rfl) hu hd hi
 have hs:=run_storeVar_mid (P:=Tryd.prog) W ta 0 152 #[.int .i64 i] (LV (cs:=[old]) (n:=1) ht (by simp)) hi (by simp [Value.oneCell'])
 rw [rls]
 simp only [Sem.run_bind,Jh,LC,Result.andThen]
 simp [ReflectliteValue.flagAddr,hl,Result.andThen,Iy,hs]
theorem as_hit (i:Int) (tb:Nat) (old:Value) (w:World) (hg:w.cell? ⟨0,0,none⟩=some (Value.iface 187 (.agg #[Value.pointer (some ⟨1,155,none⟩)]))) (ht0:w.heap[tb]? = some (.cells #[old] 152 (0,0))) :
  Calls Tryd.prog 115 #[.iface 152 (.agg #[.int .i64 i]),.iface 157 (.pointer (some ⟨tb,0,none⟩))] w fun ev w'=>ev=.returned (.bool true) ∧
   ni tb w w':=by
 have h6:=@run_callFunc_extern Tryd.prog 129 _ (fun args=>ReflectliteValue.unpack (args.getD 0 (.tuple #[]))) Tryd.func129 (by kernel_rfl) (by kernel_rfl) (by kernel_rfl) (by kernel_rfl)
 have h7:=@run_callFunc_extern Tryd.prog 130 _ (ReflectliteValue.methodAny (ReflectliteValue.valueError "reflectlite.Value.Type" 0) (fun t _ _ _=>ReflectliteType.toType t)) Tryd.func130 (by kernel_rfl) (by kernel_rfl) (by kernel_rfl) (by kernel_rfl)
 have h8:=@run_callFunc_extern Tryd.prog 131 _ (ReflectliteValue.method (ReflectliteValue.valueError "reflectlite.Value.IsNil" 0) ReflectliteValue.isNil) Tryd.func131 (by kernel_rfl) (by kernel_rfl) (by kernel_rfl) (by kernel_rfl)
 have h27:=@run_callFunc_extern Tryd.prog 151 _ (ReflectliteType.abiMethod fun t=>do pure (.int .u8 (← Rtype.kind t))) Tryd.func151 (by kernel_rfl) (by kernel_rfl) (by kernel_rfl) (by kernel_rfl)
 have h37:=@run_callFunc_extern Tryd.prog 162 _ (ReflectliteType.method ReflectliteType.elem) Tryd.func162 (by kernel_rfl) (by kernel_rfl) (by kernel_rfl) (by kernel_rfl)
 have h38:=@run_callFunc_extern Tryd.prog 163 _ (ReflectliteType.relation "Implements" ReflectliteType.implements_) Tryd.func163 (by kernel_rfl) (by kernel_rfl) (by kernel_rfl) (by kernel_rfl)
 have h10:=@run_callFunc_extern Tryd.prog 134 _ ReflectliteType.typeOf Tryd.func134 (by kernel_rfl) (by kernel_rfl) (by kernel_rfl) (by kernel_rfl)
 have h35:=@run_callFunc_extern Tryd.prog 160 _ (ReflectliteType.relation "AssignableTo" ReflectliteType.assignableTo) Tryd.func160 (by kernel_rfl) (by kernel_rfl) (by kernel_rfl) (by kernel_rfl)
 have h11:=@run_callFunc_extern Tryd.prog 135 _ (ReflectliteValue.method (ReflectliteValue.valueError "reflectlite.Value.Elem" 0) ReflectliteValue.elem) Tryd.func135 (by kernel_rfl) (by kernel_rfl) (by kernel_rfl) (by kernel_rfl)
 have h12:=@run_callFunc_extern Tryd.prog 136 _ ReflectliteValue.set Tryd.func136 (by kernel_rfl) (by kernel_rfl) (by kernel_rfl) (by kernel_rfl)
 have tO:=Iw
 have mA:=sG
 have a25:=SV
 have v25:=Gn
 have f6:=F8
 have f7:=NI
 have mK:=CG
 have mE:=CO
 have mI:=uI
 have k27:=Qa
 have k25:=O8
 have e27:=OE
 have i25:=O1
 have htl:=lt_of_heap ht0
 have n8:=KJ ⟨w.heap.size,0,none⟩ ⟨tb,0,none⟩ ((w.alloc (.cells #[.pointer (some ⟨tb,0,none⟩)] 157)).alloc (.cells #[Value.pointer (some ⟨1,157,none⟩),.pointer (some ⟨w.heap.size,0,none⟩),.int .u64 150] 176)) (by simp)
 have hlt:0 < w.heap.size:=by
  rcases Nat.eq_zero_or_pos w.heap.size with h0 | h
  ·simp [World.cell?,h0] at hg
  ·exact h
 have hg2:((w.alloc (.cells #[.pointer (some ⟨tb,0,none⟩)] 157)).alloc (.cells #[Value.pointer (some ⟨1,157,none⟩),.pointer (some ⟨w.heap.size,0,none⟩),.int .u64 150] 176)).cell? ⟨0,0,none⟩=some (Value.iface 187 (.agg #[Value.pointer (some ⟨1,155,none⟩)])):=by
  rw [World.cell?_alloc_lt _ _ ⟨0,0,none⟩ (by simp),World.cell?_alloc_lt _ _ ⟨0,0,none⟩ hlt];exact hg
 have el:=Nv ⟨w.heap.size,0,none⟩ ⟨tb,0,none⟩ (((w.alloc (.cells #[.pointer (some ⟨tb,0,none⟩)] 157)).alloc (.cells #[Value.pointer (some ⟨1,157,none⟩),.pointer (some ⟨w.heap.size,0,none⟩),.int .u64 150] 176)).alloc (.cells #[Value.pointer (some ⟨1,157,none⟩),.pointer (some ⟨w.heap.size,0,none⟩),.int .u64 150] 176)) (by rw [World.cell?_alloc_lt _ _ ⟨w.heap.size,0,none⟩ (by simp;omega)];simp)
 have st:=RI tb (w.heap.size+1+1+1) i ((((w.alloc (.cells #[.pointer (some ⟨tb,0,none⟩)] 157)).alloc (.cells #[Value.pointer (some ⟨1,157,none⟩),.pointer (some ⟨w.heap.size,0,none⟩),.int .u64 150] 176)).alloc (.cells #[Value.pointer (some ⟨1,157,none⟩),.pointer (some ⟨w.heap.size,0,none⟩),.int .u64 150] 176)).alloc (.cells #[.int .i64 i] 152))
  (by have:=heap_alloc_new (((w.alloc (.cells #[.pointer (some ⟨tb,0,none⟩)] 157)).alloc (.cells #[Value.pointer (some ⟨1,157,none⟩),.pointer (some ⟨w.heap.size,0,none⟩),.int .u64 150] 176)).alloc (.cells #[Value.pointer (some ⟨1,157,none⟩),.pointer (some ⟨w.heap.size,0,none⟩),.int .u64 150] 176)) (.cells #[.int .i64 i] 152);simpa using this)
  (old:=old) (t:=152)
  (by rw [heap_alloc_old _ _ (by simp;omega),heap_alloc_old _ _ (by simp;omega),heap_alloc_old _ _ (by simp;omega),heap_alloc_old _ _ htl];exact ht0)
 go_enter Tryd.func115,Tryd.ntmps115
 go_wp2
 refine wp_loop_rounds 1 ?_
 rw [rounds_succ]
 go_wp2
 go_ret
 refine ⟨rfl,?_⟩
 obtain ⟨q1,q2,q3,q4⟩:=qP [.int .i64 i] tb 0 ((((w.alloc (.cells #[.pointer (some ⟨tb,0,none⟩)] 157)).alloc (.cells #[Value.pointer (some ⟨1,157,none⟩),.pointer (some ⟨w.heap.size,0,none⟩),.int .u64 150] 176)).alloc (.cells #[Value.pointer (some ⟨1,157,none⟩),.pointer (some ⟨w.heap.size,0,none⟩),.int .u64 150] 176)).alloc (.cells #[.int .i64 i] 152))
 refine ⟨q1,q2,by rw [q3];simp;omega,fun j hj hjt=>(q4 j hjt).trans ?_⟩
 rw [heap_alloc_old _ _ (by simp;omega),heap_alloc_old _ _ (by simp;omega),heap_alloc_old _ _ (by simp;omega),heap_alloc_old _ _ hj]
end Go.Proofs.YtjjmefieegcddaaDoor
namespace Go.Proofs.YtjjmefieegcddaaDoor
open Go.RowKit Go.Wg Go.Mm
theorem Xt (lo hi:Int) (h:hi < 0∨hi < lo) (w:World) :
  Calls Tryd.prog 100 #[.int .i64 lo,.int .i64 hi] w fun r w'=>r=.returned (.int .u64 0)∧w'=w:=by
 by_cases h0:hi < 0
 ·go_enter Tryd.func100,Tryd.ntmps100
  go_wp2
  go_ret
  exact ⟨rfl,rfl⟩
 ·have h1:0≤hi:=by omega
  have h2:hi < lo:=by omega
  clear h h0
  go_enter Tryd.func100,Tryd.ntmps100
  go_wp2
  go_ret
  exact ⟨rfl,rfl⟩
theorem TF (lo hi:Int) (h0:0≤hi) (h:lo≤hi) (h1:40 < lo) (w:World) :
  Calls Tryd.prog 100 #[.int .i64 lo,.int .i64 hi] w fun r w'=>r=.returned (.int .u64 0)∧w'=w:=by
 have h2:0≤lo:=by omega
 go_enter Tryd.func100,Tryd.ntmps100
 go_wp2
 go_ret
 exact ⟨rfl,rfl⟩
theorem Vq (lo hi:Nat) (h:lo≤hi) (h1:hi≤40) (w:World) :
  Calls Tryd.prog 100 #[.int .i64 lo,.int .i64 hi] w fun r w'=>r=.returned (.int .u64 (qW lo hi:Nat))∧∃ n,w'=w.drewN n:=by
 have h2:(0:Int)≤hi:=by omega
 have h3:(lo:Int)≤hi:=by omega
 have h4:(lo:Int)≤40:=by omega
 have h5:(hi:Int)≤40:=by omega
 go_enter Tryd.func100,Tryd.ntmps100
 go_wp2
 go_quiet (fail)
 go_wp2
 go_ret
 refine ⟨?_,_,rfl⟩
 have:=wK lo hi h h1
 simpa using this
theorem UC (lo:Nat) (hi:Int) (h:(lo:Int)≤40) (h1:40 < hi) (w:World) :
  Calls Tryd.prog 100 #[.int .i64 lo,.int .i64 hi] w fun r w'=>r=.returned (.int .u64 (qW lo 40:Nat))∧∃ n,w'=w.drewN n:=by
 have h2:(0:Int)≤hi:=by omega
 have h3:(lo:Int)≤hi:=by omega
 go_enter Tryd.func100,Tryd.ntmps100
 go_wp2
 go_quiet (fail)
 go_wp2
 go_ret
 refine ⟨?_,_,rfl⟩
 have:=wK lo 40 (by omega) (by omega)
 simpa using this
theorem WS (lo:Int) (hi:Nat) (h:lo < 0) (h1:hi≤40) (w:World) :
  Calls Tryd.prog 100 #[.int .i64 lo,.int .i64 hi] w fun r w'=>r=.returned (.int .u64 (qW 0 hi:Nat))∧∃ n,w'=w.drewN n:=by
 have h2:(0:Int)≤hi:=by omega
 have h3:lo≤hi:=by omega
 have h5:(hi:Int)≤40:=by omega
 go_enter Tryd.func100,Tryd.ntmps100
 go_wp2
 go_quiet (fail)
 go_wp2
 go_ret
 refine ⟨?_,_,rfl⟩
 have:=wK 0 hi (by omega) h1
 simpa [wrap_u64] using this
theorem WZ (lo hi:Int) (h:lo < 0) (h1:40 < hi) (w:World) :
  Calls Tryd.prog 100 #[.int .i64 lo,.int .i64 hi] w fun r w'=>r=.returned (.int .u64 (qW 0 40:Nat))∧∃ n,w'=w.drewN n:=by
 have h2:(0:Int)≤hi:=by omega
 have h3:lo≤hi:=by omega
 go_enter Tryd.func100,Tryd.ntmps100
 go_wp2
 go_quiet (fail)
 go_wp2
 go_ret
 refine ⟨?_,_,rfl⟩
 have:=wK 0 40 (by omega) (by omega)
 simpa [wrap_u64] using this
theorem yH (lo hi:Int) (w:World) :
  Calls Tryd.prog 100 #[.int .i64 lo,.int .i64 hi] w fun r w'=>r=.returned (.int .u64 (dO lo hi:Nat))∧Kp w w':=by
 unfold dO
 by_cases h:hi < 0∨hi < lo
 ·rw [if_pos h]
  exact (Xt lo hi h w).mono fun _ _ ⟨h1,h2⟩=>⟨h1,h2 ▸ Kp.refl w⟩
 ·rw [if_neg h]
  by_cases h2:40 < lo
  ·rw [if_pos h2]
   exact (TF lo hi (by omega) (by omega) h2 w).mono fun _ _ ⟨h1,h2⟩=>⟨h1,h2 ▸ Kp.refl w⟩
  ·rw [if_neg h2]
   have key:Calls Tryd.prog 100 #[.int .i64 lo,.int .i64 hi] w fun r w'=>r=.returned (.int .u64 (qW lo.toNat (min hi 40).toNat:Nat))∧∃ n,w'=w.drewN n:=by
    by_cases h3:lo < 0
    ·by_cases h4:40 < hi
     ·have:=WZ lo hi h3 h4 w
      rwa [show lo.toNat=0 by omega,show (min hi 40).toNat=40 by omega]
     ·have:=WS lo hi.toNat h3 (by omega) w
      rw [show ((hi.toNat:Nat):Int)=hi by omega] at this
      rwa [show lo.toNat=0 by omega,show (min hi 40).toNat=hi.toNat by omega]
    ·by_cases h4:40 < hi
     ·have:=UC lo.toNat hi (by omega) h4 w
      rw [show ((lo.toNat:Nat):Int)=lo by omega] at this
      rwa [show (min hi 40).toNat=40 by omega]
     ·have:=Vq lo.toNat hi.toNat (by omega) (by omega) w
      rw [show ((lo.toNat:Nat):Int)=lo by omega,show ((hi.toNat:Nat):Int)=hi by omega] at this
      rwa [show (min hi 40).toNat=hi.toNat by omega]
   exact key.mono fun _ _ ⟨h1,n,h2⟩=>⟨h1,h2 ▸ Kp.drew w n⟩
theorem ji (m n:Nat) (hm:m < 18446744073709551616) (hn:n < 64) (w:World) :
  Calls Tryd.prog 125 #[.int .u64 m,.int .i64 n] w fun r w'=>r=.returned (.bool (m.testBit n))∧w'=w:=by
 have h1:(0:Int)≤n:=by omega
 have h2:(n:Int) < 64:=by omega
 have:=UU m n hm
 have HS:Hid ((bits .and .u64 ((m:Int) / 2 ^ n) 1 == 1)=m.testBit n):=this
 clear this
 go_enter Tryd.func125,Tryd.ntmps125
 go_wp2
 go_ret
 refine ⟨?_,rfl⟩
 have:=HS.out
 simp [← this]
theorem Xd (m v:Nat):bits .and .u64 (gZ m v 41:Int) 2199023255551=((nV m v:Nat):Int):=by
 exact rJ (gZ m v 41) 2199023255551 (Ii m v 41) (by decide)
theorem Uo (m v k:Nat) (h:m.testBit k=true):bits .or .u64 (gZ m v k:Int) (IntKind.u64.wrap ((v:Int) * 2 ^ k))=((gZ m v (k+1):Nat):Int):=by
 rw [Fh,Jw _ _ (Ii m v k) (Nat.mod_lt _ (by decide)),qA,rQ,h]
 rfl
theorem RQ (m v k:Nat) (h:m.testBit k=false):gZ m v (k+1)=gZ m v k:=by
 rw [qA,rQ,h]
 rfl
theorem yT (m v:Nat) (hm:m < 18446744073709551616) (w:World) :
  Calls Tryd.prog 120 #[.int .u64 m,.int .u64 v] w fun r w'=>r=.returned (.int .u64 (nV m v:Nat))∧Kp w w':=by
 have HE:Hid (bits .and .u64 (gZ m v 41:Int) 2199023255551=((nV m v:Nat):Int)):=Xd m v
 go_enter Tryd.func120,Tryd.ntmps120
 go_wp2
 go_loop [5,7] (fun out n=>∃ k:Nat,k≤41∧n=.int .i64 k∧out=.int .u64 (gZ m v k)) (fun _ n=>41 - (intOf n).toNat)
 case atStart=>exact ⟨0,by omega,rfl,rfl⟩
 case round =>
  obtain ⟨k,hk,rfl,rfl⟩:=hrel
  by_cases hlt:k < 41
  ·have h1:(k:Int) < 41:=by omega
   have h2:(0:Int)≤k:=by omega
   have h3:(k:Int) < 64:=by omega
   have HH:Hid (m.testBit k=true→bits .or .u64 (gZ m v k:Int) (IntKind.u64.wrap ((v:Int) * 2 ^ k))=((gZ m v (k+1):Nat):Int)):=Uo m v k
   have HM:Hid (m.testBit k=false→gZ m v (k+1)=gZ m v k):=RQ m v k
   go_wp2_with (refine (ji m k hm (by omega) _).mono ?_;rintro _ w' ⟨rfl,rfl⟩)
   all_goals go_round
   case rel=>exact ⟨k+1,by omega,by go_num,by rw [HH.out (by assumption)]⟩
   case measure=>simp [intOf];omega
   case rel=>exact ⟨k+1,by omega,by go_num,by rw [HM.out (by assumption)]⟩
   case measure=>simp [intOf];omega
  ·obtain rfl:k=41:=by omega
   go_wp2
   go_ret
   refine ⟨?_,Kp.refl _⟩
   rw [← HE.out]
   rfl
theorem sV (s:SS) (hs:s.WF) (i:Nat) (hi:i < 6) (n:Int) (w:World) :
  Calls Tryd.prog 84 #[.agg (dJ s).toArray,.int .i64 i,.int .i64 n] w fun r w'=>r=.returned (.agg (dJ (s.weighed i n)).toArray)∧Kp w w':=by
 have hi1:(0:Int)≤i:=by omega
 have hi2:(i:Int) < 6:=by omega
 have hx:=oh hs hi
 have HB:Hid (bits .and .u64 (s.aK i:Int) (dO n n:Int)=((s.aK i &&& dO n n:Nat):Int)):=rJ _ _ (by have:=hs.fZ i;omega) (by have:=rG n n;omega)
 have HL:(dJ s).length=18:=dG hs
 have HL':∀ m,(dJ (s.cu i m)).length=18:=fun m=>by rw [← pO hs hi];simpa using HL
 have hS:=St.start w (fun _=>none) (fun k o h=>by cases h)
 go_enter Tryd.func84,Tryd.ntmps84
 go_wp2_with ((first | ((with_reducible refine gA ?_);refine dM hS rfl rfl ?_) | ((with_reducible refine gB ?_);refine jQ hS rfl rfl rfl ?_;refine ⟨_,za,?_⟩));clear hS;(try clear w');intro _;refine zF ?_;intro w' hS)
 (refine aY 10 (by kernel_rfl) (by kernel_rfl) (St.eY hS) ?_;simp only [List.take_succ_cons,List.take_zero,List.drop_succ_cons,List.drop_zero];clear hS;(repeat ((go_big_quiet_want;(first | ((with_reducible refine Xf ?_);refine jW rfl rfl ?_;refine zF ?_) | ((with_reducible refine Uj ?_);(refine pq rfl rfl ?_);refine ⟨_,zd,?_⟩;refine zF ?_) | ((with_reducible refine YW ?_);refine mF ?_;refine ⟨_,_,by (intro _;go_simp;exact ⟨rfl,rfl⟩),?_⟩;refine ⟨_,by (intro w' hS;((go_at_call 100;exact yH _ _ _))),?_⟩;refine zF ?_) | (refine gu ?_;refine ⟨_,zp,?_⟩;refine zF ?_));go_big_quiet_on)));refine wpQuiet_nil ?_;(try clear w');intro w' hS)
 go_wp2_with (((first | ((with_reducible refine gL ?_);refine lW hS rfl rfl rfl ?_) | ((with_reducible refine gS ?_);first | refine pX hS rfl rfl rfl ?_ | refine bQ hS rfl rfl rfl ?_));refine ⟨_,zd,?_⟩;clear hS;(try clear w');refine zF ?_;intro w' hS;(try simp only [sE] at hS));try (simp only [HB.out,pO hs hi] at hS))
 ((try simp only [Exit.inBlock,Exit.then]);(try refine aB ?_);refine bK ⟨_,by exact bH (r1:=.cell 6 100) (by kernel_rfl) (by exact rX hS rfl zd),?_⟩ rfl)
 exact ⟨rfl,hS.bM⟩
theorem YF (V:View) (p:Nat) (k:Wk) (hC:jh V p k) (s:SS) (hs:s.WF) (w:World) (hV:V.In w) :
  Calls Tryd.prog 92 #[ptr p,.agg (dJ s).toArray] w fun r w'=>r=.returned (.agg (mM (up k s)).toArray)∧Kp w w':=by
 obtain ⟨ts,vv,rv,hC⟩:=hC
 obtain ⟨g,cap,hc2,hts⟩:=hC.c2
 have hn0:=hC.pos
 have hn6:=hC.le
 have HL:(dJ s).length=18:=dG hs
 have hS:=St.start w V hV
 unfold ptr
 go_enter Tryd.func92,Tryd.ntmps92
 go_wp2_with (first | (((with_reducible refine gL ?_);refine nC hS rfl rfl rfl ?_);refine ⟨_,zd,?_⟩;clear hS;(try clear w');refine zF ?_;intro w' hS) | ((with_reducible refine gB ?_);refine iK 3 rfl hS rfl rfl rfl ?_;refine ⟨_,za,?_⟩;clear hS;(try clear w');intro b3;refine zF ?_;intro w' hS) | ((with_reducible refine gA ?_);refine aT 4 rfl hS rfl rfl ?_;clear hS;(try clear w');intro b4;refine zF ?_;intro w' hS) | ((with_reducible refine gA ?_);refine aT 5 rfl hS rfl rfl ?_;clear hS;(try clear w');intro b5;refine zF ?_;intro w' hS))
 go_loopw [6] (fun i wr=>∃ m:Nat,m≤k.n∧i=.int .i64 ((k.n:Int) - 1 - m)∧St w [] V [.blk b5 96 (mM (mJ k s m)),.blk b4 96 (List.replicate 6 (.int .u64 0)),.blk b3 100 (dJ s)] wr) (fun i _=>((intOf i)+1).toNat)
 case atStart=>exact ⟨0,by omega,by simp,hS⟩
 case round =>
  clear hS
  obtain ⟨m,hm,rfl,hS⟩:=hrel
  by_cases hlt:m < k.n
  ·obtain ⟨i,hi⟩:∃ i,i+m+1=k.n:=⟨k.n - 1 - m,by omega⟩
   have hii:k.n - 1 - m=i:=by omega
   have e1:(k.n:Int) - 1 - m=(i:Int):=by omega
   rw [e1]
   have h0:(0:Int)≤i:=by omega
   have h1:(i:Int) < 6:=by omega
   have h2:(i:Int) < k.n:=by omega
   have h6:i < 6:=by omega
   have hl:=oh hs h6
   have hlo:=Us hs h6
   have hhi:=Pm hs h6
   have hti:=hts i (by omega)
   obtain ⟨fv,hf5,hfs⟩:=hC.fil i (by omega)
   obtain ⟨fa,fcap,rfl,hfc,hfm,hfe⟩:=hfs.is
   have HO:(mM (mJ k s m)).length=6:=by rw [cZ,kZ]
   unfold ptr at hti
   generalize ts.getD i 0=ti at hti hf5
   have HE:mJ k s (m+1)=(mJ k s m).set i (uX k s (mJ k s m) i):=by rw [mJ,hii]
   replace HE:=aj HE
   have HM:(i:Int) - 1=(k.n:Int) - 1 - ((m+1:Nat):Int):=by omega
   replace HM:=aj HM
   by_cases hf:k.fills i=[]
   ·have HU:uX k s (mJ k s m) i=s.aK i:=by rw [uX,if_pos hf]
    replace HU:=aj HU
    rw [hf] at hf5
    simp only [List.length_nil] at hf5
    clear hfs hfe hfc
    go_wp2_with ((first | ((with_reducible refine gL ?_);first | refine gY hS rfl rfl rfl ?_ | refine nC hS rfl rfl rfl ?_) | ((with_reducible refine gS ?_);refine pX hS rfl rfl rfl ?_));refine ⟨_,zd,?_⟩;clear hS;(try clear w');refine zF ?_;intro w' hS;(try simp only [sE] at hS))
    go_roundw
    case rel =>
     refine ⟨m+1,by omega,by rw [HM.out],?_⟩
     rw [HE.out,HU.out,← yR];exact hS
    case measure =>
     show ((i:Int) - 1+1).toNat < ((i:Int)+1).toNat
     omega
   ·have hfl:0 < (k.fills i).length:=List.length_pos_iff.2 hf
    obtain ⟨fg,fo,rfl,hfr⟩:=hfe hfl
    have hfl':(((k.fills i).length:Int) == 0)=false:=by rw [beq_eq_false_iff_ne];omega
    have hfl2:(k.fills i).length≤6:=by
     have:=List.length_filter_le (fun j=>(k.v j).from_ == (i:Int)) (List.range k.n)
     rw [List.length_range] at this
     exact Nat.le_trans this hn6
    obtain ⟨out,hout⟩:∃ out,(mJ k s m).set i (s.aK i)=out:=⟨_,rfl⟩
    have hlen:out.length=6:=by rw [← hout];simp [kZ]
    have HU:uX k s (mJ k s m) i=s.aK i &&& nV (sums out (k.fills i)) (dO (s.aP i).1 (s.aP i).2):=by rw [uX,if_neg hf,hout]
    replace HU:=aj HU
    have HW:=yR (mJ k s m) i (s.aK i)
    rw [hout] at HW
    replace HW:=aj HW
    have HOi:out.getD i 0=s.aK i:=by rw [← hout,List.getD_eq_getElem?_getD];simp [kZ,h6]
    have HF:out.set i (uX k s (mJ k s m) i)=mJ k s (m+1):=by rw [HE.out,← hout,List.set_set]
    replace HF:=aj HF
    have hoi:=wF (l:=out) (i:=i) (by omega)
    rw [HOi] at hoi
    replace HOi:=aj HOi
    replace hout:=aj hout
    have HO':(mM out).length=6:=by rw [cZ,hlen]
    go_wp2_with (((first | ((with_reducible refine gL ?_);first | refine gY hS rfl rfl rfl ?_ | refine nC hS rfl rfl rfl ?_) | ((with_reducible refine gS ?_);refine pX hS rfl rfl rfl ?_));refine ⟨_,zd,?_⟩;clear hS;(try clear w');refine zF ?_;intro w' hS;(try simp only [sE] at hS));try (simp only [HW.out] at hS))
    go_loopw [8,45] (fun sm j wr=>∃ q:Nat,q≤(k.fills i).length∧j=.int .i64 q∧sm=.int .u64 (sums out ((k.fills i).take q):Nat)∧St w [] V [.blk b5 96 (mM out),.blk b4 96 (List.replicate 6 (.int .u64 0)),.blk b3 100 (dJ s)] wr) (fun _ j _=>(k.fills i).length - (intOf j).toNat)
    case atStart=>exact ⟨0,by omega,rfl,rfl,hS⟩
    case round =>
     clear hS
     obtain ⟨q,hq,rfl,rfl,hS⟩:=hrel
     by_cases hql:q < (k.fills i).length
     ·have hq1:(q:Int) < (k.fills i).length:=by omega
      have hq0:(0:Int)≤q:=by omega
      obtain ⟨x,hx⟩:∃ x,(k.fills i).getD q 0=x:=⟨_,rfl⟩
      have hx6:x < k.n:=by
       have:x∈k.fills i:=by rw [← hx,List.getD_eq_getElem?_getD,List.getElem?_eq_getElem hql];exact List.getElem_mem _
       exact List.mem_range.1 (List.mem_filter.1 this).1
      have hpx:=hfr q hql 0 _ rfl
      have htx:=hC.tun x hx6 4 _ rfl
      simp only [hx,Nat.mul_one,Nat.add_zero,Nat.zero_add,ptr] at hpx htx
      generalize ts.getD x 0=tx at hpx htx
      have hxo:=wF (l:=out) (i:=x) (by omega)
      have hx1:(x:Int) < 6:=by omega
      have hx0:(0:Int)≤x:=by omega
      have HT:=Rt out (k.fills i) q hql
      rw [hx] at HT
      have hox:out.getD x 0 < 2199023255552:=by rw [← hout.out];exact Vx (Xp hs m) (hs.fZ i) i x
      generalize out.getD x 0=ox at hxo HT hox
      replace HT:=aj HT
      have hsm:=QN out ((k.fills i).take q)
      clear hfr hti hf5 hfs hx
      go_wp2_with (first | (((with_reducible refine gL ?_);first | refine gY hS rfl rfl rfl ?_ | refine nC hS rfl rfl rfl ?_);refine ⟨_,zd,?_⟩;clear hS;(try clear w');refine zF ?_;intro w' hS) | ((with_reducible refine gC ?_);refine aH hS ⟨_,by (go_at_call 120;exact yT _ _ zc _),?_⟩;clear hS;(try clear w');intro w' hS))
      go_roundw
      case rel=>exact ⟨q+1,by omega,by go_num,by rw [HT.out],hS⟩
      case measure=>simp [intOf];omega
     ·obtain rfl:q=(k.fills i).length:=by omega
      simp only [List.take_length] at *
      have hsm:=QN out (k.fills i)
      go_wp2_with (fail)
      (refine aY 18 (by kernel_rfl) (by kernel_rfl) (St.eY hS) ?_;simp only [List.take_succ_cons,List.take_zero,List.drop_succ_cons,List.drop_zero];clear hS;(repeat ((go_big_quiet_want;(first | ((with_reducible refine Xf ?_);refine jW rfl rfl ?_;refine zF ?_) | ((with_reducible refine Uj ?_);(refine pq rfl rfl ?_);refine ⟨_,zd,?_⟩;refine zF ?_) | ((with_reducible refine YW ?_);refine mF ?_;refine ⟨_,_,by (intro _;go_simp;exact ⟨rfl,rfl⟩),?_⟩;refine ⟨_,by (intro w' hS;(first | (go_at_call 100;exact yH _ _ _) | (go_at_call 120;exact yT _ _ zc _))),?_⟩;refine zF ?_) | (refine gu ?_;refine ⟨_,zp,?_⟩;refine zF ?_));go_big_quiet_on)));refine wpQuiet_nil ?_;(try clear w');intro w' hS)
      have HB:=rJ (s.aK i) (nV (sums out (k.fills i)) (dO (s.aP i).1 (s.aP i).2)) (by have:=hs.fZ i;omega) (by have:=JX (sums out (k.fills i)) (dO (s.aP i).1 (s.aP i).2);omega)
      replace HB:=aj HB
      have HS2:=yR out i (uX k s (mJ k s m) i)
      rw [HF.out] at HS2
      replace HS2:=aj HS2
      go_wp2_with ((((with_reducible refine gS ?_);refine pX hS rfl rfl rfl ?_);refine ⟨_,zd,?_⟩;clear hS;(try clear w');refine zF ?_;intro w' hS;(try simp only [sE] at hS));try (simp only [HB.out,← HU.out,HS2.out] at hS))
      go_roundw
      case rel=>exact ⟨m+1,by omega,by rw [HM.out],hS⟩
      case measure =>
       show ((i:Int) - 1+1).toNat < ((i:Int)+1).toNat
       omega
  ·obtain rfl:m=k.n:=by omega
   have e1:(k.n:Int) - 1 - k.n=-1:=by omega
   rw [e1]
   have HO:(mM (mJ k s k.n)).length=6:=by rw [cZ,kZ]
   go_wp2_with ((first | ((with_reducible refine gL ?_);refine lW hS rfl rfl rfl ?_) | ((with_reducible refine gS ?_);refine bQ hS rfl rfl rfl ?_));refine ⟨_,zd,?_⟩;clear hS;(try clear w');refine zF ?_;intro w' hS;(try simp only [sE] at hS))
   ((try simp only [Exit.inBlock,Exit.then]);(try refine aB ?_);refine bK ⟨_,by exact bH (r1:=.cell 4 96) (by kernel_rfl) (by exact rX hS rfl zd),?_⟩ rfl)
   exact ⟨rfl,hS.bM⟩
theorem wW (V:View) (p:Nat) (k:Wk) (hC:jh V p k) (s:SS) (hs:s.WF) (w:World) (hV:V.In w) :
  Calls Tryd.prog 116 #[ptr p,.agg (dJ s).toArray] w fun r w'=>r=.returned (lN k s)∧Kp w w':=by
 obtain ⟨ts,vv,rv,hC'⟩:=id hC
 obtain ⟨g,cap,hc2,hts⟩:=hC'.c2
 have hn0:=hC'.pos
 have hn6:=hC'.le
 have HL:(dJ s).length=18:=dG hs
 have HU:(mM (up k s)).length=6:=by rw [cZ];exact kZ k s _
 have hS:=St.start w V hV
 clear hts hC'
 unfold ptr
 go_enter Tryd.func116,Tryd.ntmps116
 go_wp2_with (first | (first | ((first | ((with_reducible refine gL ?_);first | refine lW hS rfl rfl rfl ?_ | refine nC hS rfl rfl rfl ?_) | ((with_reducible refine gS ?_);refine bQ hS rfl rfl rfl ?_));refine ⟨_,zd,?_⟩;clear hS;(try clear w');refine zF ?_;intro w' hS;(try simp only [sE] at hS)) | ((with_reducible refine gB ?_);refine iK 3 rfl hS rfl rfl rfl ?_;refine ⟨_,za,?_⟩;clear hS;(try clear w');intro b3;refine zF ?_;intro w' hS) | ((with_reducible refine gA ?_);refine aT 5 rfl hS rfl rfl ?_;clear hS;(try clear w');intro b5;refine zF ?_;intro w' hS)) | ((with_reducible refine gC ?_);refine aH hS ⟨_,by (go_at_call 92;exact YF _ _ _ (by assumption) _ zc _ (St.view (by assumption))),?_⟩;clear hS;(try clear w');intro w' hS))
 go_loopw [6] (fun i wr=>∃ m:Nat,m≤k.n∧i=.int .i64 ((k.n:Int) - 1 - m)∧(∀ j,k.n - m≤j→j < k.n→(up k s).getD j 0≠0)∧St w [] V [.blk b5 96 (mM (up k s)),.blk b3 100 (dJ s)] wr) (fun i _=>((intOf i)+1).toNat)
 case atStart=>exact ⟨0,by omega,by simp,fun j h1 h2=>by omega,hS⟩
 case round =>
  clear hS
  obtain ⟨m,hm,rfl,hz,hS⟩:=hrel
  by_cases hlt:m < k.n
  ·obtain ⟨i,hi⟩:∃ i,i+m+1=k.n:=⟨k.n - 1 - m,by omega⟩
   have e1:(k.n:Int) - 1 - m=(i:Int):=by omega
   rw [e1]
   have h0:(0:Int)≤i:=by omega
   have h1:(i:Int) < 6:=by omega
   have HM:(i:Int) - 1=(k.n:Int) - 1 - ((m+1:Nat):Int):=by omega
   replace HM:=aj HM
   have hu:=wF (l:=up k s) (i:=i) (by rw [cZ] at HU;omega)
   have HZ:(up k s).getD i 0=0→Go.Wg.settle k s=some i:=fun h=>MH (by omega) h fun j h1 h2=>hz j (by omega) h2
   have HN:(up k s).getD i 0≠0→∀ j,k.n - (m+1)≤j→j < k.n→(up k s).getD j 0≠0:=fun h j h1 h2=>by
    rcases Nat.lt_or_ge i j with h3 | h3
    ·exact hz j (by omega) h2
    ·obtain rfl:j=i:=by omega
     exact h
   replace HZ:=aj HZ;replace HN:=aj HN;replace hz:=aj hz
   generalize (up k s).getD i 0=u at hu HZ HN
   by_cases hu0:u=0
   ·subst hu0
    go_wp2_with (((with_reducible refine gL ?_);refine gY hS rfl rfl rfl ?_);refine ⟨_,zd,?_⟩;clear hS;(try clear w');refine zF ?_;intro w' hS)
    go_ret
    refine ⟨?_,hS.bM⟩
    unfold lN
    rw [HZ.out (by simp)]
    rfl
   ·have hu1:(((u:Nat):Int) == 0)=false:=by rw [beq_eq_false_iff_ne];omega
    go_wp2_with (((with_reducible refine gL ?_);refine gY hS rfl rfl rfl ?_);refine ⟨_,zd,?_⟩;clear hS;(try clear w');refine zF ?_;intro w' hS)
    go_roundw
    case rel=>exact ⟨m+1,by omega,by rw [HM.out],HN.out hu0,hS⟩
    case measure =>
     show ((i:Int) - 1+1).toNat < ((i:Int)+1).toNat
     omega
  ·obtain rfl:m=k.n:=by omega
   have e1:(k.n:Int) - 1 - k.n=-1:=by omega
   rw [e1]
   have HN:Go.Wg.settle k s=none:=aeL fun j hj=>hz j (by omega) hj
   replace HN:=aj HN;clear hz
   go_wp2_with (fail)
   go_ret
   refine ⟨?_,hS.bM⟩
   unfold lN
   rw [HN.out]
   rfl
abbrev GV (V:View):Prop:=V.Cell 0 0 XF
theorem Dx (V:View) (p:Nat) (k:Wk) (hC:jh V p k) (hG:GV V) (s:SS) (hs:s.WF) (w:World) (hV:V.In w) :
  Calls Tryd.prog 78 #[ptr p,.agg (dJ s).toArray] w fun r w'=>r=.returned (.bool (can k s))∧Kp w w':=by
 have HL:(dJ s).length=18:=dG hs
 have hS:=St.start w V hV
 unfold can
 cases hst:Go.Wg.settle k s with
 | none =>
  have HV:lN k s=.nilIface:=by unfold lN;rw [hst]
  replace hst:=aj hst
  go_enter Tryd.func78,Tryd.ntmps78
  go_wp2_with (first | (first | (((with_reducible refine gL ?_);refine lW hS rfl rfl rfl ?_);refine ⟨_,zd,?_⟩;clear hS;(try clear w');refine zF ?_;intro w' hS) | ((first | ((with_reducible refine gA ?_);refine dM hS rfl rfl ?_) | ((with_reducible refine gB ?_);refine jQ hS rfl rfl rfl ?_;refine ⟨_,za,?_⟩));clear hS;(try clear w');intro _;refine zF ?_;intro w' hS)) | ((with_reducible refine gC ?_);refine aH hS ⟨_,by (go_at_call 116;exact wW _ _ _ (by assumption) _ zc _ (St.view (by assumption))),?_⟩;clear hS;(try clear w');intro w' hS) | (go_at_call 115;refine (as_nil _ _).mono ?_;rintro _ w' ⟨rfl,rfl⟩))
  go_ret
  exact ⟨rfl,hS.bM⟩
 | some i =>
  have HV:lN k s=.iface 152 (.agg #[.int .i64 (i:Int)]):=by unfold lN;rw [hst]
  replace hst:=aj hst
  go_enter Tryd.func78,Tryd.ntmps78
  go_wp2_with (first | (first | (((with_reducible refine gL ?_);refine lW hS rfl rfl rfl ?_);refine ⟨_,zd,?_⟩;clear hS;(try clear w');refine zF ?_;intro w' hS) | ((first | ((with_reducible refine gA ?_);refine dM hS rfl rfl ?_) | ((with_reducible refine gB ?_);refine jQ hS rfl rfl rfl ?_;refine ⟨_,za,?_⟩));clear hS;(try clear w');intro _;refine zF ?_;intro w' hS)) | ((with_reducible refine gC ?_);refine aH hS ⟨_,by (go_at_call 116;exact wW _ _ _ (by assumption) _ zc _ (St.view (by assumption))),?_⟩;clear hS;(try clear w');intro w' hS) | (go_at_call 115;refine (as_hit _ _ _ _ (View.Cell.cell hG hS.view) (hS.at (j:=0) rfl)).mono ?_;rintro _ w' ⟨rfl,hk⟩;replace hS:=hS.but rfl hk;clear hk))
  go_ret
  exact ⟨rfl,hS.bM⟩
end Go.Proofs.YtjjmefieegcddaaDoor
