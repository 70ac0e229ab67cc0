/- A part of the proof: S9, Q3, Q4, S10, S11, S12, S13, S14, S15, S16, S17, W7. -/
import Derived.Test.YtjjmefieegcddaaDoorB06
import Derived.Test.YtjjmefieegcddaaDoorB02
import Derived.LaidEql
import Derived.Stop.Asserts
import Derived.RowKitTokens
set_option linter.unusedVariables false
set_option linter.unusedSimpArgs false
namespace Go.Wg
open Go Go.Mm
def Pb (c:Int) (p:Int × Int):Prop:=-c≤p.1∧p.1≤c∧-c≤p.2∧p.2≤c
def Gr.Bd (g:Gr) (c:Int):Prop:=∀ p∈g.at_,Pb c p
theorem Pb.mono {c d:Int} {p:Int × Int} (h:Pb c p) (hd:c≤d):Pb d p:=by unfold Pb at *;omega
theorem Gr.Bd.mono {g:Gr} {c d:Int} (h:g.Bd c) (hd:c≤d):g.Bd d:=fun p hp=>(h p hp).mono hd
theorem Gr.Bd.get {g:Gr} {c:Int} (h:g.Bd c) (hc:0≤c) (n:Nat):Pb c (g.get n):=by
 unfold Gr.get
 rw [List.getD_eq_getElem?_getD]
 cases hg:g.at_[n]? with
 | none=>unfold Pb;simp;omega
 | some p=>exact h p (List.mem_of_getElem? hg)
theorem Gr.empty_bd:Gr.empty.Bd 0:=fun p hp=>by
 simp [Gr.empty] at hp
 subst hp;unfold Pb;simp
theorem Pb.wider {c:Int} {p q:Int × Int} (h:Pb c p) (k:Pb c q):Pb c (widerS p q):=by unfold Pb widerS at *;simp only;omega
theorem Pb.both {c d:Int} {p q:Int × Int} (h:Pb c p) (k:Pb d q):Pb (c+d) (bothS p q):=by unfold Pb bothS at *;simp only;omega
theorem Gr.Bd.add {g:Gr} {c:Int} (h:g.Bd c) (hc:0≤c) (n:Nat) {v:Int × Int} (hv:Pb c v):(g.add n v).Bd c:=fun p hp=>by
 rcases List.mem_or_eq_of_mem_set hp with hp | rfl
 ·exact h p hp
 ·split
  ·exact (h.get hc n).wider hv
  ·exact hv
theorem leafTo_bd (s:SS) (st:Bool) (i m:Nat) (hm:m≤41):(leafTo s st i m).Bd 40:=by
 induction m with
 | zero=>exact Gr.empty_bd.mono (by decide)
 | succ m ih =>
  rw [leafTo]
  split
  ·refine (ih (by omega)).add (by decide) _ ?_
   split
   ·unfold Pb;simp only;omega
   ·unfold Pb;simp
  ·exact ih (by omega)
theorem rowTo_bd {a b g:Gr} {ca cb:Int} (ha:a.Bd ca) (hb:b.Bd cb) (h1:0≤ca) (h2:0≤cb) (x:Nat) (hg:g.Bd (ca+cb)) (m:Nat):(rowTo a b x g m).Bd (ca+cb):=by
 induction m with
 | zero=>exact hg
 | succ m ih =>
  rw [rowTo]
  split
  ·exact ih.add (by omega) _ ((ha.get h1 x).both (hb.get h2 m))
  ·exact ih
theorem joinTo_bd {a b:Gr} {ca cb:Int} (ha:a.Bd ca) (hb:b.Bd cb) (h1:0≤ca) (h2:0≤cb) (x:Nat):(joinTo a b x).Bd (ca+cb):=by
 induction x with
 | zero=>exact Gr.empty_bd.mono (by omega)
 | succ x ih=>rw [joinTo];exact rowTo_bd ha hb h1 h2 x ih _
theorem fold_bd {F:Nat→Gr} {c:Int} (hc:0≤c):∀ (l:List Nat) (g:Gr) (d:Int),0≤d→g.Bd d→(∀ x∈l,(F x).Bd c)→(l.foldl (fun sm x=>joinG sm (F x)) g).Bd (d+l.length * c)
 | [],g,d,_,h,_=>by simpa using h
 | x :: l,g,d,hd,h,hl=>by
  have:=fold_bd hc l (joinG g (F x)) (d+c) (by omega) (joinTo_bd h (hl x (by simp)) hd hc 41) fun y hy=>hl y (by simp [hy])
  refine this.mono ?_
  rw [List.length_cons,Int.natCast_add,Int.add_mul]
  simp;omega
theorem lossRow_bd {sums g:Gr} {c:Int} (hs:sums.Bd c) (hc:0≤c) (lim:Nat) (st:Bool) (lo:Int) (hlo:0≤lo) (x:Nat) (hg:g.Bd (c+40)) (m:Nat) (hm:lo+m≤41):(lossRow sums lim st lo x g m).Bd (c+40):=by
 induction m with
 | zero=>exact hg
 | succ m ih =>
  have ih:=ih (by omega)
  rw [lossRow]
  split
  ·refine ih.add (by omega) _ ?_
   split
   ·exact (hs.get hc x).mono (by omega)
   ·exact (hs.get hc x).both (by unfold Pb;simp only;omega)
  ·exact ih
theorem lossTo'_bd {sums:Gr} {c:Int} (hs:sums.Bd c) (hc:0≤c) (lim:Nat) (st:Bool) (lo hi:Int) (hlo:0≤lo) (x:Nat):(lossTo' sums lim st lo hi x).Bd (c+40):=by
 induction x with
 | zero=>exact Gr.empty_bd.mono (by omega)
 | succ x ih =>
  rw [lossTo']
  by_cases h0:lossN lo hi x=0
  ·rw [h0];exact ih
  ·refine lossRow_bd hs hc _ _ _ hlo _ ih _ ?_
   unfold lossN at h0 ⊢
   omega
theorem fills_len (k:Wk) (i:Nat):(k.fills i).length≤k.n:=by
 have:=List.length_filter_le (fun j=>(k.v j).from_ == (i:Int)) (List.range k.n)
 rwa [List.length_range] at this
theorem spreadF_bd (k:Wk) (hk:k.n≤6) (s:SS) (st:Bool) (hlo:∀ i,0≤(s.losAt i).1) (f i:Nat):(spreadF k s st f i).Bd (100 * 7 ^ f):=by
 induction f generalizing i with
 | zero=>exact Gr.empty_bd.mono (by decide)
 | succ f ih =>
  have hp:(0:Int) < 7 ^ f:=Int.pow_pos (by decide)
  have e:(100 * 7 ^ (f+1):Int)=700 * 7 ^ f:=by rw [Int.pow_succ];omega
  rw [spreadF,e]
  split
  ·exact (leafTo_bd s st i 41 (by omega)).mono (by omega)
  ·have h1:=fold_bd (F:=fun x=>spreadF k s st f x) (c:=100 * 7 ^ f) (by omega) (k.fills i) (Gr.empty.add 0 (0,0)) 0 (by decide) (Gr.empty_bd.add (by decide) 0 (by unfold Pb;simp)) fun x _=>ih x
   have hl:=fills_len k i
   have h2:((k.fills i).length:Int) * (100 * 7 ^ f)≤6 * (100 * 7 ^ f):=Int.mul_le_mul_of_nonneg_right (by omega) (by omega)
   exact (lossTo'_bd (h1.mono (d:=600 * 7 ^ f) (by omega)) (by omega) _ _ _ _ (hlo i) 41).mono (by omega)
end Go.Wg
namespace Go.Mm
open Go
class SubL (L' L:List Ent):Prop where
 ok:L'.Sublist L
instance SubL.nil {L:List Ent}:SubL [] L:=⟨List.nil_sublist _⟩
instance SubL.skip {e:Ent} {L' L:List Ent} [h:SubL L' L]:SubL L' (e :: L):=⟨h.ok.cons e⟩
instance SubL.cons {e:Ent} {L' L:List Ent} [h:SubL L' L]:SubL (e :: L') (e :: L):=⟨h.ok.cons_cons e⟩
theorem St.subI {w0 w:World} {X:List Nat} {V:View} {L L':List Ent} (h:St w0 X V L w) [hs:SubL L' L]:St w0 X V L' w:=h.sub hs.ok
variable {P:Program}
section
variable {w0:World} {X:List Nat} {V:View} {L:List Ent} {w:World}
variable {l:List Oper} {md:Region.Mode} {o:Oper} {a:Act} {Q:Exit→Act→World→Prop} {S:World→Prop} {fuel:Nat} {listed:Array Bool}
theorem held_start {id:Nat} {l:List Oper} (bs:List Bool) (hb:bs=List.replicate l.length false) (hm:P.follows .mixedOrders=true)
  (h:wpAnyH P .any l.toArray Q S l.length bs.toArray a { w with drawn:=w.drawn+1 }):(Code.region id l.toArray true).wp P Q a w:=by
 subst hb
 refine wp_region_held (S:=S) hm ?_
 have e:(List.replicate l.length false).toArray=Array.replicate l.toArray.size false:=by apply Array.ext';simp
 rw [e] at h
 simpa using h
theorem hi_of {i:Nat} (h:l[i]? = some o):l.toArray[i]? = some o:=by simpa using h
theorem ht_mv (i:Nat) (hi₀:l[i]? = some o) (hs:Region.noSelect l.toArray=true) (hf:Region.free md l.toArray listed i=true) (hr:(Region.ready md l.toArray listed).contains i=true)
  {x:Operand} (ho:o.op=.move x) {v:Value} (hx:evalL a x=some v) (hQ:∀ c a w,Q (.panic c) (a.put o.dst v) w→Q (.panic c) a w) (hw:Region.wanted o (yielded l.toArray a.tmps)=true) (hS:S w)
  (h:∀ a' l',a.put o.dst v=a'→listed.setIfInBounds i true=l'→wpAnyH P md l.toArray Q S fuel l' a' w):wpAnyH P md l.toArray Q S (fuel+1) listed a w :=
 wpAnyH_take (hi_of hi₀) hs hf hr hQ (.inl ⟨hw,fun w _=>by have:=evalL_ok hx;exact this ▸ BigFrame.run_move x ho w⟩) hS (h _ _ rfl rfl)
theorem ht_pure (i:Nat) (hi₀:l[i]? = some o) (hs:Region.noSelect l.toArray=true) (hf:Region.free md l.toArray listed i=true) (hr:(Region.ready md l.toArray listed).contains i=true)
  (hQ:∀ v c a w,Q (.panic c) (a.put o.dst v) w→Q (.panic c) a w) (hw:Region.wanted o (yielded l.toArray a.tmps)=true) (hS:S w)
  (h:∃ v,(∀ w,(execOp a.eval o).run P w=.ok (.value v) w)∧∀ a' l',a.put o.dst v=a'→listed.setIfInBounds i true=l'→wpAnyH P md l.toArray Q S fuel l' a' w):wpAnyH P md l.toArray Q S (fuel+1) listed a w:=by
 obtain ⟨v,hv,h⟩:=h
 exact wpAnyH_take (hi_of hi₀) hs hf hr (hQ v) (.inl ⟨hw,fun w _=>hv w⟩) hS (h _ _ rfl rfl)
theorem ht_l1 (i:Nat) (hi₀:l[i]? = some o) (hs:Region.noSelect l.toArray=true) (hf:Region.free md l.toArray listed i=true) (hr:(Region.ready md l.toArray listed).contains i=true)
  (hQ:∀ v c a w,Q (.panic c) (a.put o.dst v) w→Q (.panic c) a w) (hw:Region.wanted o (yielded l.toArray a.tmps)=true) (hS:St w0 X V L w)
  {ty:TypeId} {x:Operand} (ho:o.op=.load ty x) {b k:Nat} (hx:a.eval x=.pointer (some ⟨b,k,none⟩)) {j:Nat} {t:TypeId} {cs:List Value} [hj:Hs L b j t cs] [hty:OneT P ty]
  (h:∃ v,cs[k]? = some v∧∀ a' l',a.put o.dst v=a'→listed.setIfInBounds i true=l'→wpAnyH P md l.toArray Q (St w0 X V L) fuel l' a' w):wpAnyH P md l.toArray Q (St w0 X V L) (fuel+1) listed a w:=by
 obtain ⟨v,hv,h⟩:=h
 exact wpAnyH_take (hi_of hi₀) hs hf hr (hQ v) (yif_load1 ho j hw hx hj.ok hty.ok hv) hS (h _ _ rfl rfl)
theorem ht_ln (i:Nat) (hi₀:l[i]? = some o) (hs:Region.noSelect l.toArray=true) (hf:Region.free md l.toArray listed i=true) (hr:(Region.ready md l.toArray listed).contains i=true)
  (hQ:∀ v c a w,Q (.panic c) (a.put o.dst v) w→Q (.panic c) a w) (hw:Region.wanted o (yielded l.toArray a.tmps)=true) (hS:St w0 X V L w)
  {ty:TypeId} {x:Operand} (ho:o.op=.load ty x) {b k:Nat} (hx:a.eval x=.pointer (some ⟨b,k,none⟩)) {j n:Nat} {t:TypeId} {cs:List Value} [hj:Hs L b j t cs] [hty:RowT P ty n]
  (h:∃ vs,PartOf cs k n vs∧∀ a' l',a.put o.dst (.agg vs.toArray)=a'→listed.setIfInBounds i true=l'→wpAnyH P md l.toArray Q (St w0 X V L) fuel l' a' w):wpAnyH P md l.toArray Q (St w0 X V L) (fuel+1) listed a w:=by
 obtain ⟨v,hv,h⟩:=h
 exact wpAnyH_take (hi_of hi₀) hs hf hr (hQ _) (yif_loadn ho j hw hx hj.ok hty.ok hv.part hv.len) hS (h _ _ rfl rfl)
theorem ht_v1 (i:Nat) (hi₀:l[i]? = some o) (hs:Region.noSelect l.toArray=true) (hf:Region.free md l.toArray listed i=true) (hr:(Region.ready md l.toArray listed).contains i=true)
  (hQ:∀ v c a w,Q (.panic c) (a.put o.dst v) w→Q (.panic c) a w) (hw:Region.wanted o (yielded l.toArray a.tmps)=true) (hS:St w0 X V L w)
  {ty:TypeId} {x:Operand} (ho:o.op=.load ty x) {b k:Nat} (hx:a.eval x=.pointer (some ⟨b,k,none⟩)) [hty:OneT P ty]
  (h:∃ v,V.Cell b k v∧∀ a' l',a.put o.dst v=a'→listed.setIfInBounds i true=l'→wpAnyH P md l.toArray Q (St w0 X V L) fuel l' a' w):wpAnyH P md l.toArray Q (St w0 X V L) (fuel+1) listed a w:=by
 obtain ⟨v,hv,h⟩:=h
 exact wpAnyH_take (hi_of hi₀) hs hf hr (hQ v) (yif_vload1 ho hw hx hty.ok hv) hS (h _ _ rfl rfl)
theorem ht_vn (i:Nat) (hi₀:l[i]? = some o) (hs:Region.noSelect l.toArray=true) (hf:Region.free md l.toArray listed i=true) (hr:(Region.ready md l.toArray listed).contains i=true)
  (hQ:∀ v c a w,Q (.panic c) (a.put o.dst v) w→Q (.panic c) a w) (hw:Region.wanted o (yielded l.toArray a.tmps)=true) (hS:St w0 X V L w)
  {ty:TypeId} {x:Operand} (ho:o.op=.load ty x) {b k:Nat} (hx:a.eval x=.pointer (some ⟨b,k,none⟩)) {n:Nat} [hty:RowT P ty n]
  (h:∃ vs,(V.Range b k vs∧vs.length=n)∧∀ a' l',a.put o.dst (.agg vs.toArray)=a'→listed.setIfInBounds i true=l'→wpAnyH P md l.toArray Q (St w0 X V L) fuel l' a' w):wpAnyH P md l.toArray Q (St w0 X V L) (fuel+1) listed a w:=by
 obtain ⟨v,hv,h⟩:=h
 exact wpAnyH_take (hi_of hi₀) hs hf hr (hQ _) (yif_vloadn ho hw hx hty.ok hv.1 hv.2) hS (h _ _ rfl rfl)
theorem he_one {i:Nat} (hr:Region.ready md l.toArray listed=[i]) (h:wpOp P l.toArray Q i (fun a' w'=>S w'∧wpAnyH P md l.toArray Q S fuel (listed.setIfInBounds i true) a' w') a w):wpAnyH P md l.toArray Q S (fuel+1) listed a w :=
 wpAnyH_all hr (by simp) fun k hk=>by rw [List.mem_singleton] at hk;subst hk;exact h
theorem he_s1 (i:Nat) (hr:Region.ready md l.toArray listed=[i]) (hi₀:l[i]? = some o) (hS:St w0 X V L w) (hw:Region.wanted o (yielded l.toArray a.tmps)=true) {ty:TypeId} {x y:Operand} (ho:o.op=.store ty x y)
  {b k:Nat} (hx:a.eval x=.pointer (some ⟨b,k,none⟩)) {j:Nat} {t:TypeId} {cs:List Value} [hj:Hs L b j t cs] [hty:OneT P ty]
  (h:∃ v,(evalL a y=some v∧v.oneCell'=true∧k < cs.length)∧∀ a' l',a.put o.dst undef=a'→listed.setIfInBounds i true=l'→∀ w',St w0 X V (L.set j (.blk b t (cs.set k v))) w'→S w'∧wpAnyH P md l.toArray Q S fuel l' a' w'):wpAnyH P md l.toArray Q S (fuel+1) listed a w:=by
 obtain ⟨v,⟨hy,h1,h2⟩,h⟩:=h
 exact he_one hr (wpo_store1 hS (hi_of hi₀) hw ho j hx hj.ok (evalL_ok hy) h1 hty.ok h2 rfl fun w' hS'=>h _ _ rfl rfl w' hS')
theorem he_sn (i:Nat) (hr:Region.ready md l.toArray listed=[i]) (hi₀:l[i]? = some o) (hS:St w0 X V L w) (hw:Region.wanted o (yielded l.toArray a.tmps)=true) {ty:TypeId} {x y:Operand} (ho:o.op=.store ty x y)
  {b k:Nat} (hx:a.eval x=.pointer (some ⟨b,k,none⟩)) {j n:Nat} {t:TypeId} {cs:List Value} [hj:Hs L b j t cs] [hty:RowT P ty n]
  (h:∃ vs:List Value,(evalL a y=some (.agg vs.toArray)∧(∀ v∈vs,v.oneCell'=true)∧vs.length=n∧k+n≤cs.length)∧∀ a' l',a.put o.dst undef=a'→listed.setIfInBounds i true=l'→∀ w',St w0 X V (L.set j (.blk b t (splice cs k vs))) w'→S w'∧wpAnyH P md l.toArray Q S fuel l' a' w') :
  wpAnyH P md l.toArray Q S (fuel+1) listed a w:=by
 obtain ⟨vs,⟨hy,h1,h2,h3⟩,h⟩:=h
 exact he_one hr (wpo_storen hS (hi_of hi₀) hw ho j hx hj.ok (evalL_ok hy) h1 hty.ok h2 h3 rfl fun w' hS'=>h _ _ rfl rfl w' hS')
theorem he_sall (i:Nat) (hr:Region.ready md l.toArray listed=[i]) (hi₀:l[i]? = some o) (hS:St w0 X V L w) (hw:Region.wanted o (yielded l.toArray a.tmps)=true) {ty:TypeId} {x y:Operand} (ho:o.op=.store ty x y)
  {b:Nat} (hx:a.eval x=.pointer (some ⟨b,0,none⟩)) {j n:Nat} {t:TypeId} {cs:List Value} [hj:Hs L b j t cs] [hty:RowT P ty n]
  (h:∃ vs:List Value,(evalL a y=some (.agg vs.toArray)∧(∀ v∈vs,v.oneCell'=true)∧vs.length=n∧cs.length=n)∧∀ a' l',a.put o.dst undef=a'→listed.setIfInBounds i true=l'→∀ w',St w0 X V (L.set j (.blk b t vs)) w'→S w'∧wpAnyH P md l.toArray Q S fuel l' a' w') :
  wpAnyH P md l.toArray Q S (fuel+1) listed a w:=by
 obtain ⟨vs,⟨hy,h1,h2,h3⟩,h⟩:=h
 exact he_one hr (wpo_storeall hS (hi_of hi₀) hw ho j hx hj.ok (evalL_ok hy) h1 hty.ok h2 h3 rfl fun w' hS'=>h _ _ rfl rfl w' hS')
theorem he_bsl (i:Nat) (hr:Region.ready md l.toArray listed=[i]) (hi₀:l[i]? = some o) (hS:St w0 X V L w) (hw:Region.wanted o (yielded l.toArray a.tmps)=true) {t e:TypeId} {len:Nat} {parts:List (Nat × Operand)}
  (ho:o.op=.buildSlice t len parts.toArray) [ht:SlT P t e] (h:∃ vs,Parts a 0 parts vs∧(vs.length=len∧len≤100∧∀ v∈vs,v.oneCell'=true)∧∀ b a' l',a.put o.dst (.slice (some ⟨b,0,none⟩) len len)=a' →
   listed.setIfInBounds i true=l'→∀ w',St w0 X V (.blk b e vs :: L) w'→S w'∧wpAnyH P md l.toArray Q S fuel l' a' w'):wpAnyH P md l.toArray Q S (fuel+1) listed a w:=by
 obtain ⟨vs,hp,hc,h⟩:=h
 exact he_one hr (wpo_bslice hS (hi_of hi₀) hw ho (by simpa using parts_ok hp) hc.1 hc.2.1 hc.2.2 ht.ok fun b w' hS'=>h b _ _ rfl rfl w' hS')
theorem he_con (i:Nat) (hr:Region.ready md l.toArray listed=[i]) (hi₀:l[i]? = some o) (hS:St w0 X V L w) (hw:Region.wanted o (yielded l.toArray a.tmps)=true)
  (h:∃ f args,(execOp a.eval o).run P w=.ok (.enter f args) w∧∃ v,(Calls P f args w fun e w'=>e=.returned v∧Kp w w')∧∀ a' l',a.put o.dst v=a'→listed.setIfInBounds i true=l' →
   ∀ w',St w0 X V L w'→S w'∧wpAnyH P md l.toArray Q S fuel l' a' w'):wpAnyH P md l.toArray Q S (fuel+1) listed a w:=by
 obtain ⟨f,args,hr',v,hc,h⟩:=h
 exact he_one hr (wpo_enter (hi_of hi₀) hw hr' (calls_kp hS hc) fun w' hS'=>h _ _ rfl rfl w' hS')
end
theorem sB:(∀ (l:List Bool) (i:Nat) (v:Bool),l.toArray.setIfInBounds i v=(l.set i v).toArray)∧(∀ (x:Bool) (l:List Bool) (i:Nat) (v:Bool),(x :: l).set (i+1) v=x :: l.set i v) ∧
  (∀ (x:Bool) (l:List Bool) (v:Bool),(x :: l).set 0 v=v :: l):=⟨fun l i v=>by simp,fun _ _ _ _=>rfl,fun _ _ _=>rfl⟩
section
variable {P:Program} {w0:World} {X:List Nat} {V:View} {L:List Ent} {w:World} {l:List Oper} {md:Region.Mode} {o:Oper} {a:Act} {Q:Exit→Act→World→Prop} {S:World→Prop} {fuel:Nat} {listed:Array Bool}
theorem hxp (i:Nat) (_hn:listed[i]? = some false) {v:Value} (h:∀ a' l',a.put o.dst v=a'→listed.setIfInBounds i true=l'→wpAnyH P md l.toArray Q S fuel l' a' w) (hi₀:l[i]? = some o:=by exact rfl) (hv:∀ w,(execOp a.eval o).run P w=.ok (.value v) w:=by exact zp) (hs:Region.noSelect l.toArray=true:=by kernel_rfl) (hf:Region.free md l.toArray listed i=true:=by kernel_rfl) (hr:(Region.ready md l.toArray listed).contains i=true:=by kernel_rfl) (hQ:∀ v c a w,Q (.panic c) (a.put o.dst v) w→Q (.panic c) a w:=by first | exact fun _ _ _ _ h=>h | exact fun _ _ _ _ h=>panicD (by kernel_rfl) h | exact fun _ _ _ _ h=>nomatch h.1) (hw:Region.wanted o (yielded l.toArray a.tmps)=true:=by exact rfl) (hS':S w:=by first | exact St.subI hS | (refine ⟨?_,?_,?_⟩ <;> first | exact cell_at hS.has1 rfl | exact cell_at hS.has1 (by assumption))):wpAnyH P md l.toArray Q S (fuel+1) listed a w :=
 ht_pure i hi₀ hs hf hr hQ hw hS' ⟨v,hv,h⟩
theorem hxm (i:Nat) (_hn:listed[i]? = some false) {v:Value} {x:Operand} (h:∀ a' l',a.put o.dst v=a'→listed.setIfInBounds i true=l'→wpAnyH P md l.toArray Q S fuel l' a' w) (hi₀:l[i]? = some o:=by exact rfl) (ho:o.op=.move x:=by exact rfl) (hx:evalL a x=some v:=by exact rfl) (hs:Region.noSelect l.toArray=true:=by kernel_rfl) (hf:Region.free md l.toArray listed i=true:=by kernel_rfl) (hr:(Region.ready md l.toArray listed).contains i=true:=by kernel_rfl) (hQ:∀ c a w,Q (.panic c) (a.put o.dst v) w→Q (.panic c) a w:=by first | exact fun _ _ _ h=>h | exact fun _ _ _ h=>panicD (by kernel_rfl) h | exact fun _ _ _ h=>nomatch h.1) (hw:Region.wanted o (yielded l.toArray a.tmps)=true:=by exact rfl) (hS':S w:=by first | exact St.subI hS | (refine ⟨?_,?_,?_⟩ <;> first | exact cell_at hS.has1 rfl | exact cell_at hS.has1 (by assumption))):wpAnyH P md l.toArray Q S (fuel+1) listed a w :=
 ht_mv i hi₀ hs hf hr ho hx hQ hw hS' h
theorem hxa (i:Nat) (_hn:listed[i]? = some false) {ty:TypeId} {x:Operand} {b k:Nat} {j:Nat} {t:TypeId} {cs:List Value} {v:Value} (h:∀ a' l',a.put o.dst v=a'→listed.setIfInBounds i true=l'→wpAnyH P md l.toArray Q (St w0 X V L) fuel l' a' w) (hi₀:l[i]? = some o:=by exact rfl) (ho:o.op=.load ty x:=by exact rfl) (hx:a.eval x=.pointer (some ⟨b,k,none⟩):=by exact rfl) (hj:Hs L b j t cs:=by exact inferInstance) (hty:OneT P ty:=by exact inferInstance) (hv:cs[k]? = some v:=by exact zd) (hs:Region.noSelect l.toArray=true:=by kernel_rfl) (hf:Region.free md l.toArray listed i=true:=by kernel_rfl) (hr:(Region.ready md l.toArray listed).contains i=true:=by kernel_rfl) (hQ:∀ v c a w,Q (.panic c) (a.put o.dst v) w→Q (.panic c) a w:=by first | exact fun _ _ _ _ h=>h | exact fun _ _ _ _ h=>panicD (by kernel_rfl) h | exact fun _ _ _ _ h=>nomatch h.1) (hw:Region.wanted o (yielded l.toArray a.tmps)=true:=by exact rfl) (hS':(St w0 X V L) w:=by first | exact St.subI hS | (refine ⟨?_,?_,?_⟩ <;> first | exact cell_at hS.has1 rfl | exact cell_at hS.has1 (by assumption))):wpAnyH P md l.toArray Q (St w0 X V L) (fuel+1) listed a w :=
 ht_l1 i hi₀ hs hf hr hQ hw hS' ho hx ⟨v,hv,h⟩
theorem hxb (i:Nat) (_hn:listed[i]? = some false) {ty:TypeId} {x:Operand} {b k:Nat} {j n:Nat} {t:TypeId} {cs:List Value} {vs:List Value} (h:∀ a' l',a.put o.dst (.agg vs.toArray)=a'→listed.setIfInBounds i true=l'→wpAnyH P md l.toArray Q (St w0 X V L) fuel l' a' w) (hi₀:l[i]? = some o:=by exact rfl) (ho:o.op=.load ty x:=by exact rfl) (hx:a.eval x=.pointer (some ⟨b,k,none⟩):=by exact rfl) (hj:Hs L b j t cs:=by exact inferInstance) (hty:RowT P ty n:=by exact inferInstance) (hv:PartOf cs k n vs:=by exact zd) (hs:Region.noSelect l.toArray=true:=by kernel_rfl) (hf:Region.free md l.toArray listed i=true:=by kernel_rfl) (hr:(Region.ready md l.toArray listed).contains i=true:=by kernel_rfl) (hQ:∀ v c a w,Q (.panic c) (a.put o.dst v) w→Q (.panic c) a w:=by first | exact fun _ _ _ _ h=>h | exact fun _ _ _ _ h=>panicD (by kernel_rfl) h | exact fun _ _ _ _ h=>nomatch h.1) (hw:Region.wanted o (yielded l.toArray a.tmps)=true:=by exact rfl) (hS':(St w0 X V L) w:=by first | exact St.subI hS | (refine ⟨?_,?_,?_⟩ <;> first | exact cell_at hS.has1 rfl | exact cell_at hS.has1 (by assumption))):wpAnyH P md l.toArray Q (St w0 X V L) (fuel+1) listed a w :=
 ht_ln i hi₀ hs hf hr hQ hw hS' ho hx ⟨vs,hv,h⟩
theorem hxc (i:Nat) (_hn:listed[i]? = some false) {ty:TypeId} {x:Operand} {b k:Nat} {v:Value} (h:∀ a' l',a.put o.dst v=a'→listed.setIfInBounds i true=l'→wpAnyH P md l.toArray Q (St w0 X V L) fuel l' a' w) (hi₀:l[i]? = some o:=by exact rfl) (ho:o.op=.load ty x:=by exact rfl) (hx:a.eval x=.pointer (some ⟨b,k,none⟩):=by exact rfl) (hty:OneT P ty:=by exact inferInstance) (hv:V.Cell b k v:=by exact zd) (hs:Region.noSelect l.toArray=true:=by kernel_rfl) (hf:Region.free md l.toArray listed i=true:=by kernel_rfl) (hr:(Region.ready md l.toArray listed).contains i=true:=by kernel_rfl) (hQ:∀ v c a w,Q (.panic c) (a.put o.dst v) w→Q (.panic c) a w:=by first | exact fun _ _ _ _ h=>h | exact fun _ _ _ _ h=>panicD (by kernel_rfl) h | exact fun _ _ _ _ h=>nomatch h.1) (hw:Region.wanted o (yielded l.toArray a.tmps)=true:=by exact rfl) (hS':(St w0 X V L) w:=by first | exact St.subI hS | (refine ⟨?_,?_,?_⟩ <;> first | exact cell_at hS.has1 rfl | exact cell_at hS.has1 (by assumption))):wpAnyH P md l.toArray Q (St w0 X V L) (fuel+1) listed a w :=
 ht_v1 i hi₀ hs hf hr hQ hw hS' ho hx ⟨v,hv,h⟩
theorem hxd (i:Nat) (_hn:listed[i]? = some false) {ty:TypeId} {x:Operand} {b k:Nat} {n:Nat} {vs:List Value} (h:∀ a' l',a.put o.dst (.agg vs.toArray)=a'→listed.setIfInBounds i true=l'→wpAnyH P md l.toArray Q (St w0 X V L) fuel l' a' w) (hi₀:l[i]? = some o:=by exact rfl) (ho:o.op=.load ty x:=by exact rfl) (hx:a.eval x=.pointer (some ⟨b,k,none⟩):=by exact rfl) (hty:RowT P ty n:=by exact inferInstance) (hv:V.Range b k vs∧vs.length=n:=by exact zd) (hs:Region.noSelect l.toArray=true:=by kernel_rfl) (hf:Region.free md l.toArray listed i=true:=by kernel_rfl) (hr:(Region.ready md l.toArray listed).contains i=true:=by kernel_rfl) (hQ:∀ v c a w,Q (.panic c) (a.put o.dst v) w→Q (.panic c) a w:=by first | exact fun _ _ _ _ h=>h | exact fun _ _ _ _ h=>panicD (by kernel_rfl) h | exact fun _ _ _ _ h=>nomatch h.1) (hw:Region.wanted o (yielded l.toArray a.tmps)=true:=by exact rfl) (hS':(St w0 X V L) w:=by first | exact St.subI hS | (refine ⟨?_,?_,?_⟩ <;> first | exact cell_at hS.has1 rfl | exact cell_at hS.has1 (by assumption))):wpAnyH P md l.toArray Q (St w0 X V L) (fuel+1) listed a w :=
 ht_vn i hi₀ hs hf hr hQ hw hS' ho hx ⟨vs,hv,h⟩
end
end Go.Mm
namespace Go.Mm
open Go
variable {P:Program} {w0:World} {X:List Nat} {V:View} {L:List Ent} {w:World}
theorem calls_mut {f:FuncId} {args:Array Value} {R:Ending→World→Prop} (hS:St w0 X V L w) {g j:Nat} {t:TypeId} {cs:List Value} [hj:Hs L g j t cs]
  (h:∃ v cs',(w.heap[g]? = some (.cells cs.toArray t (0,0))→Calls P f args w fun e w'=>e=.returned v∧KpBut g w w'∧w'.heap[g]? = some (.cells cs'.toArray t (0,0))) ∧
   ∀ w',St w0 X V (L.set j (.blk g t cs')) w'→R (.returned v) w'):Calls P f args w R:=by
 obtain ⟨v,cs',hc,h⟩:=h
 exact (hc (hS.at hj.ok)).mono fun e w' ⟨he,hk,hg⟩=>by subst he;exact h w' (hS.mut hj.ok hk hg rfl)
theorem calls_new {f:FuncId} {args:Array Value} {R:Ending→World→Prop} (hS:St w0 X V L w)
  (h:∃ t cs,(Calls P f args w fun e w'=>∃ g,e=.returned (.pointer (some ⟨g,0,none⟩))∧Kp w w'∧w.heap.size≤g∧w'.heap[g]? = some (.cells cs.toArray t (0,0))) ∧
   ∀ g w',St w0 X V (.blk g t cs :: L) w'→R (.returned (.pointer (some ⟨g,0,none⟩))) w'):Calls P f args w R:=by
 obtain ⟨t,cs,hc,h⟩:=h
 refine hc.mono fun e w' ⟨g,he,hk,hl,hg⟩=>?_
 subst he
 exact h g w' (hS.fresh hk (e:=.blk g t cs) hg fun b hb=>by cases hb;exact hl)
theorem St.newAt (hS:St w0 [] V L w) {b j:Nat} {t:TypeId} {cs:List Value} [hj:Hs L b j t cs]:w0.heap.size≤b:=by
 rcases hS.new _ (List.mem_of_getElem? hj.ok) b rfl with h | h
 ·exact h
 ·cases h
theorem St.has1 (hS:St w0 X V L w) {b j:Nat} {t:TypeId} {cs:List Value} [hj:Hs L b j t cs]:w.heap[b]? = some (.cells cs.toArray t (0,0)):=hS.at hj.ok
end Go.Mm
namespace Go.Wg
open Go Go.Mm
def fillsTo (k:Wk) (i j:Nat):List Nat:=(List.range i).filter fun x=>(k.v x).from_ == (j:Int)
theorem fillsTo_all (k:Wk) (j:Nat):fillsTo k k.n j=k.fills j:=rfl
theorem fillsTo_hit (k:Wk) (i j:Nat) (h:(k.v i).from_=(j:Int)):fillsTo k (i+1) j=fillsTo k i j ++ [i]:=by
 unfold fillsTo
 rw [List.range_succ,List.filter_append]
 simp [h]
theorem fillsTo_miss (k:Wk) (i j:Nat) (h:(k.v i).from_≠(j:Int)):fillsTo k (i+1) j=fillsTo k i j:=by
 unfold fillsTo
 rw [List.range_succ,List.filter_append]
 simp [h]
theorem fillsTo_nil (k:Wk) (hk:k.Ok) (i j:Nat) (hi:i≤k.n) (hj:i≤j+1):fillsTo k i j=[]:=by
 unfold fillsTo
 rw [List.filter_eq_nil_iff]
 intro x hx
 have hx':=List.mem_range.1 hx
 have:=(hk.ves x (by omega)).2.1
 simp;omega
theorem fillsTo_len (k:Wk) (i j:Nat):(fillsTo k i j).length≤i:=by
 unfold fillsTo
 have:=List.length_filter_le (fun x=>(k.v x).from_ == (j:Int)) (List.range i)
 rwa [List.length_range] at this
theorem fillsTo_lt (k:Wk) (i j x:Nat) (h:x∈fillsTo k i j):x < i:=List.mem_range.1 (List.mem_filter.1 h).1
def tunE (k:Wk) (ts:Nat→Nat) (fv:Nat→Value) (i j:Nat):List Ent :=
 [.blk (ts j) 129 [.int .i64 (k.v j).from_,.int .i64 (k.v j).room,.int .i64 (k.v j).lo,.int .i64 (k.v j).hi,.int .i64 (j:Int),fv j],.row (fv j) 124 1 (fillsTo k i j).length ((fillsTo k i j).map fun x=>ptr (ts x))]
def tunsE (k:Wk) (ts:Nat→Nat) (fv:Nat→Value) (i m:Nat):List Ent:=(List.range m).flatMap (tunE k ts fv i)
theorem tunsE_succ (k:Wk) (ts:Nat→Nat) (fv:Nat→Value) (i m:Nat):tunsE k ts fv i (m+1)=tunsE k ts fv i m ++ tunE k ts fv i m:=by
 unfold tunsE
 rw [List.range_succ,List.flatMap_append]
 simp
theorem tunsE_congr {k:Wk} {ts ts':Nat→Nat} {fv fv':Nat→Value} {i i' m:Nat} (h:∀ j,j < m→tunE k ts fv i j=tunE k ts' fv' i' j):tunsE k ts fv i m=tunsE k ts' fv' i' m:=by
 unfold tunsE
 rw [List.flatMap_def,List.flatMap_def]
 congr 1
 exact List.map_congr_left fun j hj=>h j (List.mem_range.1 hj)
theorem tunsE_pick (k:Wk) (ts:Nat→Nat) (fv:Nat→Value) (i m j:Nat) (hj:j < m):∃ R,(tunsE k ts fv i m).Perm (tunE k ts fv i j ++ R) ∧
  ∀ ts' fv' i',(∀ x,x < m→x≠j→tunE k ts' fv' i' x=tunE k ts fv i x)→(tunsE k ts' fv' i' m).Perm (tunE k ts' fv' i' j ++ R):=by
 have hr:List.range m=List.range j ++ j :: List.range' (j+1) (m - j - 1):=by
  have e1:List.range m=List.range' 0 m:=List.range_eq_range'
  have e2:List.range j=List.range' 0 j:=List.range_eq_range'
  rw [e1,e2]
  have e3:List.range' 0 m=List.range' 0 j ++ List.range' j (m - j):=by
   have:=List.range'_append (s:=0) (m:=j) (n:=m - j) (step:=1)
   simp only [Nat.zero_add,Nat.one_mul] at this
   rw [this];congr 1;omega
  rw [e3]
  congr 1
  rw [show m - j=(m - j - 1)+1 by omega,List.range'_succ]
  simp
 have key:∀ ts fv i,(tunsE k ts fv i m).Perm (tunE k ts fv i j ++ ((List.range j).flatMap (tunE k ts fv i) ++ (List.range' (j+1) (m - j - 1)).flatMap (tunE k ts fv i))):=fun ts fv i=>by
  unfold tunsE
  rw [hr,List.flatMap_append,List.flatMap_cons]
  exact List.perm_append_comm_assoc _ _ _
 refine ⟨_,key ts fv i,fun ts' fv' i' h=>?_⟩
 have e1:(List.range j).flatMap (tunE k ts' fv' i')=(List.range j).flatMap (tunE k ts fv i):=by
  rw [List.flatMap_def,List.flatMap_def];congr 1
  exact List.map_congr_left fun x hx=>by have:=List.mem_range.1 hx;exact h x (by omega) (by omega)
 have e2:(List.range' (j+1) (m - j - 1)).flatMap (tunE k ts' fv' i')=(List.range' (j+1) (m - j - 1)).flatMap (tunE k ts fv i):=by
  rw [List.flatMap_def,List.flatMap_def];congr 1
  exact List.map_congr_left fun x hx=>by have:=List.mem_range'_1.1 hx;exact h x (by omega) (by omega)
 rw [← e1,← e2]
 exact key ts' fv' i'
theorem row_slice {w:World} {v:Value} {n:Nat} {xs:List Value} (h:w.ownsRow 0 124 1 v n xs) (hn:0 < n):∃ g cap cur,v=.slice (some ⟨g,0,none⟩) n cap∧n≤cap∧cap≤maxLen∧w.heap[g]? = some (.cells cur 124 (0,0))∧cur.toList.take n=xs:=by
 obtain ⟨h1,h2⟩:=h
 rcases h2 with ⟨_,h2⟩ | ⟨g,cap,cur,rfl,_,h4,h5,h6,_,h8⟩
 ·omega
 ·exact ⟨g,cap,cur,rfl,h5,h6,h4,by simpa using h8⟩
def newV (V:View) (w w':World):View:=fun j=>if j < w.heap.size then V j else w'.heap[j]?
theorem newV_in {V:View} {w w':World} (h:V.In w'):(newV V w w').In w':=fun j o hj=>by
 unfold newV at hj
 split at hj
 ·exact h j o hj
 ·exact hj
theorem newV_sub {V:View} {w w':World} (hV:V.In w):∀ j o,V j=some o→newV V w w' j=some o:=fun j o hj=>by
 have:=lt_of_heap (hV j o hj)
 simp [newV,this,hj]
theorem newV_old {V:View} {w w':World}:∀ j,j < w.heap.size→newV V w w' j=V j:=fun j hj=>by simp [newV,hj]
theorem newV_cell {V:View} {w w':World} {b i:Nat} {cs:Array Value} {t:TypeId} {v:Value} (hb:w.heap.size≤b) (hh:w'.heap[b]? = some (.cells cs t (0,0))) (hi:cs[i]? = some v):(newV V w w').Cell b i v :=
 ⟨cs,t,(0,0),by simp [newV,show ¬ b < w.heap.size by omega,hh],hi⟩
theorem cel_of {V:View} {w w':World} {k:Wk} {vv rv tv:Value} {b:Nat} {ts:Nat→Nat} {fv:Nat→Value} (hV:V.In w) (hk:k.Ok) (h1:VSl V vv k.n 4 fun i=>(k.v i).cells) (h2:VSl V rv k.rdg.length 4 fun i=>(k.rdg.getD i default).cells)
  (hS:St w [] V ([.blk b 112 [vv,rv,tv],.row tv 124 1 k.n ((List.range k.n).map fun x=>ptr (ts x))] ++ tunsE k ts fv k.n k.n) w'):Cellar (newV V w w') b k:=by
 have hnew:∀ e,e∈[Ent.blk b 112 [vv,rv,tv],.row tv 124 1 k.n ((List.range k.n).map fun x=>ptr (ts x))] ++ tunsE k ts fv k.n k.n→∀ g,e.foot=some g→w.heap.size≤g:=fun e he g hg=>by
  rcases hS.new e he g hg with h | h
  ·exact h
  ·cases h
 have hb:=hS.has _ (List.mem_append_left _ (List.mem_cons_self ..))
 have hbn:=hnew _ (List.mem_append_left _ (List.mem_cons_self ..)) b rfl
 have hr:w'.ownsRow 0 124 1 tv k.n ((List.range k.n).map fun x=>ptr (ts x)):=(hS.has _ (List.mem_append_left _ (List.mem_cons_of_mem _ (List.mem_cons_self ..)))).1
 have hrn:=hnew _ (List.mem_append_left _ (List.mem_cons_of_mem _ (List.mem_cons_self ..)))
 have sl:∀ {v n sz get},VSl V v n sz get→VSl (newV V w w') v n sz get:=fun ⟨a,cap,h1,h2,h3,h4⟩ =>
  ⟨a,cap,h1,h2,h3,fun hn=>by obtain ⟨g,off,h5,h6⟩:=h4 hn;exact ⟨g,off,h5,fun i hi=>(h6 i hi).mono (newV_sub hV)⟩⟩
 have hts:∀ x,x < k.n→((List.range k.n).map ts).getD x 0=ts x:=fun x hx=>by simp [List.getD_eq_getElem?_getD,hx]
 have hmem:∀ i,i < k.n→∀ e,e∈tunE k ts fv k.n i→e∈[Ent.blk b 112 [vv,rv,tv],.row tv 124 1 k.n ((List.range k.n).map fun x=>ptr (ts x))] ++ tunsE k ts fv k.n k.n:=fun i hi e he =>
  List.mem_append_right _ (List.mem_flatMap.2 ⟨i,List.mem_range.2 hi,he⟩)
 refine ⟨(List.range k.n).map ts,vv,rv,newV_cell hbn hb rfl,newV_cell hbn hb rfl,?_,sl h1,sl h2,fun i hi=>?_,fun i hi=>?_,hk.pos,hk.le⟩
 ·obtain ⟨g,cap,cur,rfl,_,_,hg,ht⟩:=row_slice hr hk.pos
  have hgn:=hrn g rfl
  refine ⟨g,cap,newV_cell hbn hb rfl,fun i hi=>newV_cell hgn hg ?_⟩
  rw [hts i hi]
  have:(cur.toList.take k.n)[i]? = some (ptr (ts i)):=by rw [ht];simp [hi]
  rw [List.getElem?_take] at this
  simpa [hi] using this
 ·rw [hts i hi]
  have he:=hmem i hi _ (List.mem_cons_self ..)
  have hh:=hS.has _ he
  have hn:=hnew _ he _ rfl
  intro j v hj
  refine newV_cell hn hh ?_
  simp only [Ves.cells,List.cons_append,List.nil_append,Nat.zero_add,List.getElem?_toArray] at hj ⊢
  have hj5:j < 5:=by
   rcases Nat.lt_or_ge j 5 with h | h
   ·exact h
   ·rw [List.getElem?_eq_none (by simpa using h)] at hj;cases hj
  rw [show ([.int .i64 (k.v i).from_,.int .i64 (k.v i).room,.int .i64 (k.v i).lo,.int .i64 (k.v i).hi,.int .i64 (i:Int),fv i]:List Value)=[.int .i64 (k.v i).from_,.int .i64 (k.v i).room,.int .i64 (k.v i).lo,.int .i64 (k.v i).hi,.int .i64 (i:Int)] ++ [fv i] from rfl,
   List.getElem?_append_left (by simpa using hj5)]
  exact hj
 ·rw [hts i hi]
  have he:=hmem i hi _ (List.mem_cons_self ..)
  have hh:=hS.has _ he
  have hn:=hnew _ he _ rfl
  refine ⟨fv i,newV_cell hn hh rfl,?_⟩
  have he2:=hmem i hi _ (List.mem_cons_of_mem _ (List.mem_cons_self ..))
  have hro:w'.ownsRow 0 124 1 (fv i) (fillsTo k k.n i).length ((fillsTo k k.n i).map fun x=>ptr (ts x)):=(hS.has _ he2).1
  have hn2:=hnew _ he2
  rw [fillsTo_all] at hro hn2
  by_cases h0:0 < (k.fills i).length
  ·obtain ⟨g,cap,cur,hv,hc1,hc2,hg,ht⟩:=row_slice hro h0
   have hgn:=hn2 g (by rw [hv];rfl)
   refine ⟨⟨some ⟨g,0,none⟩,cap,hv,hc1,hc2,fun _=>⟨g,0,rfl,fun j hj=>?_⟩⟩⟩
   intro a v ha
   cases a with
   | succ a=>simp at ha
   | zero =>
    simp only [List.getElem?_cons_zero,Option.some.injEq] at ha
    subst ha
    refine newV_cell hgn hg ?_
    have hx:(k.fills i).getD j 0 < k.n:=by
     rw [List.getD_eq_getElem?_getD,List.getElem?_eq_getElem hj]
     exact List.mem_range.1 (List.mem_filter.1 (List.getElem_mem hj)).1
    rw [hts _ hx]
    have:(cur.toList.take (k.fills i).length)[j]? = some (ptr (ts ((k.fills i).getD j 0))):=by
     rw [ht];simp [List.getD_eq_getElem?_getD,hj]
    rw [List.getElem?_take] at this
    simpa [hj] using this
  ·have h0':(k.fills i).length=0:=by omega
   obtain ⟨_,hr2⟩:=hro
   rcases hr2 with ⟨hv,_⟩ | ⟨g,cap,cur,hv,_,_,h5,h6,_,_⟩
   ·rw [h0']
    exact ⟨⟨none,0,hv,by omega,by omega,fun h=>absurd h (by omega)⟩⟩
   ·rw [h0'] at hv h5 ⊢
    exact ⟨⟨_,cap,hv,h5,h6,fun h=>absurd h (by omega)⟩⟩
end Go.Wg
namespace Go.Wg
open Go Go.Mm
theorem firstE_zero {l:List Int} (h:firstE l=0):∀ e∈l,e=0:=by
 induction l with
 | nil=>simp
 | cons x l ih =>
  simp only [firstE] at h
  split at h
  ·rename_i hx
   intro e he
   rcases List.mem_cons.1 he with rfl | he
   ·exact hx
   ·exact ih h e he
  ·rename_i hx;exact absurd h hx
theorem unlessE_zero {b:Bool} {e:Int} (he:e≠0) (h:unlessE b e=0):b=true:=by
 unfold unlessE at h
 cases b
 ·simp at h;exact absurd h he
 ·rfl
theorem outB_false {n lo hi:Int} (h:(!outB n lo hi)=true):lo≤n∧n≤hi:=by
 unfold outB at h
 simp at h
 exact h
theorem ok_of_check {k:Wk} (h:checkE k=0):k.Ok:=by
 have h0:=firstE_zero h
 have h1:=firstE_zero (h0 _ (List.mem_cons_self ..))
 have h2:vesTo k k.n=0:=h0 _ (by simp)
 have h3:(if 6 < k.rdg.length then (6:Int) else 0)=0:=h0 _ (by simp)
 have h4:rdgTo k k.rdg.length=0:=h0 _ (by simp)
 have a1:=unlessE_zero (by decide) (h1 _ (List.mem_cons_self ..))
 have a2:=unlessE_zero (by decide) (h1 (unlessE (decide (k.n≤6)) 6) (by simp))
 refine ⟨by simpa using a1,by simpa using a2,fun i hi=>?_,?_,fun i hi=>?_⟩
 ·have:=firstE_zero h2 (vesE i (k.v i)) (List.mem_map.2 ⟨i,List.mem_range.2 hi,rfl⟩)
  have hv:=firstE_zero this
  have v1:=outB_false (unlessE_zero (by decide) (hv (unlessE (!outB (k.v i).from_ (-1) (i - 1)) 3) (by simp)))
  have v2:=outB_false (unlessE_zero (by decide) (hv (unlessE (!outB (k.v i).room 0 40) 1) (by simp)))
  have v3:=unlessE_zero (by decide) (hv (unlessE (!outB (k.v i).lo 0 20 && !outB (k.v i).hi 0 20) 1) (by simp))
  rw [Bool.and_eq_true] at v3
  have v4:=outB_false v3.1
  have v5:=outB_false v3.2
  have v6:=unlessE_zero (by decide) (hv (unlessE (decide ((k.v i).lo≤(k.v i).hi)) 5) (by simp))
  have v7:(k.v i).lo≤(k.v i).hi:=by simpa using v6
  unfold Ves.Ok
  omega
 ·split at h3
  ·cases h3
  ·omega
 ·have:=firstE_zero h4 (rdgE k.n (k.rdg.getD i default)) (List.mem_map.2 ⟨i,List.mem_range.2 hi,rfl⟩)
  have hv:=firstE_zero this
  have v1:=unlessE_zero (by decide) (hv (unlessE (!outB (k.rdg.getD i default).vessel 0 (k.n - 1) && !outB (k.rdg.getD i default).scale 0 2) 3) (by simp))
  rw [Bool.and_eq_true] at v1
  have v2:=outB_false v1.1
  have v3:=outB_false v1.2
  have v4:=unlessE_zero (by decide) (hv (unlessE (!outB (k.rdg.getD i default).shown 0 60 && !outB (k.rdg.getD i default).err 0 9) 1) (by simp))
  rw [Bool.and_eq_true] at v4
  have v5:=outB_false v4.1
  have v6:=outB_false v4.2
  unfold Rdg.Ok
  omega
def beginE (k:Wk) (ns:List Int):Int:=if checkE k≠0 then checkE k else if ns.all (fun n=>!outB n 0 (k.n - 1)) then 0 else 3
end Go.Wg
namespace Go.Wg
open Go Go.Mm
theorem nowA_los (k:Wk) (m i:Nat) (hm:m≤6):(nowA k m).losAt i=if i < m then ((k.v i).lo,(k.v i).hi) else (0,0):=by
 induction m with
 | zero =>
  simp only [nowA,SS.losAt,List.getD_eq_getElem?_getD,List.getElem?_replicate,Nat.not_lt_zero,if_false]
  split <;> rfl
 | succ m ih =>
  have hl:((nowA k m).setLim m (spanB 0 (k.v m).room)).los.length=6:=(nowA_wf k m).los
  show (((nowA k m).setLim m (spanB 0 (k.v m).room)).los.set m ((k.v m).lo,(k.v m).hi)).getD i (0,0)=_
  rw [List.getD_eq_getElem?_getD,List.getElem?_set]
  by_cases h:m=i
  ·subst h
   simp [hl,show m < 6 by omega]
  ·rw [if_neg h,← List.getD_eq_getElem?_getD]
   show (nowA k m).losAt i=_
   rw [ih (by omega)]
   by_cases h1:i < m
   ·simp [h1,show i < m+1 by omega]
   ·simp [h1,show ¬ i < m+1 by omega]
theorem rds_los (b:Rdg→Bool) (l:List Rdg) (s:SS) (i:Nat):(l.foldl (rdOne b) s).losAt i=s.losAt i:=by
 induction l generalizing s with
 | nil=>rfl
 | cons r l ih =>
  rw [List.foldl_cons,ih]
  unfold rdOne
  split <;> rfl
theorem nowS_los (k:Wk) (hok:k.Ok) (b:Rdg→Bool) (i:Nat):(nowS k b).losAt i=if i < k.n then ((k.v i).lo,(k.v i).hi) else (0,0):=by
 unfold nowS
 rw [rds_los,nowA_los k k.n i hok.le]
theorem nowS_lo (k:Wk) (hok:k.Ok) (b:Rdg→Bool) (i:Nat):0≤((nowS k b).losAt i).1:=by
 rw [nowS_los k hok]
 split
 ·rename_i h;exact (hok.ves i h).2.2.2.2.1
 ·simp
theorem nowS_hi (k:Wk) (hok:k.Ok) (b:Rdg→Bool) (i:Nat):((nowS k b).losAt i).2≤20:=by
 rw [nowS_los k hok]
 split
 ·rename_i h;exact (hok.ves i h).2.2.2.2.2.2.2.1
 ·simp
end Go.Wg
namespace Go.Wg
open Go Go.Mm
def inD (D:List Nat) (v:Value):Prop:=flat0 v=true∨(∃ b o,v=.pointer (some ⟨b,o,none⟩)∧b∈D)∨∃ b o n c,v=.slice (some ⟨b,o,none⟩) n c∧b∈D
noncomputable def gN:Nat:=Go.Proofs.Tryd.prog.globals.size
structure Closed (V:View) (D:List Nat):Prop where
 cells:∀ b∈D,∃ cs t,V b=some (.cells cs t (0,0))∧∀ v∈cs,inD D v
 ge:∀ b∈D,gN≤b
 last:∃ o,V (gN - 1)=some o
def keepD (V:View) (D:List Nat):View:=fun b=>if b∈D then V b else none
theorem inD_ptr {D:List Nat} {b o:Nat} (h:inD D (.pointer (some ⟨b,o,none⟩))):b∈D:=by
 rcases h with h | ⟨b',o',h,hb⟩ | ⟨b',o',n,c,h,_⟩
 ·cases h
 ·cases h;exact hb
 ·cases h
theorem inD_sl {D:List Nat} {b o n c:Nat} (h:inD D (.slice (some ⟨b,o,none⟩) n c)):b∈D:=by
 rcases h with h | ⟨b',o',h,_⟩ | ⟨b',o',n',c',h,hb⟩
 ·cases h
 ·cases h
 ·cases h;exact hb
theorem Closed.cell {V:View} {D:List Nat} (h:Closed V D) {b i:Nat} {v:Value} (hb:b∈D) (hc:V.Cell b i v):inD D v:=by
 obtain ⟨cs,t,hV,hcs⟩:=h.cells b hb
 obtain ⟨cs',t',fr,hV',hi⟩:=hc
 rw [hV] at hV'
 cases hV'
 exact hcs v (Array.mem_of_getElem? hi)
theorem keep_cell {V:View} {D:List Nat} {b i:Nat} {v:Value} (hb:b∈D) (hc:V.Cell b i v):(keepD V D).Cell b i v:=by
 obtain ⟨cs',t',fr,hV',hi⟩:=hc
 exact ⟨cs',t',fr,by simp [keepD,hb,hV'],hi⟩
theorem keep_range {V:View} {D:List Nat} {b i:Nat} {vs:List Value} (hb:b∈D) (hc:V.Range b i vs):(keepD V D).Range b i vs:=fun j v hj=>keep_cell hb (hc j v hj)
theorem keep_sl {V:View} {D:List Nat} {v:Value} {n sz:Nat} {get:Nat→List Value} (h:VSl V v n sz get) (hv:inD D v):VSl (keepD V D) v n sz get:=by
 obtain ⟨a,cap,rfl,h2,h3,h4⟩:=h
 refine ⟨⟨a,cap,rfl,h2,h3,fun hn=>?_⟩⟩
 obtain ⟨g,off,rfl,h6⟩:=h4 hn
 exact ⟨g,off,rfl,fun i hi=>keep_range (inD_sl hv) (h6 i hi)⟩
theorem Cel.keep {V:View} {D:List Nat} {p:Nat} {k:Wk} {ts:List Nat} {vv rv:Value} (hC:Cel V p k ts vv rv) (hD:Closed V D) (hp:p∈D):Cel (keepD V D) p k ts vv rv∧∀ i,i < k.n→ts.getD i 0∈D:=by
 obtain ⟨g,cap,hc2,hts⟩:=hC.c2
 have hg:=inD_sl (hD.cell hp hc2)
 have hti:∀ i,i < k.n→ts.getD i 0∈D:=fun i hi=>inD_ptr (hD.cell hg (hts i hi))
 refine ⟨⟨keep_cell hp hC.c0,keep_cell hp hC.c1,⟨g,cap,keep_cell hp hc2,fun i hi=>keep_cell hg (hts i hi)⟩,keep_sl hC.ves (hD.cell hp hC.c0),keep_sl hC.rdg (hD.cell hp hC.c1),fun i hi=>keep_range (hti i hi) (hC.tun i hi),fun i hi=>?_,hC.pos,hC.le⟩,hti⟩
 obtain ⟨v,hv,hs⟩:=hC.fil i hi
 exact ⟨v,keep_cell (hti i hi) hv,keep_sl hs (hD.cell (hti i hi) hv)⟩
end Go.Wg
namespace Go.Wg
open Go Go.Mm
theorem inD_mono {D D':List Nat} (h:∀ b∈D,b∈D') {v:Value} (hv:inD D v):inD D' v:=by
 rcases hv with hv | ⟨b,o,hv,hb⟩ | ⟨b,o,n,c,hv,hb⟩
 ·exact .inl hv
 ·exact .inr (.inl ⟨b,o,hv,h b hb⟩)
 ·exact .inr (.inr ⟨b,o,n,c,hv,h b hb⟩)
theorem row_inD {w:World} {t:TypeId} {s n:Nat} {v:Value} {xs:List Value} {D:List Nat} (h:w.ownsRow 0 t s v n xs) (hb:∀ g,v.ownBlock=some g→g∈D):inD D v:=by
 obtain ⟨_,h2⟩:=h
 rcases h2 with ⟨rfl,_⟩ | ⟨g,cap,cur,rfl,_⟩
 ·exact .inl rfl
 ·exact .inr (.inr ⟨g,0,n,cap,rfl,hb g rfl⟩)
theorem row_closed {w:World} {t:TypeId} {n g:Nat} {v:Value} {xs:List Value} {D:List Nat} (h:w.ownsRow 0 t 1 v n xs) (hp:PadAt w v (n * 1)) (hx:∀ x∈xs,inD D x) (hg:v.ownBlock=some g) :
  ∃ cs t,w.heap[g]? = some (.cells cs t (0,0))∧∀ c∈cs,inD D c:=by
 obtain ⟨_,h2⟩:=h
 rcases h2 with ⟨rfl,_⟩ | ⟨g',cap,cur,rfl,_,h4,_,_,_,h8⟩
 ·cases hg
 ·have hgg:g'=g:=by simpa [Value.ownBlock] using hg
  subst hgg
  refine ⟨cur,t,h4,fun c hc=>?_⟩
  obtain ⟨i,hi,hic⟩:=Array.mem_iff_getElem.1 hc
  have hi':cur[i]? = some c:=by rw [Array.getElem?_eq_getElem hi,hic]
  rcases Nat.lt_or_ge i (n * 1) with hlt | hge
  ·refine hx c ?_
   rw [← h8]
   have:(cur.toList.take (n * 1))[i]? = some c:=by rw [List.getElem?_take,if_pos hlt];simpa using hi'
   exact List.mem_of_getElem? this
  ·exact .inl (hp g' rfl cur t (0,0) h4 i c hge hi')
theorem closed_of {V:View} {w w':World} {k:Wk} {vv rv tv:Value} {b:Nat} {ts:Nat→Nat} {fv:Nat→Value} (hV:V.In w) {D0:List Nat} (hD0:Closed V D0) (hvv:inD D0 vv) (hrv:inD D0 rv)
  (hS:St w [] V ([.blk b 112 [vv,rv,tv],.row tv 124 1 k.n ((List.range k.n).map fun x=>ptr (ts x))] ++ tunsE k ts fv k.n k.n) w'):∃ D,Closed (newV V w w') D∧b∈D:=by
 let D:List Nat:=b :: (tv.ownBlock.toList ++ ((List.range k.n).map ts ++ ((List.range k.n).flatMap (fun j=>(fv j).ownBlock.toList) ++ D0)))
 have mb:b∈D:=List.mem_cons_self ..
 have mt:∀ g,tv.ownBlock=some g→g∈D:=fun g hg=>by simp [D,hg]
 have ms:∀ x,x < k.n→ts x∈D:=fun x hx=>by
  refine List.mem_cons_of_mem _ (List.mem_append_right _ (List.mem_append_left _ (List.mem_map.2 ⟨x,List.mem_range.2 hx,rfl⟩)))
 have mf:∀ j,j < k.n→∀ g,(fv j).ownBlock=some g→g∈D:=fun j hj g hg=>by
  refine List.mem_cons_of_mem _ (List.mem_append_right _ (List.mem_append_right _ (List.mem_append_left _ (List.mem_flatMap.2 ⟨j,List.mem_range.2 hj,by simp [hg]⟩))))
 have m0:∀ x∈D0,x∈D:=fun x hx=>List.mem_cons_of_mem _ (List.mem_append_right _ (List.mem_append_right _ (List.mem_append_right _ hx)))
 have hnew:∀ e,e∈[Ent.blk b 112 [vv,rv,tv],.row tv 124 1 k.n ((List.range k.n).map fun x=>ptr (ts x))] ++ tunsE k ts fv k.n k.n→∀ g,e.foot=some g→w.heap.size≤g:=fun e he g hg=>by
  rcases hS.new e he g hg with h | h
  ·exact h
  ·cases h
 have hv:∀ {g:Nat},w.heap.size≤g→∀ {cs:Array Value} {t:TypeId},w'.heap[g]? = some (.cells cs t (0,0))→newV V w w' g=some (.cells cs t (0,0)):=fun {g} hg {cs t} hh=>by
  simp [newV,show ¬ g < w.heap.size by omega,hh]
 have hb:=hS.has _ (List.mem_append_left _ (List.mem_cons_self ..))
 have hbn:=hnew _ (List.mem_append_left _ (List.mem_cons_self ..)) b rfl
 have hrm:Ent.row tv 124 1 k.n ((List.range k.n).map fun x=>ptr (ts x))∈[Ent.blk b 112 [vv,rv,tv],.row tv 124 1 k.n ((List.range k.n).map fun x=>ptr (ts x))] ++ tunsE k ts fv k.n k.n:=List.mem_append_left _ (List.mem_cons_of_mem _ (List.mem_cons_self ..))
 have hr:=hS.has _ hrm
 have hmem:∀ i,i < k.n→∀ e,e∈tunE k ts fv k.n i→e∈[Ent.blk b 112 [vv,rv,tv],.row tv 124 1 k.n ((List.range k.n).map fun x=>ptr (ts x))] ++ tunsE k ts fv k.n k.n:=fun i hi e he =>
  List.mem_append_right _ (List.mem_flatMap.2 ⟨i,List.mem_range.2 hi,he⟩)
 have ptrs:∀ l:List Nat,(∀ x∈l,x < k.n)→∀ y∈l.map (fun x=>ptr (ts x)),inD D y:=fun l hl y hy=>by
  obtain ⟨x,hx,rfl⟩:=List.mem_map.1 hy
  exact .inr (.inl ⟨ts x,0,rfl,ms x (hl x hx)⟩)
 have hGw:gN≤w.heap.size:=by
  obtain ⟨o,ho⟩:=hD0.last
  have:=lt_of_heap (hV _ _ ho)
  omega
 refine ⟨D,⟨fun g hg=>?_,fun g hg=>?_,hD0.last.imp fun o ho=>newV_sub hV _ _ ho⟩,mb⟩
 rotate_left
 ·rcases List.mem_cons.mp hg with rfl | hg
  ·exact Nat.le_trans hGw hbn
  rcases List.mem_append.mp hg with hg | hg
  ·exact Nat.le_trans hGw (hnew _ hrm g (show tv.ownBlock=some g by simpa using hg))
  rcases List.mem_append.mp hg with hg | hg
  ·obtain ⟨x,hx,rfl⟩:=List.mem_map.1 hg
   exact Nat.le_trans hGw (hnew _ (hmem x (List.mem_range.1 hx) _ (List.mem_cons_self ..)) _ rfl)
  rcases List.mem_append.mp hg with hg | hg
  ·obtain ⟨j,hj,hgj⟩:=List.mem_flatMap.1 hg
   exact Nat.le_trans hGw (hnew _ (hmem j (List.mem_range.1 hj) _ (List.mem_cons_of_mem _ (List.mem_cons_self ..))) g (show (fv j).ownBlock=some g by simpa using hgj))
  ·exact hD0.ge g hg
 rcases List.mem_cons.mp hg with rfl | hg
 ·refine ⟨_,_,hv hbn hb,fun c hc=>?_⟩
  simp only [List.mem_toArray,List.mem_cons,List.not_mem_nil,or_false] at hc
  rcases hc with rfl | rfl | rfl
  ·exact inD_mono m0 hvv
  ·exact inD_mono m0 hrv
  ·exact row_inD hr.1 mt
 rcases List.mem_append.mp hg with hg | hg
 ·have hg':tv.ownBlock=some g:=by simpa using hg
  obtain ⟨cs,t,h1,h2⟩:=row_closed (D:=D) hr.1 hr.2 (ptrs _ fun x hx=>List.mem_range.1 hx) hg'
  exact ⟨cs,t,hv (hnew _ hrm g hg') h1,h2⟩
 rcases List.mem_append.mp hg with hg | hg
 ·obtain ⟨x,hx,rfl⟩:=List.mem_map.1 hg
  have hx':=List.mem_range.1 hx
  have he:=hmem x hx' _ (List.mem_cons_self ..)
  have he2:=hmem x hx' _ (List.mem_cons_of_mem _ (List.mem_cons_self ..))
  refine ⟨_,_,hv (hnew _ he _ rfl) (hS.has _ he),fun c hc=>?_⟩
  simp only [List.mem_toArray,List.mem_cons,List.not_mem_nil,or_false] at hc
  rcases hc with rfl | rfl | rfl | rfl | rfl | rfl
  ·exact .inl rfl
  ·exact .inl rfl
  ·exact .inl rfl
  ·exact .inl rfl
  ·exact .inl rfl
  ·exact row_inD (hS.has _ he2).1 (mf x hx')
 rcases List.mem_append.mp hg with hg | hg
 ·obtain ⟨j,hj,hgj⟩:=List.mem_flatMap.1 hg
  have hj':=List.mem_range.1 hj
  have hg':(fv j).ownBlock=some g:=by simpa using hgj
  have he2:=hmem j hj' _ (List.mem_cons_of_mem _ (List.mem_cons_self ..))
  obtain ⟨cs,t,h1,h2⟩:=row_closed (D:=D) (hS.has _ he2).1 (hS.has _ he2).2 (ptrs _ fun x hx=>fillsTo_lt k k.n j x hx) hg'
  exact ⟨cs,t,hv (hnew _ he2 g hg') h1,h2⟩
 ·obtain ⟨cs,t,h1,h2⟩:=hD0.cells g hg
  exact ⟨cs,t,newV_sub hV g _ h1,fun c hc=>inD_mono m0 (h2 c hc)⟩
theorem closed_mono {V V':View} {D:List Nat} (h:Closed V D) (hV:∀ i o,V i=some o→V' i=some o):Closed V' D :=
 ⟨fun b hb=>by obtain ⟨cs,t,h1,h2⟩:=h.cells b hb;exact ⟨cs,t,hV b _ h1,h2⟩,h.ge,h.last.imp fun _ ho=>hV _ _ ho⟩
end Go.Wg
namespace Go.Wg
open Go Go.Mm
def sumS (l:List (Int × Int)):Int × Int:=l.foldl bothS (0,0)
theorem foldB (l:List (Int × Int)) (a:Int × Int):l.foldl bothS a=bothS a (sumS l):=by
 unfold sumS
 induction l generalizing a with
 | nil=>simp [bothS]
 | cons x l ih =>
  rw [List.foldl_cons,List.foldl_cons,ih,ih (bothS (0,0) x)]
  unfold bothS
  simp only [Prod.mk.injEq]
  omega
theorem both_zero (x:Int × Int):bothS (0,0) x=x:=by
 obtain ⟨a,b⟩:=x
 unfold bothS
 simp
theorem sumS_cons (x:Int × Int) (l:List (Int × Int)):sumS (x :: l)=bothS x (sumS l):=by
 show (x :: l).foldl bothS (0,0)=_
 rw [List.foldl_cons,foldB,both_zero]
theorem sumS_perm {l l':List (Int × Int)} (h:l.Perm l'):sumS l=sumS l':=by
 induction h with
 | nil=>rfl
 | cons x _ ih=>rw [sumS_cons,sumS_cons,ih]
 | swap x y l =>
  rw [sumS_cons,sumS_cons,sumS_cons,sumS_cons]
  unfold bothS
  simp only [Prod.mk.injEq]
  omega
 | trans _ _ h1 h2=>exact h1.trans h2
theorem totalS_sum (k:Wk) (s:SS) (st:Bool):totalS k s st=sumS (k.sources.map (foundS k s st)):=by
 unfold totalS sumS
 rw [List.foldl_map]
theorem foundTo_bd {g:Gr} {c:Int} (h:g.Bd c) (hc:0≤c) (m:Nat):∀ r,foundTo g m=some r→Pb c r:=by
 induction m with
 | zero=>intro r hr;cases hr
 | succ m ih =>
  intro r hr
  rw [foundTo] at hr
  split at hr
  ·cases hf:foundTo g m with
   | none =>
    rw [hf] at hr
    cases hr
    exact h.get hc m
   | some u =>
    rw [hf] at hr
    cases hr
    exact (ih u hf).wider (h.get hc m)
  ·exact ih r hr
theorem foundS_bd (k:Wk) (hk:k.n≤6) (s:SS) (st:Bool) (hlo:∀ i,0≤(s.losAt i).1) (i:Nat):Pb 11764900 (foundS k s st i):=by
 have h1:=spreadF_bd k hk s st hlo (k.n - i) i
 have h2:(100:Int) * 7 ^ (k.n - i)≤11764900:=by
  have:k.n - i≤6:=by omega
  generalize k.n - i=f at this
  have hf:f=0∨f=1∨f=2∨f=3∨f=4∨f=5∨f=6:=by omega
  rcases hf with rfl | rfl | rfl | rfl | rfl | rfl | rfl <;> decide
 have h3:=h1.mono h2
 unfold foundS spreadS
 cases hf:foundTo (spreadF k s st (k.n - i) i) 41 with
 | none=>unfold Pb;simp
 | some r=>exact foundTo_bd h3 (by omega) 41 r hf
theorem sumS_bd {l:List (Int × Int)} {c:Int} (h:∀ x∈l,Pb c x):Pb (c * l.length) (sumS l):=by
 induction l with
 | nil=>simp [Pb,sumS]
 | cons x l ih =>
  have h1:=h x (by simp)
  have h2:=ih fun y hy=>h y (by simp [hy])
  rw [sumS_cons,List.length_cons]
  have h3:=h1.both h2
  have e:c+c * (l.length:Int)=c * ((l.length+1:Nat):Int):=by rw [Int.natCast_add,Int.mul_add];omega
  rw [e] at h3
  exact h3
end Go.Wg
namespace Go.Mm
open Go Go.Tm
variable {V:View}
theorem St.re0 {w0 w:World} {X:List Nat} {L:List Ent} {τ:Nat→Question→Nat} {d:Nat} (h:St (w0.re τ d) X V L w):St w0 X V L w:=⟨h.os,h.output,h.size,h.old,h.view,h.has,h.new,h.off,h.nd⟩
theorem St.re1 {w0 w:World} {X:List Nat} {L:List Ent} (h:St w0 X V L w) (τ:Nat→Question→Nat) (d:Nat):St w0 X V L (w.re τ d):=⟨h.os,h.output,h.size,h.old,h.view,fun e he=>by
 have:=h.has e he
 cases e with
 | blk b t cs=>exact this
 | row v t s n xs=>exact ⟨this.1,this.2⟩,h.new,h.off,h.nd⟩
end Go.Mm
namespace Go.Wg
open Go Go.Mm
def sizeS (x:Int × Int):Int:=x.2 - x.1+1
def nxLim (s:SS) (i:Nat) (err shown:Int):Nat:=s.limAt i &&& spanB (shown - err) (shown+err)
def nxStep (k:Wk) (s:SS) (i:Nat) (err:Int) (st:List Nat × Int) (shown:Int):List Nat × Int :=
 if st.1.contains (nxLim s i err shown) || !can k (s.setLim i (nxLim s i err shown)) then st else (nxLim s i err shown :: st.1,max st.2 (sizeS (totalS k (s.setLim i (nxLim s i err shown)) false)))
def nxTo (k:Wk) (s:SS) (i:Nat) (err lo:Int):Nat→List Nat × Int
 | 0=>([],0)
 | c+1=>nxStep k s i err (nxTo k s i err lo c) (lo+c)
def nxCnt (r:Int × Int) (err:Int):Nat:=(r.2+err - (r.1 - err)+1).toNat
def nxMost (k:Wk) (s:SS) (i:Nat) (err:Int):Int:=(nxTo k s i err ((weightS k s i).1 - err) (nxCnt (weightS k s i) err)).2
def nxBest (k:Wk) (s:SS) (err:Int):Nat→Int × Int
 | 0=>(-1,sizeS (totalS k s false))
 | i+1=>if nxMost k s i err < (nxBest k s err i).2 then ((i:Int),nxMost k s i err) else nxBest k s err i
def nextE (k:Wk) (err:Int):(Int × Int) × Int :=
 if beginE k []≠0 then ((0,0),beginE k [])
 else if outB err 0 9 then ((0,0),1)
 else if (settle k (nowS k noneB)).isSome then ((0,0),9)
 else if (nxBest k (nowS k noneB) err k.n).1 < 0 then ((0,0),11) else (nxBest k (nowS k noneB) err k.n,0)
end Go.Wg
namespace Go.Proofs.YtjjmefieegcddaaDoor
open Go.RowKit Go.Extern.Stop Go.Stop Go.Extern Go.Mm
theorem as_nil (t:Value) (w:World) :
  Calls Tryd.prog 115 #[.nilIface,t] w fun e w'=>e=.returned (.bool false)∧w'=w:=by
 go_enter Tryd.func115,Tryd.ntmps115
 go_wp2
 go_ret
 exact ⟨rfl,rfl⟩
abbrev errT:Value:=.iface 187 (.agg #[Value.pointer (some ⟨1,155,none⟩)])
theorem fact_valueOfT (t:Addr) (w:World):(ReflectliteValue.unpack (.iface 157 (.pointer (some t)))).run Tryd.prog w
  = .ok (.agg #[Value.pointer (some ⟨1,157,none⟩),.pointer (some ⟨w.heap.size,0,none⟩),.int .u64 150]) (w.alloc (.cells #[.pointer (some t)] 157)):=by kernel_rfl
theorem fact_typeT (a:Addr) (w:World):(ReflectliteValue.methodAny (ReflectliteValue.valueError "reflectlite.Value.Type" 0) (fun t _ _ _=>ReflectliteType.toType t) #[.agg #[Value.pointer (some ⟨1,157,none⟩),.pointer (some a),.int .u64 150]]).run Tryd.prog w
  = .ok (.iface 187 (.agg #[Value.pointer (some ⟨1,157,none⟩)])) w:=by kernel_rfl
theorem fact_methodKind (h:Value) (w:World):(Go.method 330 187 (.agg #[h]) "Kind").run Tryd.prog w=.ok (151,h) w:=by kernel_rfl
theorem fact_kindT (w:World):((ReflectliteType.abiMethod fun t=>(fun a:Nat=>Value.int IntKind.u8 (a:Int)) <$> Rtype.kind t) #[Value.pointer (some ⟨1,157,none⟩)]).run Tryd.prog w=.ok (.int .u8 22) w:=by kernel_rfl
theorem fact_kindE (w:World):((ReflectliteType.abiMethod fun t=>(fun a:Nat=>Value.int IntKind.u8 (a:Int)) <$> Rtype.kind t) #[Value.pointer (some ⟨1,152,none⟩)]).run Tryd.prog w=.ok (.int .u8 25) w:=by kernel_rfl
theorem rlm (z:Sem Value) (f:TypeId→Addr→Nat→Nat→Sem Value) (v:Value) :
  ReflectliteValue.method z f #[v]=(do match ← ReflectliteValue.parts v with | none=>z | some (t,a,fl)=>f t a fl (fl % 32)):=rfl
theorem fact_partsT (a:Addr) (w:World):(ReflectliteValue.parts (.agg #[Value.pointer (some ⟨1,157,none⟩),.pointer (some a),.int .u64 150])).run Tryd.prog w=.ok (some (157,a,150)) w:=by kernel_rfl
theorem fact_loadT (a p:Addr) (W:World) (ha:W.cell? a=some (.pointer (some p))):(loadVar 157 a).run Tryd.prog W=.ok (.pointer (some p)) W:=by
 simp [loadVar,run_isAgg_one (show oneB Tryd.prog 157=true by kernel_rfl),ha,Result.andThen]
theorem fact_isNilT (a p:Addr) (W:World) (ha:W.cell? a=some (.pointer (some p))) :
  (ReflectliteValue.method (ReflectliteValue.valueError "reflectlite.Value.IsNil" 0) ReflectliteValue.isNil #[.agg #[Value.pointer (some ⟨1,157,none⟩),.pointer (some a),.int .u64 150]]).run Tryd.prog W=.ok (.bool false) W:=by
 rw [rlm]
 simp only [Sem.run_bind,fact_partsT,Result.andThen]
 simp [ReflectliteValue.isNil,fact_loadT a p W ha,Result.andThen,underlying,show Tryd.prog.underlying 157=some (.pointer 152) by kernel_rfl]
theorem fact_methodElem (h:Value) (w:World):(Go.method 330 187 (.agg #[h]) "Elem").run Tryd.prog w=.ok (162,.agg #[h]) w:=by kernel_rfl
theorem fact_methodImplements (h:Value) (w:World):(Go.method 330 187 (.agg #[h]) "Implements").run Tryd.prog w=.ok (163,.agg #[h]) w:=by kernel_rfl
theorem fact_methodAssignableTo (h:Value) (w:World):(Go.method 330 187 (.agg #[h]) "AssignableTo").run Tryd.prog w=.ok (160,.agg #[h]) w:=by kernel_rfl
theorem fact_elemT (w:World):(ReflectliteType.method ReflectliteType.elem #[.agg #[Value.pointer (some ⟨1,157,none⟩)]]).run Tryd.prog w=.ok (.iface 187 (.agg #[Value.pointer (some ⟨1,152,none⟩)])) w:=by kernel_rfl
theorem fact_implE (w:World):(ReflectliteType.relation "Implements" ReflectliteType.implements_ #[.agg #[Value.pointer (some ⟨1,152,none⟩)],.iface 187 (.agg #[Value.pointer (some ⟨1,155,none⟩)])]).run Tryd.prog w=.ok (.bool true) w:=by kernel_rfl
theorem fact_typeOfE (v:Value) (w:World):(ReflectliteType.typeOf #[.iface 152 v]).run Tryd.prog w=.ok (.iface 187 (.agg #[Value.pointer (some ⟨1,152,none⟩)])) w:=by kernel_rfl
theorem fact_assE (w:World):(ReflectliteType.relation "AssignableTo" ReflectliteType.assignableTo #[.agg #[Value.pointer (some ⟨1,152,none⟩)],.iface 187 (.agg #[Value.pointer (some ⟨1,152,none⟩)])]).run Tryd.prog w=.ok (.bool true) w:=by kernel_rfl
theorem fact_valueOfE (i:Int) (w:World):(ReflectliteValue.unpack (.iface 152 (.agg #[.int .i64 i]))).run Tryd.prog w
  = .ok (.agg #[Value.pointer (some ⟨1,152,none⟩),.pointer (some ⟨w.heap.size,0,none⟩),.int .u64 153]) (w.alloc (.cells #[.int .i64 i] 152)):=by kernel_rfl
theorem fact_elemOfT (w:World):(Rtype.elem? 157).run Tryd.prog w=.ok (some 152) w:=by kernel_rfl
theorem fact_mkE (p:Addr) (w:World):(ReflectliteValue.mk 152 p ReflectliteValue.flagAddr).run Tryd.prog w=.ok (.agg #[Value.pointer (some ⟨1,152,none⟩),.pointer (some p),.int .u64 409]) w:=by kernel_rfl
theorem fact_elemVT (a p:Addr) (W:World) (ha:W.cell? a=some (.pointer (some p))) :
  (ReflectliteValue.method (ReflectliteValue.valueError "reflectlite.Value.Elem" 0) ReflectliteValue.elem #[.agg #[Value.pointer (some ⟨1,157,none⟩),.pointer (some a),.int .u64 150]]).run Tryd.prog W
   = .ok (.agg #[Value.pointer (some ⟨1,152,none⟩),.pointer (some p),.int .u64 409]) W:=by
 rw [rlm]
 simp only [Sem.run_bind,fact_partsT,Result.andThen]
 simp [ReflectliteValue.elem,fact_loadT a p W ha,Result.andThen,fact_elemOfT,fact_mkE]
theorem rls (v x:Value):ReflectliteValue.set #[v,x]=(do
  let (some (dst,a,fl),some (src,b,_)):=(← ReflectliteValue.parts v,← ReflectliteValue.parts x)
   | unsupported (.noEntry "extern/(internal/reflectlite.Value).Set.zeroValue")
  if fl / ReflectliteValue.flagAddr % 2 == 0 then unsupported (.noEntry "extern/(internal/reflectlite.Value).Set.unaddressable")
  let val ← loadVar src b
  if ← Rtype.directlyAssignable dst src then storeVar dst a val
  else if ← Rtype.implements dst src then
   if (← Rtype.kind src) == 20 then
    match val with
    | .nilIface=>unsupported (.noEntry "extern/reflectlite: a nil value of one interface type handed on as a value of another")
    | _=>storeVar dst a val
   else storeVar dst a (.iface src val)
  else panicString ("reflectlite.Set: value of type " ++ (← Rtype.spelt src) ++ " is not assignable to type " ++ (← Rtype.spelt dst))
  pure (.tuple #[])):=rfl
theorem fact_partsEa (a:Addr) (w:World):(ReflectliteValue.parts (.agg #[Value.pointer (some ⟨1,152,none⟩),.pointer (some a),.int .u64 409])).run Tryd.prog w=.ok (some (152,a,409)) w:=by kernel_rfl
theorem fact_partsE (a:Addr) (w:World):(ReflectliteValue.parts (.agg #[Value.pointer (some ⟨1,152,none⟩),.pointer (some a),.int .u64 153])).run Tryd.prog w=.ok (some (152,a,153)) w:=by kernel_rfl
theorem fact_directE (w:World):(Rtype.directlyAssignable 152 152).run Tryd.prog w=.ok true w:=by kernel_rfl
theorem rowB152:rowB Tryd.prog 152 1=true:=by kernel_rfl
theorem fact_setE (ta b:Nat) (i:Int) (W:World) (hb:W.heap[b]? = some (.cells #[.int .i64 i] 152 (0,0))) {old:Value} {t:TypeId} (ht:W.heap[ta]? = some (.cells #[old] t (0,0))) :
  (ReflectliteValue.set #[.agg #[Value.pointer (some ⟨1,152,none⟩),.pointer (some ⟨ta,0,none⟩),.int .u64 409],.agg #[Value.pointer (some ⟨1,152,none⟩),.pointer (some ⟨b,0,none⟩),.int .u64 153]]).run Tryd.prog W
   = .ok (.tuple #[]) (W.setCells ta 0 [.int .i64 i]):=by
 obtain ⟨d,hu,hd,hi⟩:=rowB_parts rowB152
 have hl:=run_loadVar_mid (P:=Tryd.prog) W b 0 152 [.int .i64 i] d (range_at (cs:=[.int .i64 i]) (n:=1) hb rfl) hu hd hi
 have hs:=run_storeVar_mid (P:=Tryd.prog) W ta 0 152 #[.int .i64 i] (there_of (cs:=[old]) (n:=1) ht (by simp)) hi (by simp [Value.oneCell'])
 rw [rls]
 simp only [Sem.run_bind,fact_partsEa,fact_partsE,Result.andThen]
 simp [ReflectliteValue.flagAddr,hl,Result.andThen,fact_directE,hs]
set_option maxRecDepth 20000 in
set_option maxHeartbeats 4000000 in
theorem as_hit (i:Int) (tb:Nat) (old:Value) (w:World) (hg:w.cell? ⟨0,0,none⟩=some (Value.iface 187 (.agg #[Value.pointer (some ⟨1,155,none⟩)]))) (ht0:w.heap[tb]? = some (.cells #[old] 152 (0,0))) :
  Calls Tryd.prog 115 #[.iface 152 (.agg #[.int .i64 i]),.iface 157 (.pointer (some ⟨tb,0,none⟩))] w fun ev w'=>ev=.returned (.bool true) ∧
   KpBut tb w w':=by
 have h6:=@run_callFunc_extern Tryd.prog 129 _ (fun args=>ReflectliteValue.unpack (args.getD 0 (.tuple #[]))) Tryd.func129 (by kernel_rfl) (by kernel_rfl) (by kernel_rfl) (by kernel_rfl)
 have h7:=@run_callFunc_extern Tryd.prog 130 _ (ReflectliteValue.methodAny (ReflectliteValue.valueError "reflectlite.Value.Type" 0) (fun t _ _ _=>ReflectliteType.toType t)) Tryd.func130 (by kernel_rfl) (by kernel_rfl) (by kernel_rfl) (by kernel_rfl)
 have h8:=@run_callFunc_extern Tryd.prog 131 _ (ReflectliteValue.method (ReflectliteValue.valueError "reflectlite.Value.IsNil" 0) ReflectliteValue.isNil) Tryd.func131 (by kernel_rfl) (by kernel_rfl) (by kernel_rfl) (by kernel_rfl)
 have h27:=@run_callFunc_extern Tryd.prog 151 _ (ReflectliteType.abiMethod fun t=>do pure (.int .u8 (← Rtype.kind t))) Tryd.func151 (by kernel_rfl) (by kernel_rfl) (by kernel_rfl) (by kernel_rfl)
 have h37:=@run_callFunc_extern Tryd.prog 162 _ (ReflectliteType.method ReflectliteType.elem) Tryd.func162 (by kernel_rfl) (by kernel_rfl) (by kernel_rfl) (by kernel_rfl)
 have h38:=@run_callFunc_extern Tryd.prog 163 _ (ReflectliteType.relation "Implements" ReflectliteType.implements_) Tryd.func163 (by kernel_rfl) (by kernel_rfl) (by kernel_rfl) (by kernel_rfl)
 have h10:=@run_callFunc_extern Tryd.prog 134 _ ReflectliteType.typeOf Tryd.func134 (by kernel_rfl) (by kernel_rfl) (by kernel_rfl) (by kernel_rfl)
 have h35:=@run_callFunc_extern Tryd.prog 160 _ (ReflectliteType.relation "AssignableTo" ReflectliteType.assignableTo) Tryd.func160 (by kernel_rfl) (by kernel_rfl) (by kernel_rfl) (by kernel_rfl)
 have h11:=@run_callFunc_extern Tryd.prog 135 _ (ReflectliteValue.method (ReflectliteValue.valueError "reflectlite.Value.Elem" 0) ReflectliteValue.elem) Tryd.func135 (by kernel_rfl) (by kernel_rfl) (by kernel_rfl) (by kernel_rfl)
 have h12:=@run_callFunc_extern Tryd.prog 136 _ ReflectliteValue.set Tryd.func136 (by kernel_rfl) (by kernel_rfl) (by kernel_rfl) (by kernel_rfl)
 have tO:=fact_typeOfE
 have mA:=fact_methodAssignableTo
 have a25:=fact_assE
 have v25:=fact_valueOfE
 have f6:=fact_valueOfT
 have f7:=fact_typeT
 have mK:=fact_methodKind
 have mE:=fact_methodElem
 have mI:=fact_methodImplements
 have k27:=fact_kindT
 have k25:=fact_kindE
 have e27:=fact_elemT
 have i25:=fact_implE
 have htl:=lt_of_heap ht0
 have n8:=fact_isNilT ⟨w.heap.size,0,none⟩ ⟨tb,0,none⟩ ((w.alloc (.cells #[.pointer (some ⟨tb,0,none⟩)] 157)).alloc (.cells #[Value.pointer (some ⟨1,157,none⟩),.pointer (some ⟨w.heap.size,0,none⟩),.int .u64 150] 176)) (by simp)
 have hlt:0 < w.heap.size:=by
  rcases Nat.eq_zero_or_pos w.heap.size with h0 | h
  ·simp [World.cell?,h0] at hg
  ·exact h
 have hg2:((w.alloc (.cells #[.pointer (some ⟨tb,0,none⟩)] 157)).alloc (.cells #[Value.pointer (some ⟨1,157,none⟩),.pointer (some ⟨w.heap.size,0,none⟩),.int .u64 150] 176)).cell? ⟨0,0,none⟩=some (Value.iface 187 (.agg #[Value.pointer (some ⟨1,155,none⟩)])):=by
  rw [World.cell?_alloc_lt _ _ ⟨0,0,none⟩ (by simp),World.cell?_alloc_lt _ _ ⟨0,0,none⟩ hlt];exact hg
 have el:=fact_elemVT ⟨w.heap.size,0,none⟩ ⟨tb,0,none⟩ (((w.alloc (.cells #[.pointer (some ⟨tb,0,none⟩)] 157)).alloc (.cells #[Value.pointer (some ⟨1,157,none⟩),.pointer (some ⟨w.heap.size,0,none⟩),.int .u64 150] 176)).alloc (.cells #[Value.pointer (some ⟨1,157,none⟩),.pointer (some ⟨w.heap.size,0,none⟩),.int .u64 150] 176)) (by rw [World.cell?_alloc_lt _ _ ⟨w.heap.size,0,none⟩ (by simp;omega)];simp)
 have st:=fact_setE tb (w.heap.size+1+1+1) i ((((w.alloc (.cells #[.pointer (some ⟨tb,0,none⟩)] 157)).alloc (.cells #[Value.pointer (some ⟨1,157,none⟩),.pointer (some ⟨w.heap.size,0,none⟩),.int .u64 150] 176)).alloc (.cells #[Value.pointer (some ⟨1,157,none⟩),.pointer (some ⟨w.heap.size,0,none⟩),.int .u64 150] 176)).alloc (.cells #[.int .i64 i] 152))
  (by have:=heap_alloc_new (((w.alloc (.cells #[.pointer (some ⟨tb,0,none⟩)] 157)).alloc (.cells #[Value.pointer (some ⟨1,157,none⟩),.pointer (some ⟨w.heap.size,0,none⟩),.int .u64 150] 176)).alloc (.cells #[Value.pointer (some ⟨1,157,none⟩),.pointer (some ⟨w.heap.size,0,none⟩),.int .u64 150] 176)) (.cells #[.int .i64 i] 152);simpa using this)
  (old:=old) (t:=152)
  (by rw [heap_alloc_old _ _ (by simp;omega),heap_alloc_old _ _ (by simp;omega),heap_alloc_old _ _ (by simp;omega),heap_alloc_old _ _ htl];exact ht0)
 go_enter Tryd.func115,Tryd.ntmps115
 go_wp2
 refine wp_loop_rounds 1 ?_
 rw [rounds_succ]
 go_wp2
 go_ret
 refine ⟨rfl,?_⟩
 obtain ⟨q1,q2,q3,q4⟩:=setCells_same [.int .i64 i] tb 0 ((((w.alloc (.cells #[.pointer (some ⟨tb,0,none⟩)] 157)).alloc (.cells #[Value.pointer (some ⟨1,157,none⟩),.pointer (some ⟨w.heap.size,0,none⟩),.int .u64 150] 176)).alloc (.cells #[Value.pointer (some ⟨1,157,none⟩),.pointer (some ⟨w.heap.size,0,none⟩),.int .u64 150] 176)).alloc (.cells #[.int .i64 i] 152))
 refine ⟨q1,q2,by rw [q3];simp;omega,fun j hj hjt=>(q4 j hjt).trans ?_⟩
 rw [heap_alloc_old _ _ (by simp;omega),heap_alloc_old _ _ (by simp;omega),heap_alloc_old _ _ (by simp;omega),heap_alloc_old _ _ hj]
end Go.Proofs.YtjjmefieegcddaaDoor
