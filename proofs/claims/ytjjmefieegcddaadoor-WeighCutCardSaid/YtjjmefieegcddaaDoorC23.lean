/- A part of the proof: S21, S22, S23, S24, S25, W74, W75. -/
import Derived.Test.YtjjmefieegcddaaDoorC14
import Derived.Test.YtjjmefieegcddaaDoorC15
import Derived.Test.YtjjmefieegcddaaDoorC22
set_option linter.unusedVariables false
set_option linter.unusedSimpArgs false
set_option maxHeartbeats 8000000
namespace Go.Wg
open Go Go.Mm
theorem Xn (n:Nat) (f g:Nat→Int) (i:Nat) (hi:i < n) (h:∀ j,j≠i→f j=g j):((List.range n).map g).sum=((List.range n).map f).sum+(g i - f i):=by
 induction n with
 | zero=>omega
 | succ n ih =>
  rw [List.range_succ,List.map_append,List.map_append,List.sum_append,List.sum_append]
  simp only [List.map_cons,List.map_nil,List.sum_cons,List.sum_nil]
  by_cases e:i=n
  ·subst e
   have:(List.range i).map g=(List.range i).map f:=List.map_congr_left fun j hj=>(h j (by have:=List.mem_range.1 hj;omega)).symm
   rw [this]
   omega
  ·rw [ih (by omega),h n (fun e'=>e e'.symm)]
   omega
theorem TK (n:Nat) (f:Nat→Int) (c:Int) (h:∀ j,j < n→0≤f j∧f j≤c):0≤((List.range n).map f).sum∧((List.range n).map f).sum≤c * n:=by
 induction n with
 | zero=>simp
 | succ n ih =>
  rw [List.range_succ,List.map_append,List.sum_append]
  simp only [List.map_cons,List.map_nil,List.sum_cons,List.sum_nil]
  have h1:=ih fun j hj=>h j (by omega)
  have h2:=h n (by omega)
  have:c * ((n+1:Nat):Int)=c * n+c:=by rw [Int.natCast_add,Int.mul_add];omega
  omega
def sumF (fr:Nat→Int) (n:Nat) (ws:List Int) (j:Nat):Int:=((List.range n).map fun k=>if fr k=(j:Int) then ws.getD k 0 else 0).sum
theorem fC {α:Type} (l:List α) (i j:Nat) (x d:α) (hi:i < l.length):(l.set i x).getD j d=if i=j then x else l.getD j d:=by
 rw [List.getD_eq_getElem?_getD,List.getElem?_set]
 by_cases e:i=j
 ·subst e
  simp [hi]
 ·rw [if_neg e,if_neg e,List.getD_eq_getElem?_getD]
theorem Un (fr:Nat→Int) (n:Nat) (ws:List Int) (hl:ws.length=n) (i:Nat) (hi:i < n) (x:Int) (j:Nat):sumF fr n (ws.set i x) j=sumF fr n ws j+if fr i=(j:Int) then x - ws.getD i 0 else 0:=by
 unfold sumF
 rw [Xn n (fun k=>if fr k=(j:Int) then ws.getD k 0 else 0) (fun k=>if fr k=(j:Int) then (ws.set i x).getD k 0 else 0) i hi]
 ·have h1:(ws.set i x).getD i 0=x:=by rw [fC _ _ _ _ _ (hl ▸ hi),if_pos rfl]
  rw [h1]
  by_cases e:fr i=(j:Int)
  ·simp only [if_pos e]
  ·simp only [if_neg e];omega
 ·intro k hk
  simp only [fC _ _ _ _ _ (hl ▸ hi),if_neg (Ne.symm hk)]
structure Truth (k:Wk) (ws:List Int):Prop where
 len:ws.length=k.n
 room:∀ i,i < k.n→0≤ws.getD i 0∧ws.getD i 0≤(k.v i).room
 loss:∀ i,i < k.n→(∃ j,j < k.n∧(k.v j).from_=(i:Int))→(k.v i).lo≤ws.getD i 0 - sumF (fun j=>(k.v j).from_) k.n ws i∧ws.getD i 0 - sumF (fun j=>(k.v j).from_) k.n ws i≤(k.v i).hi
 rdg:∀ r∈k.rdg,r.shown - r.err≤ws.getD r.vessel.toNat 0∧ws.getD r.vessel.toNat 0≤r.shown+r.err
structure nZ (l:List nN) (ws ss:List Int) (n m:Nat):Prop where
 ll:l.length=n
 wl:ws.length=n
 sl:ss.length=n
 fr:∀ j,j < n→-1≤(l.getD j default).from_∧(l.getD j default).from_ < j
 zero:∀ j,j < m→ws.getD j 0=0
 sums:∀ j,j < m→ss.getD j 0=sumF (fun k=>(l.getD k default).from_) n ws j
 ok:∀ j,m≤j→j < n→(l.getD j default).Ok j∧0≤ws.getD j 0∧ws.getD j 0≤(l.getD j default).room
 loss:∀ j,m≤j→j < n→(∃ k,k < n∧(l.getD k default).from_=(j:Int))→(l.getD j default).lo≤ws.getD j 0 - sumF (fun k=>(l.getD k default).from_) n ws j∧ws.getD j 0 - sumF (fun k=>(l.getD k default).from_) n ws j≤(l.getD j default).hi
theorem nZ.bound {l:List nN} {ws ss:List Int} {n m:Nat} (h:nZ l ws ss n m) (hn:n≤6) (hm:m≤n) {j:Nat} (hj:j < m):0≤ss.getD j 0∧ss.getD j 0≤240:=by
 have hb:=TK n (fun k=>if (l.getD k default).from_=(j:Int) then ws.getD k 0 else 0) 40 fun k hk=>by
  have h1:0≤ws.getD k 0∧ws.getD k 0≤40:=by
   rcases Nat.lt_or_ge k m with hk2 | hk2
   ·rw [h.zero k hk2];decide
   ·obtain ⟨⟨_,_,_,o4,_⟩,o2,o3⟩:=h.ok k hk2 hk
    omega
  by_cases e:(l.getD k default).from_=(j:Int)
  ·simp only [e,if_true];exact h1
  ·simp only [e,if_false];decide
 have e:sumF (fun k=>(l.getD k default).from_) n ws j=((List.range n).map fun k=>if (l.getD k default).from_=(j:Int) then ws.getD k 0 else 0).sum:=rfl
 rw [h.sums j hj,e]
 have:(40:Int) * n≤240:=by omega
 omega
theorem Gf (l:List nN) (n:Nat) (hl:l.length=n) (hf:∀ j,j < n→-1≤(l.getD j default).from_∧(l.getD j default).from_ < j):nZ l (List.replicate n 0) (List.replicate n 0) n n:=by
 have hz:∀ j,(List.replicate n (0:Int)).getD j 0=0:=fun j=>by
  rw [List.getD_eq_getElem?_getD,List.getElem?_replicate]
  split <;> rfl
 refine ⟨hl,by simp,by simp,hf,fun j _=>hz j,fun j hj=>?_,fun j h1 h2=>absurd h2 (by omega),fun j h1 h2=>absurd h2 (by omega)⟩
 rw [hz]
 unfold sumF
 have:(List.range n).map (fun k=>if (l.getD k default).from_=(j:Int) then (List.replicate n (0:Int)).getD k 0 else 0)=(List.range n).map fun _=>(0:Int):=List.map_congr_left fun k _=>by
  split
  ·exact hz k
  ·rfl
 rw [this]
 clear this
 induction n with
 | zero=>rfl
 | succ n ih =>
  rw [List.range_succ,List.map_append,List.sum_append]
  have:((List.range n).map fun _=>(0:Int)).sum=0:=by
   clear ih hl hf hz hj
   induction n with
   | zero=>rfl
   | succ n ih=>rw [List.range_succ,List.map_append,List.sum_append,ih];rfl
  rw [this]
  rfl
theorem nZ.step {l:List nN} {ws ss ss':List Int} {n i:Nat} (h:nZ l ws ss n (i+1)) (hi:i < n) {s wt x y z:Int}
  (hs:(∃ k,k < n∧(l.getD k default).from_=(i:Int))→s=ss.getD i 0) (hwt:wt≤40) (hw0:0≤wt) (hlost:0≤wt - s) (hlost2:wt - s≤4) (hx:0≤x) (hy:0≤y) (hy2:y≤4) (hz:0≤z)
  (hsl:ss'.length=n) (hss:∀ j,j < i→ss'.getD j 0=ss.getD j 0+if (l.getD i default).from_=(j:Int) then wt else 0) :
  nZ (l.set i ⟨(l.getD i default).from_,min 40 (wt+z),max 0 (wt - s - x),wt - s+y⟩) (ws.set i wt) ss' n i:=by
 have hl:=h.ll
 have hwl:=h.wl
 have g1:∀ j,(l.set i ⟨(l.getD i default).from_,min 40 (wt+z),max 0 (wt - s - x),wt - s+y⟩).getD j default=if i=j then ⟨(l.getD i default).from_,min 40 (wt+z),max 0 (wt - s - x),wt - s+y⟩ else l.getD j default:=fun j=>fC _ _ _ _ _ (by omega)
 have g2:∀ j,(ws.set i wt).getD j 0=if i=j then wt else ws.getD j 0:=fun j=>fC _ _ _ _ _ (by omega)
 have gf:(fun k=>((l.set i ⟨(l.getD i default).from_,min 40 (wt+z),max 0 (wt - s - x),wt - s+y⟩).getD k default).from_)=fun k=>(l.getD k default).from_:=by
  funext k
  rw [g1]
  split
  ·next e=>subst e;rfl
  ·rfl
 have hsum:∀ j,sumF (fun k=>(l.getD k default).from_) n (ws.set i wt) j=sumF (fun k=>(l.getD k default).from_) n ws j+if (l.getD i default).from_=(j:Int) then wt else 0:=fun j=>by
  rw [Un _ n ws hwl i hi wt j,h.zero i (by omega)]
  simp
 have hfi:=h.fr i hi
 refine ⟨by simp [hl],by simp [hwl],hsl,fun j hj=>?_,fun j hj=>?_,fun j hj=>?_,fun j h1 h2=>?_,fun j h1 h2 h3=>?_⟩
 ·have:=congrFun gf j
  rw [this]
  exact h.fr j hj
 ·rw [g2,if_neg (by omega)]
  exact h.zero j (by omega)
 ·rw [gf,hsum,hss j hj,h.sums j (by omega)]
 ·rw [g1,g2]
  by_cases e:i=j
  ·subst e
   rw [if_pos rfl,if_pos rfl]
   refine ⟨⟨hfi.1,hfi.2,?_,?_,?_,?_,?_,?_,?_⟩,?_,?_⟩ <;> (try simp only) <;> omega
  ·rw [if_neg e,if_neg e]
   exact h.ok j (by omega) h2
 ·have h3':∃ k,k < n∧(l.getD k default).from_=(j:Int):=by
   obtain ⟨k,hk,he⟩:=h3
   exact ⟨k,hk,by have:=congrFun gf k;rw [this] at he;exact he⟩
  rw [gf,hsum,g1,g2]
  by_cases e:i=j
  ·subst e
   rw [if_pos rfl,if_pos rfl,if_neg (by omega),← h.sums i (by omega),← hs h3']
   (try simp only)
   omega
  ·rw [if_neg e,if_neg e,if_neg (by omega)]
   have:=h.loss j (by omega) h2 h3'
   omega
def nT (fr:Nat→Int) (i:Nat):Nat→Bool
 | 0=>false
 | m+1=>nT fr i m || decide (fr (i+1+m)=(i:Int))
theorem OD (fr:Nat→Int) (i n:Nat) (hi:i < n) (hf:∀ j,j < n→fr j < j):nT fr i (n - (i+1))=true↔∃ k,k < n∧fr k=(i:Int):=by
 have key:∀ m,nT fr i m=true↔∃ k,i < k∧k < i+1+m∧fr k=(i:Int):=fun m=>by
  induction m with
  | zero=>simp [nT];intro k h1 h2;omega
  | succ m ih =>
   rw [nT,Bool.or_eq_true,ih,decide_eq_true_eq]
   constructor
   ·rintro (⟨k,h1,h2,h3⟩ | h)
    ·exact ⟨k,h1,by omega,h3⟩
    ·exact ⟨i+1+m,by omega,by omega,h⟩
   ·rintro ⟨k,h1,h2,h3⟩
    by_cases e:k=i+1+m
    ·subst e;exact .inr h3
    ·exact .inl ⟨k,h1,by omega,h3⟩
 rw [key]
 constructor
 ·rintro ⟨k,h1,h2,h3⟩
  exact ⟨k,by omega,h3⟩
 ·rintro ⟨k,h1,h2⟩
  have:=hf k h1
  exact ⟨k,by omega,by omega,h2⟩
theorem nZ.done {l:List nN} {ws ss:List Int} {n:Nat} (h:nZ l ws ss n 0) (h0:0 < n) (h6:n≤6) {rs:List je} (hr:rs.length≤4)
  (hro:∀ r∈rs,r.Ok n∧r.shown - r.err≤ws.getD r.vessel.toNat 0∧ws.getD r.vessel.toNat 0≤r.shown+r.err):(⟨l,rs⟩:Wk).Ok∧Truth ⟨l,rs⟩ ws:=by
 have hn:(⟨l,rs⟩:Wk).n=n:=h.ll
 refine ⟨⟨by rw [hn];exact h0,by rw [hn];exact h6,fun i hi=>(h.ok i (by omega) (by rw [hn] at hi;exact hi)).1,by show rs.length≤6;omega,fun i hi=>?_⟩,⟨by rw [hn];exact h.wl,fun i hi=>(h.ok i (by omega) (by rw [hn] at hi;exact hi)).2,fun i hi hx=>?_,fun r hr=>(hro r hr).2⟩⟩
 ·rw [hn]
  have hi':i < rs.length:=hi
  have:(⟨l,rs⟩:Wk).rdg.getD i default=rs[i]:=by
   show rs.getD i default=_
   simp [List.getD_eq_getElem?_getD,List.getElem?_eq_getElem hi']
  rw [this]
  exact (hro _ (List.getElem_mem hi')).1
 ·rw [hn] at hi hx ⊢
  exact h.loss i (by omega) hi hx
theorem KP:(⟨[⟨-1,5,0,0⟩],[]⟩:Wk).Ok∧Truth ⟨[⟨-1,5,0,0⟩],[]⟩ [0]:=by
 refine ⟨⟨by decide,by decide,fun i hi=>?_,by decide,fun i hi=>?_⟩,⟨rfl,fun i hi=>?_,fun i hi ⟨j,hj,he⟩=>?_,fun r hr=>by cases hr⟩⟩
 ·have:i=0:=by simpa [Wk.n] using hi
  subst this
  simp [Wk.v,nN.Ok]
 ·simp at hi
 ·have:i=0:=by simpa [Wk.n] using hi
  subst this
  simp [Wk.v]
 ·have:j=0:=by simpa [Wk.n] using hj
  subst this
  simp [Wk.v] at he
end Go.Wg
namespace Go.Mm
open Go
variable {P:Program} {w0:World} {X:List Nat} {V:View} {L:List dF} {w w':World}
theorem St.lt (h:St w0 X V L w) {e:dF} (he:e∈L) {b:Nat} (hb:e.foot=some b):b < w.heap.size:=(h.has e he).lt hb
theorem St.free (h:St w0 X V L w) {j:Nat} (hj:w.heap.size≤j):V j=none:=by
 cases hv:V j with
 | none=>rfl
 | some o =>
  have:=lt_of_heap (h.view j o hv)
  omega
theorem St.comp (h:St w0 X V L w) {g j:Nat} {t:TypeId} {cs cs':List Value} {Lc:List dF} {Vc:View} (hj:L[j]? = some (.blk g t cs)) (hc:St w [g] Vc (.blk g t cs' :: Lc) w') :
  St w0 X V (Lc ++ L.set j (.blk g t cs')) w':=by
 have hgw:g < w.heap.size:=h.lt (List.mem_of_getElem? hj) rfl
 have hold:∀ k,k < w.heap.size→k≠g→w'.heap[k]? = w.heap[k]?:=fun k hk hn=>hc.old k hk (by simpa using hn)
 have hnd:=hc.nd
 simp only [List.filterMap_cons,dF.foot,List.nodup_cons] at hnd
 have hLc:∀ e∈Lc,∀ b,e.foot=some b→w.heap.size≤b:=fun e he b hb=>by
  rcases hc.new e (List.mem_cons_of_mem _ he) b hb with h1 | h1
  ·exact h1
  ·have:b=g:=by simpa using h1
   subst this
   exact absurd (List.mem_filterMap.2 ⟨e,he,hb⟩) hnd.1
 have hset:∀ e∈L.set j (.blk g t cs'),e=.blk g t cs'∨(e∈L∧∀ b,e.foot=some b→b≠g):=fun e he=>by
  obtain ⟨i,hi⟩:=List.mem_iff_getElem?.1 he
  by_cases e1:j=i
  ·subst e1
   rw [List.getElem?_set_self (List.getElem?_eq_some_iff.1 hj).1] at hi
   exact .inl (Option.some.inj hi).symm
  ·rw [List.getElem?_set_ne e1] at hi
   exact .inr ⟨List.mem_of_getElem? hi,fun b hb hbg=>by
    subst hbg
    exact CZ h.nd hj hi e1 rfl hb⟩
 have hLs:=Nat.le_trans h.size hc.size
 refine ⟨hc.os.trans h.os,hc.output.trans h.output,hLs,fun k hk hx=>?_,fun k o hk=>?_,fun e he=>?_,fun e he b hb=>?_,fun e he b hb=>?_,?_⟩
 ·have hkg:k≠g:=by
   rintro rfl
   rcases h.new _ (List.mem_of_getElem? hj) k rfl with h1 | h1
   ·omega
   ·exact hx h1
  rw [hold k (Nat.lt_of_lt_of_le hk h.size) hkg]
  exact h.old k hk hx
 ·have h1:=h.view k o hk
  have hkg:k≠g:=by
   rintro rfl
   have:=h.off _ (List.mem_of_getElem? hj) k rfl
   rw [this] at hk
   cases hk
  rw [hold k (lt_of_heap h1) hkg]
  exact h1
 ·rcases List.mem_append.1 he with he | he
  ·exact hc.has e (List.mem_cons_of_mem _ he)
  ·rcases hset e he with rfl | ⟨h1,h2⟩
   ·exact hc.has _ (List.mem_cons_self ..)
   ·exact (h.has e h1).of_heap fun b hb=>hold b (h.lt h1 hb) (h2 b hb)
 ·rcases List.mem_append.1 he with he | he
  ·exact .inl (Nat.le_trans h.size (hLc e he b hb))
  ·rcases hset e he with rfl | ⟨h1,_⟩
   ·exact h.new _ (List.mem_of_getElem? hj) b hb
   ·exact h.new e h1 b hb
 ·rcases List.mem_append.1 he with he | he
  ·exact h.free (hLc e he b hb)
  ·rcases hset e he with rfl | ⟨h1,_⟩
   ·exact h.off _ (List.mem_of_getElem? hj) b hb
   ·exact h.off e h1 b hb
 ·rw [List.filterMap_append,mX (f:=.blk g t cs') hj rfl,List.nodup_append]
  refine ⟨hnd.2,h.nd,fun a ha b hb hab=>?_⟩
  subst hab
  obtain ⟨e,he,hf⟩:=List.mem_filterMap.1 ha
  obtain ⟨e',he',hf'⟩:=List.mem_filterMap.1 hb
  have:=hLc e he a hf
  have:=h.lt he' hf'
  omega
theorem St.Nq (h:St w0 X V L w) {Lc:List dF} {Vc:View} (hc:St w [] Vc Lc w'):St w0 X V (Lc ++ L) w':=by
 have hold:∀ k,k < w.heap.size→w'.heap[k]? = w.heap[k]?:=fun k hk=>hc.old k hk (by simp)
 have hLc:∀ e∈Lc,∀ b,e.foot=some b→w.heap.size≤b:=fun e he b hb=>by
  rcases hc.new e he b hb with h1 | h1
  ·exact h1
  ·cases h1
 refine ⟨hc.os.trans h.os,hc.output.trans h.output,Nat.le_trans h.size hc.size,fun k hk hx=>?_,fun k o hk=>?_,fun e he=>?_,fun e he b hb=>?_,fun e he b hb=>?_,?_⟩
 ·rw [hold k (Nat.lt_of_lt_of_le hk h.size)]
  exact h.old k hk hx
 ·have h1:=h.view k o hk
  rw [hold k (lt_of_heap h1)]
  exact h1
 ·rcases List.mem_append.1 he with he | he
  ·exact hc.has e he
  ·exact (h.has e he).of_heap fun b hb=>hold b (h.lt he hb)
 ·rcases List.mem_append.1 he with he | he
  ·exact .inl (Nat.le_trans h.size (hLc e he b hb))
  ·exact h.new e he b hb
 ·rcases List.mem_append.1 he with he | he
  ·exact h.free (hLc e he b hb)
  ·exact h.off e he b hb
 ·rw [List.filterMap_append,List.nodup_append]
  refine ⟨hc.nd,h.nd,fun a ha b hb hab=>?_⟩
  subst hab
  obtain ⟨e,he,hf⟩:=List.mem_filterMap.1 ha
  obtain ⟨e',he',hf'⟩:=List.mem_filterMap.1 hb
  have:=hLc e he a hf
  have:=h.lt he' hf'
  omega
abbrev jv (lv:Value) (cn st:Int):List Value:=[lv,.int .i64 cn,.int .u64 st]
structure Gg (bh:Nat) (lv:Value) (cn c:Int) (w w':World):Prop where
 kp:ni bh w w'
 hat:∃ cn' st',cn≤cn'∧cn'≤cn+c∧w'.heap[bh]? = some (.cells (jv lv cn' st').toArray 90 (0,0))
theorem eF {f:FuncId} {args:Array Value} {R:Ending→World→Prop} (hS:St w0 X V L w) {bh j:Nat} {lv:Value} {cn st:Int} [hj:Hs L bh j 90 (jv lv cn st)]
  (h:∃ (c:Int) (Pr:Value→Prop),(V bh=none→w.heap[bh]? = some (.cells (jv lv cn st).toArray 90 (0,0))→Calls P f args w fun e w'=>∃ v,e=.returned v∧Pr v∧Gg bh lv cn c w w') ∧
   ∀ v cn' st' w',Pr v→cn≤cn'→cn'≤cn+c→St w0 X V (L.set j (.blk bh 90 (jv lv cn' st'))) w'→R (.returned v) w'):Calls P f args w R:=by
 obtain ⟨c,Pr,hc,h⟩:=h
 refine (hc (hS.off _ (List.mem_of_getElem? hj.ok) bh rfl) (hS.at hj.ok)).mono fun e w' ⟨v,he,hp,hk⟩=>?_
 subst he
 obtain ⟨cn',st',h1,h2,h3⟩:=hk.hat
 exact h v cn' st' w' hp h1 h2 (hS.mut hj.ok hk.kp h3 rfl)
theorem uo {bh:Nat} {lv:Value} {cn c cn' st':Int} (hS:St w0 [bh] V L w) {j:Nat} [hj:Hs L bh j 90 (jv lv cn' st')] (h1:cn≤cn') (h2:cn'≤cn+c):Gg bh lv cn c w0 w:=⟨hS.Js,cn',st',h1,h2,hS.at hj.ok⟩
section
variable {l:List Oper} {md:Region.Mode} {o:Oper} {a:Act} {Q:Exit→Act→World→Prop} {S:World→Prop} {fuel:Nat} {listed:Array Bool} {K:Act→World→Prop} {ops:Array Oper} {i₀:Nat}
theorem yB {f:FuncId} {args:Array Value} {R:Value→World→Prop} (hi:ops[i₀]? = some o) (hgd:Region.wanted o (yielded ops a.tmps)=true) (hr:(execOp a.eval o).run P w=.ok (.enter f args) w)
  (hc:Calls P f args w fun e w'=>∃ v,e=.returned v∧R v w') (h:∀ v w',R v w'→K (a.put o.dst v) w'):wpOp P ops Q i₀ K a w:=by
 unfold wpOp
 simp only [hi]
 rw [hgd]
 refine .inl ?_
 unfold Oper.wp
 rw [hr]
 exact hc.mono fun e w' ⟨v,he,hR⟩=>by subst he;exact h v w' hR
theorem VX (i:Nat) (hi₀:l[i]? = some o) (hS:St w0 X V L w) (hw:Region.wanted o (yielded l.toArray a.tmps)=true) {bh j:Nat} {lv:Value} {cn st:Int} [hj:Hs L bh j 90 (jv lv cn st)]
  (h:∃ f args,(execOp a.eval o).run P w=.ok (.enter f args) w∧∃ (c:Int) (Pr:Value→Prop),(V bh=none→w.heap[bh]? = some (.cells (jv lv cn st).toArray 90 (0,0))→Calls P f args w fun e w'=>∃ v,e=.returned v∧Pr v∧Gg bh lv cn c w w') ∧
   ∀ v cn' st' a' l',Pr v→cn≤cn'→cn'≤cn+c→a.put o.dst v=a'→listed.setIfInBounds i true=l'→∀ w',St w0 X V (L.set j (.blk bh 90 (jv lv cn' st'))) w'→S w'∧wpAnyH P md l.toArray Q S fuel l' a' w') :
  wpOp P l.toArray Q i (fun a' w'=>S w'∧wpAnyH P md l.toArray Q S fuel (listed.setIfInBounds i true) a' w') a w:=by
 obtain ⟨f,args,hr,c,Pr,hc,h⟩:=h
 refine yB (R:=fun v w'=>Pr v∧Gg bh lv cn c w w') (jV hi₀) hw hr (hc (hS.off _ (List.mem_of_getElem? hj.ok) bh rfl) (hS.at hj.ok)) fun v w' ⟨hp,hk⟩=>?_
 obtain ⟨cn',st',h1,h2,h3⟩:=hk.hat
 exact h v cn' st' _ _ hp h1 h2 rfl rfl w' (hS.mut hj.ok hk.kp h3 rfl)
theorem yC (i:Nat) (hr:Region.ready md l.toArray listed=[i]) (hi₀:l[i]? = some o) (hS:St w0 X V L w) (hw:Region.wanted o (yielded l.toArray a.tmps)=true) {bh j:Nat} {lv:Value} {cn st:Int} [hj:Hs L bh j 90 (jv lv cn st)]
  (h:∃ f args,(execOp a.eval o).run P w=.ok (.enter f args) w∧∃ (c:Int) (Pr:Value→Prop),(V bh=none→w.heap[bh]? = some (.cells (jv lv cn st).toArray 90 (0,0))→Calls P f args w fun e w'=>∃ v,e=.returned v∧Pr v∧Gg bh lv cn c w w') ∧
   ∀ v cn' st' a' l',Pr v→cn≤cn'→cn'≤cn+c→a.put o.dst v=a'→listed.setIfInBounds i true=l'→∀ w',St w0 X V (L.set j (.blk bh 90 (jv lv cn' st'))) w'→S w'∧wpAnyH P md l.toArray Q S fuel l' a' w') :
  wpAnyH P md l.toArray Q S (fuel+1) listed a w:=mG hr (VX i hi₀ hS hw h)
theorem CU (i:Nat) (hi₀:l[i]? = some o) (hs:Region.noSelect l.toArray=true) (hf:Region.free md l.toArray listed i=true) (hr:(Region.ready md l.toArray listed).contains i=true)
  (hQ:∀ v c a w,Q (.panic c) (a.put o.dst v) w→Q (.panic c) a w) (hw:Region.wanted o (yielded l.toArray a.tmps)=true) (hS:S w)
  {ty:TypeId} {x:Operand} (ho:o.op=.load ty x) {b k:Nat} (hx:a.eval x=.pointer (some ⟨b,k,none⟩)) [hty:iR P ty]
  (h:∃ v,(∀ w,S w→w.cell? ⟨b,k,none⟩=some v)∧∀ a' l',a.put o.dst v=a'→listed.setIfInBounds i true=l'→wpAnyH P md l.toArray Q S fuel l' a' w):wpAnyH P md l.toArray Q S (fuel+1) listed a w:=by
 obtain ⟨v,hv,h⟩:=h
 exact wpAnyH_take (jV hi₀) hs hf hr (hQ v) (.inl ⟨hw,fun w hS=>fP ho hx hty.ok (hv w hS)⟩) hS (h _ _ rfl rfl)
end
theorem zf (hS:St w0 X V L w) {b b' j j':Nat} {t t':TypeId} {cs cs':List Value} [h:Hs L b j t cs] [h':Hs L b' j' t' cs'] (ht:t≠t'):b≠b':=by
 rintro rfl
 have h1:=hS.at h.ok
 rw [hS.at h'.ok] at h1
 simp at h1
 exact ht h1.2.symm
end Go.Mm
namespace Go.Wg
open Go Go.Mm Go.Proofs.YtjjmefieegcddaaDoor
variable {w0:World} {X:List Nat} {V:View} {L:List dF} {w:World}
theorem rO {v:Value} {t:TypeId} {s n:Nat} {xs:List Value} (h:St w0 X V (.row v t s n xs :: L) w) :
  (v=.slice none 0 0∧n=0)∨∃ g cap pad,v=.slice (some ⟨g,0,none⟩) n cap∧n≤cap∧cap≤maxLen∧xs.length=n * s∧(xs ++ pad).length=cap * s∧(∀ c∈pad,iL c=true)∧St w0 X V (.blk g t (xs ++ pad) :: L) w:=by
 obtain ⟨⟨hl,hr⟩,hp⟩:=h.has _ (List.mem_cons_self ..)
 rcases hr with ⟨hv,h0⟩ | ⟨g,cap,cur,rfl,_,hb,h1,h2,h3,h4⟩
 ·exact .inl ⟨hv,h0⟩
 ·refine .inr ?_
  have hxs:xs ++ cur.toList.drop (n * s)=cur.toList:=by rw [← h4,List.take_append_drop]
  have hb':w.heap[g]? = some (.cells cur t (0,0)):=by simpa using hb
  refine ⟨g,cap,cur.toList.drop (n * s),rfl,h1,h2,hl,by rw [hxs];simpa using h3,fun c hc=>?_,?_⟩
  ·obtain ⟨i,hi⟩:=List.mem_iff_getElem?.1 hc
   rw [List.getElem?_drop] at hi
   exact hp g rfl cur t (0,0) hb' (n * s+i) c (by omega) (by simpa using hi)
  ·rw [hxs]
   refine ⟨h.os,h.output,h.size,h.old,h.view,fun e he=>?_,fun e he b hb=>?_,fun e he b hb=>?_,h.nd⟩
   ·rcases List.mem_cons.1 he with rfl | he
    ·exact hb'
    ·exact h.has e (List.mem_cons_of_mem _ he)
   ·rcases List.mem_cons.1 he with rfl | he
    ·exact h.new _ (List.mem_cons_self ..) b hb
    ·exact h.new e (List.mem_cons_of_mem _ he) b hb
   ·rcases List.mem_cons.1 he with rfl | he
    ·exact h.off _ (List.mem_cons_self ..) b hb
    ·exact h.off e (List.mem_cons_of_mem _ he) b hb
theorem QC {v:Value} {t:TypeId} {s n:Nat} {xs:List Value} (h:St w0 X V (.row v t s n xs :: L) w) (hn:0 < n) :
  ∃ g cap pad,v=.slice (some ⟨g,0,none⟩) n cap∧n≤cap∧cap≤maxLen∧xs.length=n * s∧(xs ++ pad).length=cap * s∧(∀ c∈pad,iL c=true)∧St w0 X V (.blk g t (xs ++ pad) :: L) w:=by
 rcases rO h with ⟨_,h0⟩ | h
 ·omega
 ·exact h
theorem XT {t:TypeId} {s n g cap:Nat} {xs pad:List Value} (h:St w0 X V (.blk g t (xs ++ pad) :: L) w) (h1:n≤cap) (h2:cap≤maxLen) (hl:xs.length=n * s) (h3:(xs ++ pad).length=cap * s) (hp:∀ c∈pad,iL c=true) :
  St w0 X V (.row (.slice (some ⟨g,0,none⟩) n cap) t s n xs :: L) w:=by
 have hb:w.heap[g]? = some (.cells (xs ++ pad).toArray t (0,0)):=h.has _ (List.mem_cons_self ..)
 refine ⟨h.os,h.output,h.size,h.old,h.view,fun e he=>?_,fun e he b hb=>?_,fun e he b hb=>?_,h.nd⟩
 ·rcases List.mem_cons.1 he with rfl | he
  ·refine ⟨⟨hl,.inr ⟨g,cap,(xs ++ pad).toArray,rfl,Nat.zero_le _,hb,h1,h2,by simpa using h3,by simp [← hl]⟩⟩,fun g' hg' cur t' fr hcur i c hi hc=>?_⟩
   have:g'=g:=by simpa [Value.ownBlock] using hg'.symm
   subst this
   rw [hb] at hcur
   cases hcur
   rw [List.getElem?_toArray,List.getElem?_append_right (by omega)] at hc
   exact hp c (List.mem_of_getElem? hc)
  ·exact h.has e (List.mem_cons_of_mem _ he)
 ·rcases List.mem_cons.1 he with rfl | he
  ·exact h.new _ (List.mem_cons_self ..) b hb
  ·exact h.new e (List.mem_cons_of_mem _ he) b hb
 ·rcases List.mem_cons.1 he with rfl | he
  ·exact h.off _ (List.mem_cons_self ..) b hb
  ·exact h.off e (List.mem_cons_of_mem _ he) b hb
theorem oG {b:Nat} {o:Obj} (hb:V b=none):∀ j u,V j=some u→(fun k=>if k=b then some o else V k) j=some u:=fun j u hj=>by
 have:j≠b:=by
  rintro rfl
  rw [hb] at hj
  cases hj
 simp [this,hj]
theorem En {V':View} {b t:Nat} {α:Type} {f:α→List Value} (hf:∀ x,(f x).length=4) {l:List α} {pad:List Value} (hb:V' b=some (.cells (l.flatMap f ++ pad).toArray t (0,0))) {i:Nat} {x:α} (hx:l[i]? = some x):V'.Range b (0+i * 4) (f x):=fun j v hj=>by
 have hj4:j < 4:=by
  have:=(List.getElem?_eq_some_iff.1 hj).1
  rwa [hf] at this
 refine ⟨_,_,_,hb,?_⟩
 have hi:=(List.getElem?_eq_some_iff.1 hx).1
 rw [List.getElem?_toArray,Nat.zero_add,List.getElem?_append_left (by rw [jK f hf];omega),Ei f hf l i x hx j hj4]
 exact hj
theorem Eh {k:Wk} {vv rv:Value} (h:St w0 [] V (.row vv 29 4 k.n (fD k.ves) :: .row rv 59 4 k.rdg.length (fH k.rdg) :: L) w) (hg:gN≤w0.heap.size) (hB:Bs V) (hn:0 < k.n∧k.n≤100∧k.rdg.length≤100) :
  ∃ V',(∀ j o,V j=some o→V' j=some o)∧St w0 [] V' L w∧iJ V' vv rv k:=by
 have hv4:∀ v:nN,v.cells.length=4:=fun _=>rfl
 have hr4:∀ r:je,r.cells.length=4:=fun _=>rfl
 have hfl:∀ i,i < k.n→k.ves[i]? = some (k.v i):=fun i hi=>by
  unfold Wk.n at hi
  simp [Wk.v,List.getD_eq_getElem?_getD,List.getElem?_eq_getElem hi]
 have hfr:∀ i,i < k.rdg.length→k.rdg[i]? = some (k.rdg.getD i default):=fun i hi=>by simp [List.getD_eq_getElem?_getD,List.getElem?_eq_getElem hi]
 have new0:∀ {L:List dF} {V:View} {w:World} {b t cs},St w0 [] V (.blk b t cs :: L) w→gN≤b:=fun h=>by
  rcases h.new _ (List.mem_cons_self ..) _ rfl with h1 | h1
  ·omega
  ·cases h1
 obtain ⟨g,cap,pad,rfl,c1,c2,c3,c4,c5,h1⟩:=QC h hn.1
 have hgV:=h1.off _ (List.mem_cons_self ..) g rfl
 have hgn:=new0 h1
 have h2:=h1.freeze
 obtain ⟨o,ho⟩:=hB.last
 have hcv:∀ v∈(fD k.ves ++ pad).toArray,iL v=true:=fun v hv=>by
  rcases List.mem_append.1 (by simpa using hv) with hv | hv
  ·exact Gw _ v hv
  ·exact c5 v hv
 have hRv:∀ {V':View},V' g=some (.cells (fD k.ves ++ pad).toArray 29 (0,0))→pW V' (.slice (some ⟨g,0,none⟩) k.n cap) k.n 4 fun i=>(k.v i).cells:=fun hb=>⟨_,cap,rfl,c1,c2,fun _=>⟨g,0,rfl,fun i hi=>En hv4 hb (hfl i hi)⟩⟩
 rcases rO h2 with ⟨rfl,r0⟩ | ⟨gr,capr,padr,rfl,r1,r2,r3,r4,r5,h3⟩
 ·refine ⟨_,oG hgV,h2.drop,⟨hRv (if_pos rfl),⟨none,0,by rw [r0],by omega,by decide,fun h=>by omega⟩,hn.2,?_⟩⟩
  refine ⟨[g],⟨fun b hb=>?_,fun b hb=>?_,⟨o,oG hgV _ _ ho⟩⟩,.inr (.inr ⟨g,0,_,_,rfl,by simp⟩),.inl rfl⟩
  ·obtain rfl:b=g:=by simpa using hb
   exact ⟨_,_,if_pos rfl,fun v hv=>.inl (hcv v hv)⟩
  ·obtain rfl:b=g:=by simpa using hb
   exact hgn
 ·have hrV:=h3.off _ (List.mem_cons_self ..) gr rfl
  have hrn:=new0 h3
  have h4:=h3.freeze
  have hrg:g≠gr:=by
   rintro rfl
   simp at hrV
  have hcr:∀ v∈(fH k.rdg ++ padr).toArray,iL v=true:=fun v hv=>by
   rcases List.mem_append.1 (by simpa using hv) with hv | hv
   ·exact zS _ v hv
   ·exact r5 v hv
  have m1:=oG (o:=.cells (fD k.ves ++ pad).toArray 29 (0,0)) hgV
  have m2:=oG (V:=fun j=>if j=g then some (.cells (fD k.ves ++ pad).toArray 29 (0,0)) else V j) (o:=.cells (fH k.rdg ++ padr).toArray 59 (0,0)) hrV
  have e1:=m2 g _ (if_pos rfl)
  refine ⟨_,fun j u hj=>m2 j u (m1 j u hj),h4,⟨hRv e1,⟨_,capr,rfl,r1,r2,fun _=>⟨gr,0,rfl,fun i hi=>En hr4 (if_pos rfl) (hfr i hi)⟩⟩,hn.2,?_⟩⟩
  refine ⟨[g,gr],⟨fun b hb=>?_,fun b hb=>?_,⟨o,m2 _ _ (m1 _ _ ho)⟩⟩,.inr (.inr ⟨g,0,_,_,rfl,by simp⟩),.inr (.inr ⟨gr,0,_,_,rfl,by simp⟩)⟩
  ·rcases List.mem_cons.1 hb with rfl | hb
   ·exact ⟨_,_,e1,fun v hv=>.inl (hcv v hv)⟩
   ·obtain rfl:b=gr:=by simpa using hb
    exact ⟨_,_,if_pos rfl,fun v hv=>.inl (hcr v hv)⟩
  ·rcases List.mem_cons.1 hb with rfl | hb
   ·exact hgn
   ·obtain rfl:b=gr:=by simpa using hb
    exact hrn
def Sub (a b:Nat):Prop:=∀ i,a.testBit i=true→b.testBit i=true
theorem Sub.rfl {a:Nat}:Sub a a:=fun _ h=>h
theorem Sub.and {a a' b b':Nat} (h1:Sub a a') (h2:Sub b b'):Sub (a &&& b) (a' &&& b'):=fun i h=>by
 rw [Nat.testBit_and,Bool.and_eq_true] at h ⊢
 exact ⟨h1 i h.1,h2 i h.2⟩
theorem Sub.or {a a' b b':Nat} (h1:Sub a a') (h2:Sub b b'):Sub (a ||| b) (a' ||| b'):=fun i h=>by
 rw [Nat.testBit_or,Bool.or_eq_true] at h ⊢
 exact h.imp (h1 i) (h2 i)
theorem Sub.shl {a a':Nat} (h:Sub a a') (n j:Nat):Sub (a * 2 ^ n % 2 ^ j) (a' * 2 ^ n % 2 ^ j):=fun i hi=>by
 rw [Nat.testBit_mod_two_pow,← Nat.shiftLeft_eq,Nat.testBit_shiftLeft,Bool.and_eq_true,Bool.and_eq_true] at hi ⊢
 exact ⟨hi.1,hi.2.1,h _ hi.2.2⟩
theorem Ua {a b:Nat} (h:a≤b) (i:Nat):(qW a b).testBit i=(decide (a≤i) && decide (i≤b)):=by
 have e:qW a b=(2 ^ (b+1 - a) - 1) <<< a:=by
  unfold qW
  rw [Nat.shiftLeft_eq,Nat.sub_mul,Nat.one_mul,← Nat.pow_add]
  congr 2
  omega
 rw [e,Nat.testBit_shiftLeft,Nat.testBit_two_pow_sub_one]
 by_cases h1:a≤i
 ·simp only [h1,ge_iff_le,decide_true,Bool.true_and]
  by_cases h2:i≤b
  ·simp only [h2,decide_true,decide_eq_true_eq];omega
  ·simp only [h2,decide_false,decide_eq_false_iff_not];omega
 ·simp [h1]
theorem wI (lo hi:Int) (i:Nat):(dO lo hi).testBit i=(decide (lo≤i) && decide ((i:Int)≤hi) && decide (i≤40)):=by
 unfold dO
 by_cases h:hi < 0∨hi < lo
 ·rw [if_pos h,Nat.zero_testBit,Eq.comm,Bool.and_eq_false_iff,Bool.and_eq_false_iff]
  simp only [decide_eq_false_iff_not]
  omega
 ·rw [if_neg h]
  by_cases h2:40 < lo
  ·rw [if_pos h2,Nat.zero_testBit,Eq.comm,Bool.and_eq_false_iff,Bool.and_eq_false_iff]
   simp only [decide_eq_false_iff_not]
   omega
  ·rw [if_neg h2,Ua (by omega),Bool.eq_iff_iff]
   simp only [Bool.and_eq_true,decide_eq_true_eq]
   omega
structure abK (s s':SS):Prop where
 lim:∀ i,Sub (s.aK i) (s'.aK i)
 los:∀ i,Sub (dO (s.aP i).1 (s.aP i).2) (dO (s'.aP i).1 (s'.aP i).2)
theorem XA (k:Wk) (s:SS):can k s=true↔∀ i,i < k.n→(up k s).getD i 0≠0:=by
 unfold can settle
 rw [Option.isNone_iff_eq_none,List.find?_eq_none]
 constructor
 ·intro h i hi
  have:=h i (by simp [hi])
  simpa using this
 ·intro h i hi
  have:=h i (by simpa using hi)
  simpa using this
def Wk.more (k:Wk) (v:Nat) (n:Nat):Wk:=⟨k.ves.set v ⟨(k.v v).from_,(k.v v).room,(k.v v).lo,(k.v v).hi+n⟩,k.rdg⟩
theorem BF {l:List Int} (h:∀ e∈l,e=0):bC l=0:=by
 induction l with
 | nil=>rfl
 | cons e l ih=>rw [bC,if_pos (h e (by simp))];exact ih fun x hx=>h x (by simp [hx])
theorem og {n lo hi:Int} (h1:lo≤n) (h2:n≤hi):fQ n lo hi=false:=by
 unfold fQ
 rw [Bool.or_eq_false_iff,decide_eq_false_iff_not,decide_eq_false_iff_not]
 omega
theorem SC {k:Wk} (h:k.Ok):nS k=0:=by
 have h0:=h.pos
 have h6:=h.le
 have hr:=h.rdl
 have hv:wo k k.n=0:=BF fun e he=>by
  obtain ⟨i,hi,rfl⟩:=List.mem_map.1 he
  have hi:=List.mem_range.1 hi
  obtain ⟨h1,h2,h3,h4,h5,h6,h7,h8,h9⟩:=h.ves i hi
  unfold Le
  rw [og (by omega) (by omega),og h3 h4,og h5 h6,og h7 h8]
  simp [bI,bC,h9]
 have hd:uz k k.rdg.length=0:=BF fun e he=>by
  obtain ⟨i,hi,rfl⟩:=List.mem_map.1 he
  have hi:=List.mem_range.1 hi
  obtain ⟨h1,h2,h3,h4,h5,h6,h7,h8⟩:=h.rdg i hi
  unfold KD
  rw [og h1 (by omega),og h3 h4,og h5 h6,og h7 h8]
  simp [bI,bC]
 unfold nS
 rw [hv,hd,if_neg (by omega)]
 simp [bI,bC,h0,h6]
theorem G7 {k:Wk} (h:k.Ok) (ns:List Int) (hn:∀ n∈ns,0≤n∧n < k.n):aS k ns=0:=by
 unfold aS
 rw [SC h]
 simp only [ne_eq,not_true,if_false]
 rw [if_pos]
 rw [List.all_eq_true]
 intro n hm
 obtain ⟨h1,h2⟩:=hn n hm
 rw [og h1 (by omega)]
 rfl
theorem KY {D D':List Nat} (h:∀ b∈D,b∈D') {v:Value} (hv:IZ D v):IZ D' v:=by
 rcases hv with hv | ⟨b,o,rfl,hb⟩ | ⟨b,o,n,c,rfl,hb⟩
 ·exact .inl hv
 ·exact .inr (.inl ⟨b,o,rfl,h b hb⟩)
 ·exact .inr (.inr ⟨b,o,n,c,rfl,h b hb⟩)
end Go.Wg
namespace Go.Proofs.YtjjmefieegcddaaDoor
open Go.RowKit Go.Wg Go.Mm
variable {w:World} {V:View}
theorem MI (x:Int):0≤IntKind.u64.wrap x:=by
 unfold IntKind.wrap
 simp only [IntKind.signed,Bool.false_eq_true,if_false]
 exact Int.emod_nonneg _ (by decide)
theorem BO (x y:Int):0≤bits .xor .u64 x y:=MI _
set_option maxRecDepth 20000 in
theorem Xy (bh:Nat) (l:List Int) (lv:Value) (hl:VI V lv l) (cn st:Int) (h0:0≤cn) (hc:cn≤1000000) (hVb:V bh=none) (hV:V.In w) (hg:w.heap[bh]? = some (.cells (jv lv cn st).toArray 90 (0,0))) :
  Calls Tryd.prog 96 #[ptr bh] w fun e w'=>∃ v,e=.returned v∧(∃ x:Int,v=.int .u64 x∧0≤x)∧Gg bh lv cn 1 w w':=by
 obtain ⟨la,lcap,rfl,hlc,hlm,hle⟩:=hl.is
 have hS:=St.xW w V hV hg hVb
 clear hl hg
 unfold ptr
 by_cases hlt:cn < l.length
 ·obtain ⟨lg,lo,rfl,hlr⟩:=hle (by omega)
  obtain ⟨c,hcn⟩:∃ c:Nat,cn=(c:Int):=⟨cn.toNat,by omega⟩
  subst hcn
  have hcell:=hlr c (by omega) 0 _ rfl
  simp only [Nat.mul_one,Nat.add_zero] at hcell
  generalize l.getD c 0=y at hcell
  clear hle hlr
  go_enter Tryd.func96,Tryd.ntmps96
  go_wp2_with (((with_reducible refine gL ?_);refine gY hS rfl rfl rfl ?_);refine ⟨_,zd,?_⟩;clear hS;(try clear w');intro a' hp;(try simp only [fr] at hp);subst hp;intro w' hS;(try simp only [sE] at hS))
  (refine bF (S:=(St w [bh] V [.blk bh 90 (jv (.slice (some ⟨lg,lo,none⟩) l.length lcap) (c:Int) st)])) [false,false,false,false,false,false,false,false,false,false] rfl (by kernel_rfl) ?_;replace hS:=St.eY hS;(iterate 10 ((first | refine hxm 0 rfl ?_ | refine hxp 1 rfl ?_ | refine hxp 2 rfl ?_ | refine hxa 3 rfl ?_ | refine hxm 4 rfl ?_ | refine hxp 5 rfl ?_ | refine hxp 6 rfl ?_ | refine hxa 7 rfl ?_ | refine hxp 8 rfl ?_ | refine hxp 9 rfl ?_);intro a' l' hp hl;(try simp only [fr] at hp);(try simp only [sB] at hl);subst hp;subst hl));refine wpAnyH_done (by kernel_rfl) ?_ _)
  go_wp2_with (fail)
  (refine bF (S:=(St w [bh] V [.blk bh 90 (jv (.slice (some ⟨lg,lo,none⟩) l.length lcap) (c:Int) st)])) [false,false,false,false,false,false,false,false,false,false,false,false,false,false,false] rfl (by kernel_rfl) ?_;replace hS:=St.eY hS;(iterate 15 ((first | refine hxm 0 rfl ?_ | refine hxm 1 rfl ?_ | refine hxp 2 rfl ?_ | refine hxp 3 rfl ?_ | refine hxa 4 rfl ?_ | refine hxm 5 rfl ?_ | refine hxp 6 rfl ?_ | refine hxp 7 rfl ?_ | refine hxa 8 rfl ?_ | refine hxp 9 rfl ?_ | refine hxc 10 rfl ?_ | refine hxp 11 rfl ?_ | refine hxp 12 rfl ?_ | refine hxp 13 rfl ?_ | refine hxp 14 rfl ?_);intro a' l' hp hl;(try simp only [fr] at hp);(try simp only [sB] at hl);subst hp;subst hl));refine wpAnyH_done (by kernel_rfl) ?_ _)
  generalize bits .xor .u64 _ _=t3
  go_wp2_with ((first | ((with_reducible refine gL ?_);refine gY hS rfl rfl rfl ?_) | ((with_reducible refine gS ?_);refine pX hS rfl rfl rfl ?_));refine ⟨_,zd,?_⟩;clear hS;(try clear w');intro a' hp;(try simp only [fr] at hp);subst hp;intro w' hS;(try simp only [sE] at hS))
  (refine bF (S:=(St w [bh] V [])) [false,false,false,false,false,false,false,false,false,false,false,false,false,false] rfl (by kernel_rfl) ?_;replace hS:=St.eY hS;(iterate 7 ((first | refine hxm 0 rfl ?_ | refine hxm 1 rfl ?_ | refine hxp 2 rfl ?_ | refine hxp 3 rfl ?_ | refine hxm 5 rfl ?_ | refine hxp 6 rfl ?_ | refine hxp 7 rfl ?_);intro a' l' hp hl;(try simp only [fr] at hp);(try simp only [sB] at hl);subst hp;subst hl));refine nP 4 8 (by kernel_rfl) ?_ ?_;rotate_left;(refine yK 8 rfl hS rfl  rfl rfl ?_;refine ⟨_,zd,?_⟩;clear hS;(try clear w');intro a' l' hp hl;(try simp only [fr] at hp);(try simp only [sB] at hl);subst hp;subst hl;intro w' hS;refine ⟨(St.aG hS),?_⟩);(refine hxp 9 rfl ?_;intro a' l' hp hl;(try simp only [fr] at hp);(try simp only [sB] at hl);subst hp;subst hl);(refine AZ 4 (by kernel_rfl) rfl hS rfl rfl rfl ?_;refine ⟨_,zd,?_⟩;clear hS;(try clear w');intro a' l' hp hl;(try simp only [fr] at hp);(try simp only [sB] at hl);subst hp;subst hl;intro w' hS;refine ⟨(St.aG hS),?_⟩);(iterate 3 ((first | refine hxp 10 rfl ?_ | refine hxp 11 rfl ?_ | refine hxp 12 rfl ?_);intro a' l' hp hl;(try simp only [fr] at hp);(try simp only [sB] at hl);subst hp;subst hl));((refine jl 13 (by kernel_rfl) rfl hS rfl  rfl rfl ?_;refine ⟨_,zd,?_⟩);clear hS;(try clear w');intro a' l' hp hl;(try simp only [fr] at hp);(try simp only [sB] at hl);subst hp;subst hl;intro w' hS;(try simp only [sE] at hS);refine ⟨(St.aG hS),?_⟩);refine wpAnyH_done (by kernel_rfl) ?_ _;rotate_left;(refine yK 4 rfl hS rfl  rfl rfl ?_;refine ⟨_,zd,?_⟩;clear hS;(try clear w');intro a' l' hp hl;(try simp only [fr] at hp);(try simp only [sB] at hl);subst hp;subst hl;intro w' hS;refine ⟨(St.aG hS),?_⟩);(refine AZ 8 (by kernel_rfl) rfl hS rfl rfl rfl ?_;refine ⟨_,zd,?_⟩;clear hS;(try clear w');intro a' l' hp hl;(try simp only [fr] at hp);(try simp only [sB] at hl);subst hp;subst hl;intro w' hS;refine ⟨(St.aG hS),?_⟩);(iterate 4 ((first | refine hxp 9 rfl ?_ | refine hxp 10 rfl ?_ | refine hxp 11 rfl ?_ | refine hxp 12 rfl ?_);intro a' l' hp hl;(try simp only [fr] at hp);(try simp only [sB] at hl);subst hp;subst hl));((refine jl 13 (by kernel_rfl) rfl hS rfl  rfl rfl ?_;refine ⟨_,zd,?_⟩);clear hS;(try clear w');intro a' l' hp hl;(try simp only [fr] at hp);(try simp only [sB] at hl);subst hp;subst hl;intro w' hS;(try simp only [sE] at hS);refine ⟨(St.aG hS),?_⟩);refine wpAnyH_done (by kernel_rfl) ?_ _)
  all_goals (go_wp2_with (((with_reducible refine gL ?_);refine gY hS rfl rfl rfl ?_);refine ⟨_,zd,?_⟩;clear hS;(try clear w');intro a' hp;(try simp only [fr] at hp);subst hp;intro w' hS;(try simp only [sE] at hS)))
  all_goals (((try simp only [Exit.inBlock,Exit.then]);(try refine aB ?_);refine bK ⟨_,by exact bH (r1:=.tmp 2) (by kernel_rfl) (by exact bD rfl),?_⟩ rfl))
  all_goals exact ⟨_,rfl,⟨_,rfl,Int.ediv_nonneg (BO _ _) (by decide)⟩,uo hS (by omega) (by omega)⟩
 ·clear hle
  go_enter Tryd.func96,Tryd.ntmps96
  go_wp2_with (((with_reducible refine gL ?_);refine gY hS rfl rfl rfl ?_);refine ⟨_,zd,?_⟩;clear hS;(try clear w');intro a' hp;(try simp only [fr] at hp);subst hp;intro w' hS;(try simp only [sE] at hS))
  (refine bF (S:=(St w [bh] V [.blk bh 90 (jv (.slice la l.length lcap) cn st)])) [false,false,false,false,false,false,false,false,false,false] rfl (by kernel_rfl) ?_;replace hS:=St.eY hS;(iterate 10 ((first | refine hxm 0 rfl ?_ | refine hxp 1 rfl ?_ | refine hxp 2 rfl ?_ | refine hxa 3 rfl ?_ | refine hxm 4 rfl ?_ | refine hxp 5 rfl ?_ | refine hxp 6 rfl ?_ | refine hxa 7 rfl ?_ | refine hxp 8 rfl ?_ | refine hxp 9 rfl ?_);intro a' l' hp hl;(try simp only [fr] at hp);(try simp only [sB] at hl);subst hp;subst hl));refine wpAnyH_done (by kernel_rfl) ?_ _)
  go_wp2_with ((first | ((with_reducible refine gL ?_);refine gY hS rfl rfl rfl ?_) | ((with_reducible refine gS ?_);refine pX hS rfl rfl rfl ?_));refine ⟨_,zd,?_⟩;clear hS;(try clear w');intro a' hp;(try simp only [fr] at hp);subst hp;intro w' hS;(try simp only [sE] at hS))
  (refine bF (S:=(St w [bh] V [])) [false,false,false,false,false,false,false,false,false,false,false,false,false,false] rfl (by kernel_rfl) ?_;replace hS:=St.eY hS;(iterate 7 ((first | refine hxm 0 rfl ?_ | refine hxm 1 rfl ?_ | refine hxp 2 rfl ?_ | refine hxp 3 rfl ?_ | refine hxm 5 rfl ?_ | refine hxp 6 rfl ?_ | refine hxp 7 rfl ?_);intro a' l' hp hl;(try simp only [fr] at hp);(try simp only [sB] at hl);subst hp;subst hl));refine nP 4 8 (by kernel_rfl) ?_ ?_;rotate_left;(refine yK 8 rfl hS rfl  rfl rfl ?_;refine ⟨_,zd,?_⟩;clear hS;(try clear w');intro a' l' hp hl;(try simp only [fr] at hp);(try simp only [sB] at hl);subst hp;subst hl;intro w' hS;refine ⟨(St.aG hS),?_⟩);(refine hxp 9 rfl ?_;intro a' l' hp hl;(try simp only [fr] at hp);(try simp only [sB] at hl);subst hp;subst hl);(refine AZ 4 (by kernel_rfl) rfl hS rfl rfl rfl ?_;refine ⟨_,zd,?_⟩;clear hS;(try clear w');intro a' l' hp hl;(try simp only [fr] at hp);(try simp only [sB] at hl);subst hp;subst hl;intro w' hS;refine ⟨(St.aG hS),?_⟩);(iterate 3 ((first | refine hxp 10 rfl ?_ | refine hxp 11 rfl ?_ | refine hxp 12 rfl ?_);intro a' l' hp hl;(try simp only [fr] at hp);(try simp only [sB] at hl);subst hp;subst hl));((refine jl 13 (by kernel_rfl) rfl hS rfl  rfl rfl ?_;refine ⟨_,zd,?_⟩);clear hS;(try clear w');intro a' l' hp hl;(try simp only [fr] at hp);(try simp only [sB] at hl);subst hp;subst hl;intro w' hS;(try simp only [sE] at hS);refine ⟨(St.aG hS),?_⟩);refine wpAnyH_done (by kernel_rfl) ?_ _;rotate_left;(refine yK 4 rfl hS rfl  rfl rfl ?_;refine ⟨_,zd,?_⟩;clear hS;(try clear w');intro a' l' hp hl;(try simp only [fr] at hp);(try simp only [sB] at hl);subst hp;subst hl;intro w' hS;refine ⟨(St.aG hS),?_⟩);(refine AZ 8 (by kernel_rfl) rfl hS rfl rfl rfl ?_;refine ⟨_,zd,?_⟩;clear hS;(try clear w');intro a' l' hp hl;(try simp only [fr] at hp);(try simp only [sB] at hl);subst hp;subst hl;intro w' hS;refine ⟨(St.aG hS),?_⟩);(iterate 4 ((first | refine hxp 9 rfl ?_ | refine hxp 10 rfl ?_ | refine hxp 11 rfl ?_ | refine hxp 12 rfl ?_);intro a' l' hp hl;(try simp only [fr] at hp);(try simp only [sB] at hl);subst hp;subst hl));((refine jl 13 (by kernel_rfl) rfl hS rfl  rfl rfl ?_;refine ⟨_,zd,?_⟩);clear hS;(try clear w');intro a' l' hp hl;(try simp only [fr] at hp);(try simp only [sB] at hl);subst hp;subst hl;intro w' hS;(try simp only [sE] at hS);refine ⟨(St.aG hS),?_⟩);refine wpAnyH_done (by kernel_rfl) ?_ _)
  all_goals (go_wp2_with (((with_reducible refine gL ?_);refine gY hS rfl rfl rfl ?_);refine ⟨_,zd,?_⟩;clear hS;(try clear w');intro a' hp;(try simp only [fr] at hp);subst hp;intro w' hS;(try simp only [sE] at hS)))
  all_goals (((try simp only [Exit.inBlock,Exit.then]);(try refine aB ?_);refine bK ⟨_,by exact bH (r1:=.tmp 2) (by kernel_rfl) (by exact bD rfl),?_⟩ rfl))
  all_goals exact ⟨_,rfl,⟨_,rfl,Int.ediv_nonneg (BO _ _) (by decide)⟩,uo hS (by omega) (by omega)⟩
structure xB (V:View) (bh:Nat) (lv:Value) (cn:Int):Prop where
 list:∃ l:List Int,VI V lv l
 pos:0≤cn
 small:cn≤1000000
class QO (cs:List Value) (l:outParam (List Int)):Prop where
 ok:cs=aV l
instance:QO [] []:=⟨rfl⟩
instance {x:Int} {cs:List Value} {l:List Int} [h:QO cs l]:QO (.int .i64 x :: cs) (x :: l):=⟨by rw [h.ok];rfl⟩
theorem xC {bh:Nat} {lv:Value} {cn st n:Int} (hh:xB V bh lv cn) (hn:n≤1000∧-1000≤n) (hV:V.In w) (hVb:V bh=none) (hg:w.heap[bh]? = some (.cells (jv lv cn st).toArray 90 (0,0))) :
  Calls Tryd.prog 39 #[.pointer (some ⟨bh,0,none⟩),.int .i64 n] w fun e w'=>∃ v,e=.returned v∧(∃ x:Int,v=.int .i64 x∧0≤x∧x≤max n 0)∧Gg bh lv cn 1 w w':=by
 obtain ⟨⟨l,hl⟩,h0,hc⟩:=hh
 obtain ⟨hn1,hn2⟩:=hn
 have hS:=St.xW w V hV hg hVb
 have hst:=fun (w:World) (hV:V.In w)=>Xy (w:=w) bh l lv hl cn st h0 hc hVb hV
 clear hl hg
 by_cases h1:n < 1
 ·go_enter Tryd.func39,Tryd.ntmps39
  go_wp2_with (go_at_call 96;refine eF hS ⟨1,_,fun _ hg=>hst _ (St.view hS) hg,?_⟩;clear hS;(try clear w');intro v cn' st' w' hp k1 k2 hS;(try simp only [sE] at hS);obtain ⟨x,rfl,hx⟩:=hp)
  ((try simp only [Exit.inBlock,Exit.then]);(try refine aB ?_);refine bK ⟨_,by exact bH (r1:=.tmp 4) (by kernel_rfl) (by exact bD rfl),?_⟩ rfl)
  exact ⟨_,rfl,⟨_,rfl,by omega,by omega⟩,uo hS (by omega) (by omega)⟩
 ·have hw:IntKind.u64.wrap n=n:=wrap_u64 n (by omega) (by omega)
  have hw2:IntKind.u64.wrap (n+1)=n+1:=wrap_u64 (n+1) (by omega) (by omega)
  have hr:∀ x:Int,0≤wrap64 (x % (n+1))∧wrap64 (x % (n+1))≤n:=fun x=>by
   have h2:=Int.emod_nonneg x (b:=n+1) (by omega)
   have h3:=Int.emod_lt_of_pos x (b:=n+1) (by omega)
   unfold wrap64
   omega
  replace hr:=aj hr
  go_enter Tryd.func39,Tryd.ntmps39
  go_wp2_with (go_at_call 96;refine eF hS ⟨1,_,fun _ hg=>hst _ (St.view hS) hg,?_⟩;clear hS;(try clear w');intro v cn' st' w' hp k1 k2 hS;(try simp only [sE] at hS);obtain ⟨x,rfl,hx⟩:=hp)
  ((try simp only [Exit.inBlock,Exit.then]);(try refine aB ?_);refine bK ⟨_,by exact bH (r1:=.tmp 4) (by kernel_rfl) (by exact bD rfl),?_⟩ rfl)
  obtain ⟨k3,k4⟩:=hr.out x
  exact ⟨_,rfl,⟨_,rfl,k3,by omega⟩,uo hS (by omega) (by omega)⟩
theorem Qi {bh:Nat} {lv:Value} {cn st lo hi:Int} (hh:xB V bh lv cn) (hn:lo≤400∧-400≤lo∧hi≤400∧-400≤hi) (hV:V.In w) (hVb:V bh=none) (hg:w.heap[bh]? = some (.cells (jv lv cn st).toArray 90 (0,0))) :
  Calls Tryd.prog 95 #[.pointer (some ⟨bh,0,none⟩),.int .i64 lo,.int .i64 hi] w fun e w'=>∃ v,e=.returned v∧(∃ x:Int,v=.int .i64 x∧lo≤x∧x≤max lo hi)∧Gg bh lv cn 1 w w':=by
 have hS:=St.xW w V hV hg hVb
 go_enter Tryd.func95,Tryd.ntmps95
 go_wp2_with (go_at_call 39;refine eF hS ⟨1,_,fun _ hg=>xC hh (by omega) (St.view hS) hVb hg,?_⟩;clear hS;(try clear w');intro v cn' st' w' hp k1 k2 hS;(try simp only [sE] at hS);obtain ⟨x,rfl,hx⟩:=hp)
 ((try simp only [Exit.inBlock,Exit.then]);(try refine aB ?_);refine bK ⟨_,by exact bH (r1:=.tmp 6) (by kernel_rfl) (by exact bD rfl),?_⟩ rfl)
 exact ⟨_,rfl,⟨_,rfl,by omega,by omega⟩,uo hS (by omega) (by omega)⟩
theorem TG {bh:Nat} {lv:Value} {cn st n:Int} (hh:xB V bh lv cn) (hn:n≤1000∧0≤n) (hV:V.In w) (hVb:V bh=none) (hg:w.heap[bh]? = some (.cells (jv lv cn st).toArray 90 (0,0))) :
  Calls Tryd.prog 72 #[.pointer (some ⟨bh,0,none⟩),.int .i64 n] w fun e w'=>∃ v,e=.returned v∧(∃ x:Bool,v=.bool x)∧Gg bh lv cn 1 w w':=by
 have hS:=St.xW w V hV hg hVb
 go_enter Tryd.func72,Tryd.ntmps72
 go_wp2_with (go_at_call 39;refine eF hS ⟨1,_,fun _ hg=>xC hh (by omega) (St.view hS) hVb hg,?_⟩;clear hS;(try clear w');intro v cn' st' w' hp k1 k2 hS;(try simp only [sE] at hS);obtain ⟨x,rfl,hx⟩:=hp)
 ((try simp only [Exit.inBlock,Exit.then]);(try refine aB ?_);refine bK ⟨_,by exact bH (r1:=.tmp 4) (by kernel_rfl) (by exact bD rfl),?_⟩ rfl)
 exact ⟨_,rfl,⟨_,rfl⟩,uo hS (by omega) (by omega)⟩
theorem nI {cs:List Value} {l:List Int} (h:cs=aV l) {i:Nat} (hi:i < l.length):cs[i]? = some (.int .i64 (l.getD i 0)):=by
 subst h
 simp [aV,List.getD_eq_getElem?_getD,List.getElem?_eq_getElem hi]
theorem tH {bh b n cap:Nat} {lv:Value} {cn st:Int} {cs:List Value} {t:TypeId} {l2:List Int} [hcs:QO cs l2] (hh:xB V bh lv cn) (hb:w.heap[b]? = some (.cells cs.toArray t (0,0))) (hl:l2.length=n∧0 < n∧n≤100) (hV:V.In w) (hVb:V bh=none) (hbb:b≠bh) (hg:w.heap[bh]? = some (.cells (jv lv cn st).toArray 90 (0,0))) :
  Calls Tryd.prog 91 #[.pointer (some ⟨bh,0,none⟩),.slice (some ⟨b,0,none⟩) n cap] w fun e w'=>∃ v,e=.returned v∧(∃ x:Int,v=.int .i64 x∧x∈l2)∧Gg bh lv cn 1 w w':=by
 have hcs':=hcs.ok
 obtain ⟨rfl,hn0,hn1⟩:=hl
 have hsub:∀ j o,V j=some o→Vw V b (.cells cs.toArray t (0,0)) j=some o:=fun j o hj=>by
  by_cases e:j=b
  ·subst e
   rw [Vw.same]
   have:=hV j o hj
   rw [hb] at this
   exact this
  ·rw [Vw.other _ _ e];exact hj
 have hV':(Vw V b (.cells cs.toArray t (0,0))).In w:=fun j o hj=>by
  by_cases e:j=b
  ·subst e
   rw [Vw.same] at hj
   cases hj
   exact hb
  ·rw [Vw.other _ _ e] at hj;exact hV j o hj
 have hVb':(Vw V b (.cells cs.toArray t (0,0))) bh=none:=by rw [Vw.other _ _ (Ne.symm hbb)];exact hVb
 have hh':xB (Vw V b (.cells cs.toArray t (0,0))) bh lv cn:=by
  obtain ⟨⟨l,hl⟩,h0,hc⟩:=hh
  exact ⟨⟨l,pW.mono hl hsub⟩,h0,hc⟩
 have hcell:∀ i:Nat,i < l2.length→(Vw V b (.cells cs.toArray t (0,0))).Cell b i (.int .i64 (l2.getD i 0)):=fun i hi=>⟨_,_,_,Vw.same _ _ _,by simpa using nI hcs' hi⟩
 generalize Vw V b (.cells cs.toArray t (0,0))=V2 at hV' hVb' hh' hcell
 clear hV hVb hh hsub hcs hcs' hb
 have hS:=St.xW w V2 hV' hg hVb'
 go_enter Tryd.func91,Tryd.ntmps91
 go_wp2_with (first | (((with_reducible refine gL ?_);refine nC hS rfl rfl rfl ?_);refine ⟨_,zd,?_⟩;clear hS;(try clear w');intro a' hp;(try simp only [fr] at hp);subst hp;intro w' hS;(try simp only [sE] at hS)) | (go_at_call 39;refine eF hS ⟨1,_,fun _ hg=>xC hh' (by omega) (St.view hS) hVb' hg,?_⟩;clear hS;(try clear w');intro v cn' st' w' hp k1 k2 hS;(try simp only [sE] at hS);obtain ⟨x,rfl,hx0,hx1⟩:=hp;obtain ⟨m,hm⟩:∃ m:Nat,x=(m:Int):=⟨x.toNat,by omega⟩;subst hm;have hc:=hcell m (by omega);have hm1:(m:Int) < l2.length:=by omega))
 ((try simp only [Exit.inBlock,Exit.then]);(try refine aB ?_);refine bK ⟨_,by exact bH (r1:=.tmp 4) (by kernel_rfl) (by exact bD rfl),?_⟩ rfl)
 refine ⟨_,rfl,⟨_,rfl,?_⟩,uo hS (by omega) (by omega)⟩
 rw [List.getD_eq_getElem?_getD,List.getElem?_eq_getElem (by omega)]
 exact List.getElem_mem _
theorem SY {lv:Value} (hlv:∃ a n c,lv=.slice a n c):Calls Tryd.prog 23 #[lv] w fun e w'=>∃ g,e=.returned (.pointer (some ⟨g,0,none⟩))∧Kp w w'∧w.heap.size≤g∧w'.heap[g]? = some (.cells (jv lv 0 11400714819323198485).toArray 90 (0,0)):=by
 obtain ⟨a,n,c,rfl⟩:=hlv
 have hS:=St.start w (fun _=>none) (fun _ _ h=>nomatch h)
 go_enter Tryd.func23,Tryd.ntmps23
 go_wp2_with (((with_reducible refine gB ?_);refine jQ hS rfl rfl rfl ?_;refine ⟨_,za,?_⟩);clear hS;(try clear w');intro _;intro a' hp;(try simp only [fr] at hp);subst hp;intro w' hS)
 ((try simp only [Exit.inBlock,Exit.then]);(try refine aB ?_);refine bK ⟨_,by exact bH (r1:=.tmp 2) (by kernel_rfl) (by exact bD rfl),?_⟩ rfl)
 exact ⟨_,rfl,hS.bM,hS.newAt,hS.dR⟩
end Go.Proofs.YtjjmefieegcddaaDoor
