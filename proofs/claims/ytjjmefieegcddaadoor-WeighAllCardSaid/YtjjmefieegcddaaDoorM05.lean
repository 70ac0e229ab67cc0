/- A part of the proof: M7, M8, Q1, Q2, S2, S3, S4, S5, S6, S7, S8, S9, Q3, Q4, S10, S11, S12, S13, S14, S15, S16, S17, W7, W3. -/
import Derived.Test.YtjjmefieegcddaaDoorM04
import Derived.Maps.AppendAt
import Derived.BigRegion
import Derived.Test.YtjjmefieegcddaaDoorProg
import Derived.Test.YtjjmefieegcddaaDoorM01
import Derived.LaidEql
import Derived.Stop.Asserts
import Derived.RowKitTokens
set_option linter.unusedVariables false
set_option linter.unusedSimpArgs false
set_option maxHeartbeats 8000000
set_option maxRecDepth 20000
namespace Go.Mm
open Go
variable {c j m n:Nat} {v v':Value} {e t:TypeId} {news xs:List Value} {w':World}
variable {P:Program} {w0:World} {X:List Nat} {V:View} {L:List dF} {w:World}
theorem EG {L:List dF} {j:Nat} {e f:dF} (hj:L[j]? = some e) (hnd:(L.filterMap dF.foot).Nodup) {b:Nat} (hf:f.foot=some b) (hb:∀ g∈L,g.foot≠some b):((L.set j f).filterMap dF.foot).Nodup:=by
 induction L generalizing j with
 |nil=>simp at hj
 | cons a L ih =>
  have hbL:b ∉ L.filterMap dF.foot:=fun hm=>by
   obtain⟨g,hg,hgb⟩:=List.mem_filterMap.1 hm;exact hb g (List.mem_cons_of_mem _ hg) hgb
  cases j with
  |zero =>
   simp only[List.set_cons_zero];rw[List.filterMap_cons_some hf,List.nodup_cons];refine⟨hbL,?_⟩;cases ha:a.foot with
   |none=>rwa [List.filterMap_cons_none ha]at hnd
   |some c=>rw[List.filterMap_cons_some ha,List.nodup_cons]at hnd;exact hnd.2
  | succ j =>
   simp only[List.set_cons_succ];cases ha:a.foot with
   |none =>
    rw[List.filterMap_cons_none ha]at hnd |-;exact ih (by simpa using hj) hnd fun g hg=>hb g (List.mem_cons_of_mem _ hg)
   |some c =>
    rw[List.filterMap_cons_some ha,List.nodup_cons]at hnd |-;refine⟨fun hm=>?_,ih (by simpa using hj) hnd.2 fun g hg=>hb g (List.mem_cons_of_mem _ hg)⟩;obtain⟨g,hg,hgc⟩:=List.mem_filterMap.1 hm;rcases List.mem_or_eq_of_mem_set hg with hg|rfl
    ·exact hnd.1 (vN hg hgc)
    ·rw[hf]at hgc;cases hgc;exact hb a (List.mem_cons_self ..) ha
theorem St.grow (h:St w0 X V L w) {s n':Nat} {xs':List Value} (hj:L[j]? = some (.row v t s n xs)) 
 (hg:w.grownBy w' v.ownBlock) (ho:w'.ownsRow 0 t s v' n' xs') (hpd:DR w' v' (n' * s)) (hf:v'.ownBlock=v.ownBlock\/v'.ownBlock=some w.heap.size):St w0 X V (L.set j (.row v' t s n' xs')) w':=by
 have hem:=List.mem_of_getElem? hj;have hlt:∀ e∈L,∀ b,e.foot=some b->b<w.heap.size:=fun e he b hb=>(h.has e he).lt hb
 have hoth:∀ i f,L[i]? = some f->j≠i->∀ k,f.foot=some k->w'.heap[k]? = w.heap[k]?:=fun i f hi hji k hk=>by
  refine hg.block k (hlt f (List.mem_of_getElem? hi) k hk) ?_;intro hkv;exact CZ h.nd hj hi hji (b:=k) hkv.symm hk
 have hkeep:∀ k,k<w.heap.size->(∀ b,v.ownBlock=some b->k≠b)->w'.heap[k]? = w.heap[k]?:=fun k hk hne=>hg.block k hk fun hkv=>hne k hkv.symm rfl
 refine⟨hg.os.trans h.os,hg.output.trans h.output,Nat.le_trans h.size hg.size,fun k hk hx=>?_,fun k o hk=>?_,fun e he=>?_,fun e he b hb=>?_,fun e he b hb=>?_,?_⟩
 ·refine (hkeep k (Nat.lt_of_lt_of_le hk h.size) fun b hb hkb=>?_).trans (h.old k hk hx);subst hkb;rcases h.new _ hem k hb with h1 | h1
  ·omega
  ·exact hx h1
 ·have:=h.view k o hk;rw[hkeep k (lt_of_heap this) fun b hb hkb=>by subst hkb;rw[h.off _ hem k hb]at hk;cases hk];exact this
 ·rcases List.getElem?_of_mem he with ⟨i,hi⟩;rw [List.getElem?_set] at hi;by_cases hji:j=i
  ·subst hji;have hl:j<L.length:=(List.getElem?_eq_some_iff.1 hj).1;simp[hl]at hi;subst hi;exact⟨ho,hpd⟩
  ·simp[hji]at hi;exact(h.has e (List.mem_of_getElem? hi)).of_heap (hoth i e hi hji)
 ·rcases List.mem_or_eq_of_mem_set he with he | rfl
  ·exact h.new e he b hb
  ·rcases hf with hf | hf
   ·exact h.new _ hem b (hf.symm.trans hb)
   ·rw[show v'.ownBlock=some b from hb]at hf;cases hf;exact .inl h.size
 ·rcases List.mem_or_eq_of_mem_set he with he | rfl
  ·exact h.off e he b hb
  ·rcases hf with hf | hf
   ·exact h.off _ hem b (hf.symm.trans hb)
   ·rw [show v'.ownBlock=some b from hb] at hf;cases hf;cases hv:V w.heap.size with
    |none=>rfl
    |some o=>exact absurd (lt_of_heap (h.view _ _ hv)) (Nat.lt_irrefl _)
 ·rcases hf with hf | hf
  ·rw[mX hj (by exact hf)];exact h.nd
  ·exact EG hj h.nd (b:=w.heap.size) hf fun g hg hgb=>absurd (hlt g hg _ hgb) (Nat.lt_irrefl _)
def Yv (P:Program) (t e:TypeId) (size:Nat):Bool :=
 (match P.underlying t with|some (.slice e')=>e' == e|_=>false) && (P.info? e).any (fun i=>i.size == size && i.zero.any (fun z=>z.cells.size == size && z.cells.all iL) && decide (i.bytes<=1000)) && decide (0<size)
theorem Dv {z:Array Value} (hz:z.all iL=true) (n:Nat):∀ (i:Nat) (c:Value),(Builtin.zeroCells z n)[i]? = some c->iL c=true:=by
 intro i c hc;have hm:=Array.mem_of_getElem? hc;unfold Builtin.zeroCells at hm;obtain⟨j,hj,rfl⟩:=Array.mem_map.1 hm;have hj':j<n * z.size:=by simpa using hj
 have hpos:0<z.size:=by
  rcases Nat.eq_zero_or_pos z.size with h|h
  ·rw[h]at hj';omega
  ·exact h
 have hlt:j % z.size<z.size:=Nat.mod_lt _ hpos;rw[Array.all_eq_true]at hz;rw[getElem!_pos z _ hlt];exact hz _ hlt
theorem yw {w:World} {ty:TypeId} {i:TypeInfo} {z:Value} (ht:P.underlying t=some (.slice e)) (hi:P.info? e=some i) (hz:i.zero=some z) (hzf:z.cells.all iL=true)
 (hown:w.ownsRow 0 e i.size v n xs) (hpd:DR w v (n * i.size)) {a:Addr} (hl:news.length=m * i.size)
 (hnews:∀ j u,news[j]? = some u->w.cell? (a.add j)=some u) (h1:∀ u∈news,u.oneCell'=true) (h63:n+m<=maxLen) (hbytes:(n+m) * i.bytes<=140737488355328)
 (hr:(Builtin.append_ #[t,t] ty #[v,.slice (some a) m c]).run P w=.ok v' w'):DR w' v' ((n+m) * i.size):=by
 have hsmall:n+m<=9223372036854775807:=by simp only[maxLen]at h63;omega
 have made:∀ (W:World) (k:Nat) (g cap:Nat),DR ({W with heap:=W.heap.push (.cells (xs.toArray ++ news.toArray ++ Builtin.zeroCells z.cells k) e)}) (.slice (some ⟨W.heap.size,0,none⟩) g cap) ((n+m) * i.size):=by
  intro W k g cap b hb cur t' fr hcur j c' hj hc;have hb':b=W.heap.size:=by simpa[Value.ownBlock]using hb.symm
  subst hb';have hcur':some (Obj.cells (xs.toArray ++ news.toArray ++ Builtin.zeroCells z.cells k) e (0,0))=some (Obj.cells cur t' fr):=by rw[<- hcur];simp
  cases hcur';have hlen:(xs.toArray ++ news.toArray).size=(n+m) * i.size:=by simp[hown.1,hl,Nat.add_mul]
  rw[Array.getElem?_append_right (by omega)]at hc;exact Dv hzf k _ _ hc
 rcases hown.2 with⟨rfl,rfl⟩|⟨g,cap,cur,rfl,_,hg,hnc,hcm,hcs,htake⟩
 ·have hx:xs=[]:=List.eq_nil_of_length_eq_zero (by simpa using hown.1);subst hx;by_cases hm:m=0
  ·subst hm;have hn:news=[]:=List.eq_nil_of_length_eq_zero (by simpa using hl);subst hn;have hr0:(Builtin.append_ #[t,t] ty #[.slice none 0 0,.slice (some a) 0 c]).run P w=.ok (.slice none 0 0) w:=by
    simp[Builtin.append_,run_underlying ht,sizeOf,typeInfo,hi,Builtin.lenOf,Builtin.firstCells,loadCells,loadCellsFrom]
   rw[hr0]at hr;cases hr;intro b hb;cases hb
  ·rw[run_append_nil (P:=P) w t ty e i z ht hi hz a m c news hl hnews (by omega) (by omega) (by have hb:=hbytes;simp only[Nat.zero_add]at hb;omega)]at hr;cases hr;have:=made w.drew (grownCap w m 0 e-m) m (grownCap w m 0 e);simp only[List.nil_append,Array.empty_append]at this |-;exact this
 ·by_cases hroom:n+m<=cap
  ·have hfit:n * i.size+news.length<=cur.size:=by rw [hl,hcs,<- Nat.add_mul];exact Nat.mul_le_mul_right _ hroom
   rw[run_append_room (P:=P) w t ty e i ht hi g n cap cur hg a m c news hl hnews h1 hroom hfit]at hr;cases hr;intro b hb cur' t' fr hcur j c' hj hc;have hb':b=g:=by simpa[Value.ownBlock]using hb.symm
   subst hb';rw[setRow_heap w b cur _ e _ hg]at hcur;cases hcur;have hx:n * i.size<=cur.size:=by omega
   have hjj:n * i.size+m * i.size<=j:=by rw[<- Nat.add_mul];exact hj
   have hll:(cur.toList.take (n * i.size) ++ news).length=n * i.size+news.length:=by simp only[List.length_append,List.length_take,Array.length_toList];omega
   rw[List.getElem?_toArray,List.getElem?_append_right (by rw[hll];omega),List.getElem?_drop]at hc;refine hpd b rfl cur e (0,0) hg (n * i.size+news.length+(j-(cur.toList.take (n * i.size) ++ news).length)) c' (by omega) (by simpa using hc)
  ·rw[run_append_grow (P:=P) w t ty e i z ht hi hz ⟨g,0,none⟩ n cap xs hown.1 (hown.cells (g:=g) rfl) a m c news hl hnews (by omega) (by omega) (growslice_fits (by omega) hbytes)]at hr;cases hr;exact made w.drew _ _ _
theorem PK (hS:St w0 X V L w) {o:Oper} {ρ:Operand->Value} {sl x:Operand} {size:Nat} (ho:o.op=.call {callee:=.builtin .append,args:=#[sl,x],argTypes:=#[t,t]})
 (ht:Yv P t e size=true) (hj:L[j]? = some (.row v e size n xs)) (hv:ρ sl=v)
 {jb b:Nat} {te:TypeId} (hjb:L[jb]? = some (.blk b te news)) (hx:ρ x=.slice (some ⟨b,0,none⟩) m c) (hm:news.length=m * size) (h1:∀ u∈news,u.oneCell'=true) (hn:n+m<=1000) :
  ∃ v' w',(execOp ρ o).run P w=.ok (.value v') w'/\St w0 X V (L.set j (.row v' e size (n+m) (xs ++ news))) w':=by
 unfold Yv at ht;simp only[Bool.and_eq_true]at ht;obtain⟨⟨ht1,ht2⟩,ht3⟩:=ht;have hu:P.underlying t=some (.slice e):=by
  cases hd:P.underlying t with
  |none=>rw[hd]at ht1;cases ht1
  |some d=>rw[hd]at ht1;cases d<;>simp_all
 cases hq:P.info? e with
 |none=>rw[hq]at ht2;cases ht2
 | some q =>
  rw[hq]at ht2;simp only[Option.any_some,Bool.and_eq_true,beq_iff_eq,decide_eq_true_eq]at ht2;obtain⟨⟨hqs,hqz⟩,hqb⟩:=ht2;cases hz:q.zero with
  |none=>rw[hz]at hqz;cases hqz
  | some z =>
   rw[hz]at hqz;simp only[Option.any_some,Bool.and_eq_true,beq_iff_eq]at hqz;obtain⟨hqz,hqf⟩:=hqz;have hsz:0<size:=by simpa using ht3
   have hb:=hS.at hjb;obtain⟨v',w',hr,h2,h3,_,h5⟩:=run_append_own_at (P:=P) w 0 t o.type e q z size q.bytes hu hq hz hqs rfl hqz hsz v n xs (hS.wu hj) ⟨b,0,none⟩ m c news hm
    (fun i u hi=>by rw [Addr.add_mid];exact aX hb (by simpa using hi)) h1 (by unfold maxLen;omega) (by
     have:(n+m) * q.bytes<=1000 * 1000:=Nat.mul_le_mul hn hqb;omega) (Nat.zero_le _)
   refine⟨v',w',?_,hS.grow hj h3 h2 (hqs ▸ yw (P:=P) hu hq hz hqf (hqs ▸ hS.wu hj) (hqs ▸ hS.Wj hj) (a:=⟨b,0,none⟩) (hqs ▸ hm) (fun i u hi=>by rw[Addr.add_mid];exact aX hb (by simpa using hi)) h1 (by unfold maxLen;omega) (by
     have:(n+m) * q.bytes<=1000 * 1000:=Nat.mul_le_mul hn hqb;omega) hr) h5⟩
   unfold execOp;simp only[ho,resolve,invoke,builtin,Sem.run_bind,Sem.run_pure,Result.andThen_ok,List.map_toArray,List.map_cons,List.map_nil,hv,hx,hr]
end Go.Mm
namespace Go.Mm
open Go
variable {g:Nat} {t:TypeId} {cs:List Value}
variable {P:Program} {w0:World} {X:List Nat} {V:View} {L:List dF} {w w':World}
theorem St.xW (w:World) (V:View) (hV:V.In w) (hg:w.heap[g]? = some (.cells cs.toArray t (0,0))) (hVg:V g=none):St w [g] V [.blk g t cs] w :=
 ⟨rfl,rfl,Nat.le_refl _,fun _ _ _=>rfl,hV,fun e he=>by simp at he;subst he;exact hg,fun e he b hb=>by simp at he;subst he;cases hb;exact .inr (by simp),
  fun e he b hb=>by simp at he;subst he;cases hb;exact hVg,by simp[dF.foot]⟩
theorem St.Js (h:St w0 [g] V L w):ni g w0 w:=⟨h.os,h.output,h.size,fun k hk hkg=>h.old k hk (by simp[hkg])⟩
theorem St.mut (h:St w0 X V L w) {j:Nat} {cs':List Value} (hj:L[j]? = some (.blk g t cs)) (k:ni g w w') (hg:w'.heap[g]? = some (.cells cs'.toArray t (0,0)))
 {L':List dF} (hL:L.set j (.blk g t cs')=L'):St w0 X V L' w':=by
 subst hL;have hem:=List.mem_of_getElem? hj;have hb:=h.new _ hem g rfl;have hbV:=h.off _ hem g rfl;refine⟨k.os.trans h.os,k.output.trans h.output,Nat.le_trans h.size k.size,fun i hi hx=>?_,fun i o hi=>?_,fun e he=>?_,fun e he c hc=>?_,fun e he c hc=>?_,?_⟩
 ·refine (k.old i (Nat.lt_of_lt_of_le hi h.size) ?_).trans (h.old i hi hx);rintro rfl;rcases hb with hb | hb
  ·omega
  ·exact hx hb
 ·have:=h.view i o hi;rw[k.old i (lt_of_heap this) (by rintro rfl;rw[hbV]at hi;cases hi)];exact this
 ·rcases List.getElem?_of_mem he with ⟨i,hi⟩;rw [List.getElem?_set] at hi;by_cases hji:j=i
  ·subst hji;have hl:j<L.length:=(List.getElem?_eq_some_iff.1 hj).1;simp[hl]at hi;subst hi;exact hg
  ·simp[hji]at hi;have heL:=List.mem_of_getElem? hi;exact(h.has e heL).of_heap fun c hc=>k.old c ((h.has e heL).lt hc) (by rintro rfl;exact CZ h.nd hj hi hji rfl hc)
 ·rcases List.mem_or_eq_of_mem_set he with he | rfl
  ·exact h.new e he c hc
  ·cases hc;exact hb
 ·rcases List.mem_or_eq_of_mem_set he with he | rfl
  ·exact h.off e he c hc
  ·cases hc;exact hbV
 ·rw[mX (f:=dF.blk g t cs') hj rfl];exact h.nd
theorem St.fresh (h0:St w0 X V L w) (k:Kp w w') {e:dF} (he:e.Holds w') (hf:∀ b,e.foot=some b->w.heap.size<=b):St w0 X V (e::L) w':=by
 have h:=h0.kp k;have hlt:∀ f∈L,∀ b,f.foot=some b->b<w.heap.size:=fun f hm b hb=>(h0.has f hm).lt hb
 refine⟨h.os,h.output,h.size,h.old,h.view,fun f hm=>?_,fun f hm b hb=>?_,fun f hm b hb=>?_,?_⟩
 ·rcases List.mem_cons.1 hm with rfl | hm
  ·exact he
  ·exact h.has f hm
 ·rcases List.mem_cons.1 hm with rfl | hm
  ·exact .inl (Nat.le_trans h0.size (hf b hb))
  ·exact h.new f hm b hb
 ·rcases List.mem_cons.1 hm with rfl | hm
  ·cases hv:V b with
   |none=>rfl
   |some o=>exact absurd (lt_of_heap (h0.view _ _ hv)) (by have:=hf b hb;omega)
  ·exact h.off f hm b hb
 ·cases hfo:e.foot with
  |none=>rw[List.filterMap_cons_none (f:=dF.foot) hfo];exact h.nd
  |some b =>
   rw[List.filterMap_cons_some (f:=dF.foot) hfo,List.nodup_cons];refine⟨fun hm=>?_,h.nd⟩;obtain⟨f,hm,hb⟩:=List.mem_filterMap.1 hm;have:=hlt f hm b hb;have:=hf b hfo;omega
theorem St.nilRow (h:St w0 X V L w) (t:TypeId) (s:Nat):St w0 X V (.row (.slice none 0 0) t s 0 []::L) w :=
 h.fresh (Kp.refl w) ⟨⟨by simp,.inl ⟨rfl,rfl⟩⟩,fun b hb=>by cases hb⟩ (fun b hb=>by cases hb)
end Go.Mm
namespace Go.Mm
open Go
variable {P:Program}
class jS (P:Program) (ty:TypeId) (n:outParam Nat):Prop where
 ok:rowB P ty n=true
class iR (P:Program) (ty:TypeId):Prop where
 ok:uK P ty=true
class lX (P:Program) (ty:TypeId) (cs:outParam (List Value)):Prop where
 has:QK P ty=true
 ok:QD P ty=cs
class Xu (P:Program) (t:TypeId) (e:outParam TypeId):Prop where
 ok:VP P t e=true
class Zz (P:Program) (t:TypeId) (e:outParam TypeId) (size:outParam Nat):Prop where
 ok:Yv P t e size=true
class Hr (L:List dF) (v:Value) (j:outParam Nat) (t:outParam TypeId) (s n:outParam Nat) (xs:outParam (List Value)):Prop where
 ok:L[j]? = some (.row v t s n xs)
instance Hr.here {L:List dF} {v:Value} {t:TypeId} {s n:Nat} {xs:List Value}:Hr (.row v t s n xs::L) v 0 t s n xs:=⟨rfl⟩
instance Hr.there {L:List dF} {v:Value} {j:Nat} {t:TypeId} {s n:Nat} {xs:List Value} {e:dF} [h:Hr L v j t s n xs]:Hr (e::L) v (j+1) t s n xs:=⟨by simpa using h.ok⟩
class Hs (L:List dF) (b:Nat) (j:outParam Nat) (t:outParam TypeId) (cs:outParam (List Value)):Prop where
 ok:L[j]? = some (.blk b t cs)
instance Hs.here {L:List dF} {b:Nat} {t:TypeId} {cs:List Value}:Hs (.blk b t cs::L) b 0 t cs:=⟨rfl⟩
instance Hs.there {L:List dF} {b j:Nat} {t:TypeId} {cs:List Value} {e:dF} [h:Hs L b j t cs]:Hs (e::L) b (j+1) t cs:=⟨by simpa using h.ok⟩
def kV (a:Act):Operand->Option Value
 |.tmp t=>a.tmps.toList[t]?
 |.const v=>some v
 |.global g=>some (.pointer (some ⟨g,0,none⟩))
 |.func f=>some (.func (.func f) #[] #[])
theorem gU {a:Act} {x:Operand} {v:Value} (h:kV a x=some v):a.eval x=v:=by
 cases x with
 |tmp t =>
  have h':a.tmps[t]? = some v:=by simpa[kV]using h
  simp[Act.eval,Array.getD_eq_getD_getElem?,h']
 |const c=>exact Option.some.inj h
 |global g=>exact Option.some.inj h
 |func f=>exact Option.some.inj h
structure PartOf (cs:List Value) (i n:Nat) (vs:List Value):Prop where
 part:(cs.drop i).take n=vs
 len:vs.length=n
theorem UJ {cs:List Value} {n:Nat} (h:cs.length=n):PartOf cs 0 n cs:=⟨Wh h,h⟩
inductive Lit:List Value->Nat->Nat->List Value->Prop where
 |nil {l:List Value}:Lit l 0 0 []
 |take {x:Value} {l r:List Value} {n:Nat}:Lit l 0 n r->Lit (x::l) 0 (n+1) (x::r)
 |drop {x:Value} {l r:List Value} {i n:Nat}:Lit l i n r->Lit (x::l) (i+1) n r
theorem UA {cs:List Value} {i n:Nat} {vs:List Value} (h:Lit cs i n vs):PartOf cs i n vs:=by
 induction h with
 |nil=>exact⟨by simp,rfl⟩
 |take _ ih=>exact⟨by simpa using ih.part,by simpa using ih.len⟩
 |drop _ ih=>exact⟨by simpa using ih.part,ih.len⟩
inductive Parts (a:Act):Nat->List (Nat × Operand)->List Value->Prop where
 |nil {i:Nat}:Parts a i [] []
 |cons {i:Nat} {x:Operand} {v:Value} {r:List (Nat × Operand)} {vs:List Value}:kV a x=some v->Parts a (i+1) r vs->Parts a i ((i,x)::r) (v::vs)
theorem Eo {a:Act} {i:Nat} {l:List (Nat × Operand)} {vs:List Value} (h:Parts a i l vs):(l.map fun p=>(p.1,a.eval p.2))=tagged i vs:=by
 induction h with
 |nil=>rfl
 |cons hx _ ih=>simp[tagged,ih,gU hx]
section
variable {e t ty:TypeId} {x y:Operand} {b i j len n:Nat} {cs:List Value} {v:Value} {parts:List (Nat × Operand)}
variable {w0:World} {X:List Nat} {V:View} {L:List dF} {w:World}
variable {ops:Array Oper} {rest:List Oper} {o:Oper} {a:Act} {Q:Exit->Act->World->Prop}
theorem gY (hS:St w0 X V L w) (hgd:Region.wanted o (yielded ops a.tmps)=true) (ho:o.op=.load ty x) (hx:a.eval x=.pointer (some ⟨b,i,none⟩))
 [hj:Hs L b j t cs] [hty:iR P ty] (h:∃ v,cs[i]? = some v/\∀ a',a.put o.dst v=a'->∀ w',St w0 X V L w'->wpList P ops Q rest a' w'):wpList P ops Q (o::rest) a w:=by
 obtain⟨v,hv,h⟩:=h;exact Td hS hgd ho j hx hj.ok hty.ok hv (h _ rfl w hS)
theorem lW (hS:St w0 X V L w) (hgd:Region.wanted o (yielded ops a.tmps)=true) (ho:o.op=.load ty x) (hx:a.eval x=.pointer (some ⟨b,i,none⟩))
 [hj:Hs L b j t cs] [hty:jS P ty n] (h:∃ vs,PartOf cs i n vs/\∀ a',a.put o.dst (.agg vs.toArray)=a'->∀ w',St w0 X V L w'->wpList P ops Q rest a' w'):wpList P ops Q (o::rest) a w:=by
 obtain⟨vs,hv,h⟩:=h;exact Ud hS hgd ho j hx hj.ok hty.ok hv.part hv.len (h _ rfl w hS)
theorem nC (hS:St w0 X V L w) (hgd:Region.wanted o (yielded ops a.tmps)=true) (ho:o.op=.load ty x) (hx:a.eval x=.pointer (some ⟨b,i,none⟩))
 [hty:iR P ty] (h:∃ v,V.Cell b i v/\∀ a',a.put o.dst v=a'->∀ w',St w0 X V L w'->wpList P ops Q rest a' w'):wpList P ops Q (o::rest) a w:=by
 obtain⟨v,hv,h⟩:=h;exact PU hS hgd ho hx hty.ok hv (h _ rfl w hS)
theorem zQ (hS:St w0 X V L w) (hgd:Region.wanted o (yielded ops a.tmps)=true) (ho:o.op=.load ty x) (hx:a.eval x=.pointer (some ⟨b,i,none⟩))
 [hty:jS P ty n] (h:∃ vs,(V.Range b i vs/\vs.length=n)/\∀ a',a.put o.dst (.agg vs.toArray)=a'->∀ w',St w0 X V L w'->wpList P ops Q rest a' w'):wpList P ops Q (o::rest) a w:=by
 obtain⟨vs,hv,h⟩:=h;exact Om hS hgd ho hx hty.ok hv.1 hv.2 (h _ rfl w hS)
theorem pX (hS:St w0 X V L w) (hgd:Region.wanted o (yielded ops a.tmps)=true) (ho:o.op=.store ty x y) (hx:a.eval x=.pointer (some ⟨b,i,none⟩))
 [hj:Hs L b j t cs] [hty:iR P ty] (h:∃ v,(kV a y=some v/\v.oneCell'=true/\i<cs.length)/\∀ a',a.put o.dst undef=a'->∀ w',St w0 X V (L.set j (.blk b t (cs.set i v))) w'->wpList P ops Q rest a' w'):wpList P ops Q (o::rest) a w:=by
 obtain⟨v,⟨hy,h1,h2⟩,h⟩:=h;exact OA hS hgd ho j hx hj.ok (gU hy) h1 hty.ok h2 rfl fun w' hw=>h _ rfl w' hw
theorem qsn (hS:St w0 X V L w) (hgd:Region.wanted o (yielded ops a.tmps)=true) (ho:o.op=.store ty x y) (hx:a.eval x=.pointer (some ⟨b,i,none⟩))
 [hj:Hs L b j t cs] [hty:jS P ty n] (h:∃ vs:List Value,(kV a y=some (.agg vs.toArray)/\(∀ v∈vs,v.oneCell'=true)/\vs.length=n/\i+n<=cs.length)/\∀ a',a.put o.dst undef=a' ->
   ∀ w',St w0 X V (L.set j (.blk b t (splice cs i vs))) w'->wpList P ops Q rest a' w'):wpList P ops Q (o::rest) a w:=by
 obtain⟨vs,⟨hy,h1,h2,h3⟩,h⟩:=h;exact FN hS hgd ho j hx hj.ok (gU hy) h1 hty.ok h2 h3 rfl fun w' hw=>h _ rfl w' hw
theorem bQ (hS:St w0 X V L w) (hgd:Region.wanted o (yielded ops a.tmps)=true) (ho:o.op=.store ty x y) (hx:a.eval x=.pointer (some ⟨b,0,none⟩))
 [hj:Hs L b j t cs] [hty:jS P ty n] (h:∃ vs:List Value,(kV a y=some (.agg vs.toArray)/\(∀ v∈vs,v.oneCell'=true)/\vs.length=n/\cs.length=n)/\∀ a',a.put o.dst undef=a' ->
 ∀ w',St w0 X V (L.set j (.blk b t vs)) w'->wpList P ops Q rest a' w'):wpList P ops Q (o::rest) a w:=by
 obtain⟨vs,⟨hy,h1,h2,h3⟩,h⟩:=h;exact Jd hS hgd ho j hx hj.ok (gU hy) h1 hty.ok h2 h3 rfl fun w' hw=>h _ rfl w' hw
theorem jQ (hS:St w0 X V L w) (hgd:Region.wanted o (yielded ops a.tmps)=true) (ho:o.op=.box ty x) (hx:kV a x=some v)
 (h:∃ cs:List Value,v.cells=cs.toArray/\∀ b a',a.put o.dst (.pointer (some ⟨b,0,none⟩))=a'->∀ w',St w0 X V (.blk b ty cs::L) w'->wpList P ops Q rest a' w'):wpList P ops Q (o::rest) a w:=by
 obtain⟨cs,hc,h⟩:=h;exact Yd hS hgd ho (gU hx) hc fun b w' hw=>h b _ rfl w' hw
theorem dM (hS:St w0 X V L w) (hgd:Region.wanted o (yielded ops a.tmps)=true) (ho:o.op=.alloc ty) [hz:lX P ty cs]
 (h:∀ b a',a.put o.dst (.pointer (some ⟨b,0,none⟩))=a'->∀ w',St w0 X V (.blk b ty cs::L) w'->wpList P ops Q rest a' w'):wpList P ops Q (o::rest) a w :=
 SL hS hgd ho hz.has hz.ok fun b w' hw=>h b _ rfl w' hw
theorem rE (hS:St w0 X V L w) (hgd:Region.wanted o (yielded ops a.tmps)=true) (ho:o.op=.buildSlice t len parts.toArray) [ht:Xu P t e]
 (h:∃ vs,Parts a 0 parts vs/\(vs.length=len/\len<=100/\∀ v∈vs,v.oneCell'=true)/\∀ b a',a.put o.dst (.slice (some ⟨b,0,none⟩) len len)=a'->∀ w',St w0 X V (.blk b e vs::L) w'->wpList P ops Q rest a' w'):wpList P ops Q (o::rest) a w:=by
 obtain⟨vs,hp,hc,h⟩:=h;exact O7 hS hgd ho (by simpa using Eo hp) hc.1 hc.2.1 hc.2.2 ht.ok fun b w' hw=>h b _ rfl w' hw
theorem iK (d:Nat) (_hd:o.dst=some d) (hS:St w0 X V L w) (hgd:Region.wanted o (yielded ops a.tmps)=true) (ho:o.op=.box ty x) (hx:kV a x=some v)
 (h:∃ cs:List Value,v.cells=cs.toArray/\∀ b a',a.put o.dst (.pointer (some ⟨b,0,none⟩))=a'->∀ w',St w0 X V (.blk b ty cs::L) w'->wpList P ops Q rest a' w'):wpList P ops Q (o::rest) a w :=
 jQ hS hgd ho hx h
theorem aT (d:Nat) (_hd:o.dst=some d) (hS:St w0 X V L w) (hgd:Region.wanted o (yielded ops a.tmps)=true) (ho:o.op=.alloc ty) [hz:lX P ty cs]
 (h:∀ b a',a.put o.dst (.pointer (some ⟨b,0,none⟩))=a'->∀ w',St w0 X V (.blk b ty cs::L) w'->wpList P ops Q rest a' w'):wpList P ops Q (o::rest) a w :=
 dM hS hgd ho h
theorem UL (d:Nat) (_hd:o.dst=some d) (hS:St w0 X V L w) (hgd:Region.wanted o (yielded ops a.tmps)=true) (ho:o.op=.buildSlice t len parts.toArray) [ht:Xu P t e]
 (h:∃ vs,Parts a 0 parts vs/\(vs.length=len/\len<=100/\∀ v∈vs,v.oneCell'=true)/\∀ b a',a.put o.dst (.slice (some ⟨b,0,none⟩) len len)=a'->∀ w',St w0 X V (.blk b e vs::L) w'->wpList P ops Q rest a' w'):wpList P ops Q (o::rest) a w :=
 rE hS hgd ho h
end
section
variable {w0:World} {X:List Nat} {V:View} {L:List dF} {w:World}
variable {ops:Array Oper} {rest:List Oper} {o:Oper} {a:Act} {Q:Exit->Act->World->Prop}
end
section
variable {t ty:TypeId} {x:Operand} {b i j:Nat} {cs:List Value} {C:World->Prop}
variable {w0:World} {X:List Nat} {V:View} {L:List dF}
variable {o:Oper} {a:Act} {K:Act->Prop}
theorem pq (ho:o.op=.load ty x) (hx:a.eval x=.pointer (some ⟨b,i,none⟩)) [hj:Hs L b j t cs] [hty:iR P ty]
 (h:∃ v,cs[i]? = some v/\∀ a',a.put o.dst v=a'->K a'):o.quiet P a (St w0 X V L) K:=by
 obtain⟨v,hv,h⟩:=h;exact Nc ho j hx hj.ok hty.ok hv (h _ rfl)
theorem wB (ho:o.op=.load ty x) (hx:a.eval x=.pointer (some ⟨b,i,none⟩)) {n:Nat} [hj:Hs L b j t cs] [hty:jS P ty n]
 (h:∃ vs,PartOf cs i n vs/\∀ a',a.put o.dst (.agg vs.toArray)=a'->K a'):o.quiet P a (St w0 X V L) K:=by
 obtain⟨vs,hv,h⟩:=h;exact LY ho j hx hj.ok hty.ok hv.part hv.len (h _ rfl)
theorem jW {v:Value} (ho:o.op=.move x) (hx:kV a x=some v) (h:∀ a',a.put o.dst v=a'->K a'):o.quiet P a C K :=
 qp (fun w _=>by have:=gU hx;exact this ▸ BigFrame.run_move x ho w) (h _ rfl)
theorem gu (h:∃ v,(∀ w,(execOp a.eval o).run P w=.ok (.value v) w)/\∀ a',a.put o.dst v=a'->K a'):o.quiet P a C K:=by
 obtain⟨v,hr,h⟩:=h;exact qp (fun w _=>hr w) (h _ rfl)
theorem mF (h:∃ f args,(∀ w,(execOp a.eval o).run P w=.ok (.enter f args) w)/\∃ v,(∀ w,St w0 X V L w->Calls P f args w fun e w'=>e=.returned v/\Kp w w')/\∀ a',a.put o.dst v=a'->K a'):o.quiet P a (St w0 X V L) K:=by
 obtain⟨f,args,hr,v,hc,h⟩:=h;exact Nb (fun w _=>hr w) (fun w hS=>L9 hS (hc w hS)) (h _ rfl)
end
section
variable {tmps:Array Value} {t:Tmp} {v:Value} {t' ty:TypeId} {b i j:Nat} {cs:List Value} {R:Ending->World->Prop}
variable {w0:World} {X:List Nat} {V:View} {L:List dF} {w:World}
theorem bD (h:tmps.toList[t]? = some v):(iI tmps (.tmp t)).run P w=.ok v w:=by
 have h':tmps[t]? = some v:=by simpa using h
 exact yS (by simp[h'])
theorem zA (hS:St w0 X V L w) (hx:tmps.getD t undef=.pointer (some ⟨b,i,none⟩)) [hj:Hs L b j t' cs]
 [hty:iR P ty] (hv:cs[i]? = some v):(iI tmps (.cell t ty)).run P w=.ok v w:=AO hS j hx hj.ok hty.ok hv
theorem rX (hS:St w0 X V L w) (hx:tmps.getD t undef=.pointer (some ⟨b,i,none⟩)) {n:Nat} [hj:Hs L b j t' cs]
 [hty:jS P ty n] {vs:List Value} (hv:PartOf cs i n vs):(iI tmps (.cell t ty)).run P w=.ok (.agg vs.toArray) w:=Aa hS j hx hj.ok hty.ok hv.part hv.len
theorem bK {fn:Func} {a:Act} (h:∃ v,(results fn a.tmps).run P w=.ok v w/\R (.returned v) w) (hd:a.defers=[]):bodyPost P fn R .ret a w:=by
 obtain⟨v,hr,hR⟩:=h;exact bodyPost_ret hr hd hR
theorem aH {f:FuncId} {args:Array Value} (hS:St w0 X V L w) (h:∃ v,(Calls P f args w fun e w'=>e=.returned v/\Kp w w')/\∀ w',St w0 X V L w'->R (.returned v) w'):Calls P f args w R:=by
 obtain⟨v,hc,h⟩:=h;exact rH hS hc h
end
theorem fr:(∀ (t:Array Value) (d:List Deferred) (i:Nat) (v:Value),(⟨t,d⟩:Act).put (some i) v=⟨t.setIfInBounds i v,d⟩)/\(∀ (a:Act) (v:Value),a.put none v=a) /\
  (∀ (l:List Value) (i:Nat) (v:Value),l.toArray.setIfInBounds i v=(l.set i v).toArray)/\(∀ (x:Value) (l:List Value) (i:Nat) (v:Value),(x::l).set (i+1) v=x::l.set i v) /\
  (∀ (x:Value) (l:List Value) (v:Value),(x::l).set 0 v=v::l) :=
 ⟨fun _ _ _ _=>rfl,fun _ _=>rfl,fun l i v=>by simp,fun _ _ _ _=>rfl,fun _ _ _=>rfl⟩
theorem sE:(∀ (x:dF) (l:List dF) (i:Nat) (v:dF),(x::l).set (i+1) v=x::l.set i v)/\(∀ (x:dF) (l:List dF) (v:dF),(x::l).set 0 v=v::l) /\
  (∀ (x:Value) (l:List Value) (i:Nat) (v:Value),(x::l).set (i+1) v=x::l.set i v)/\(∀ (x:Value) (l:List Value) (v:Value),(x::l).set 0 v=v::l) :=
 ⟨fun _ _ _ _=>rfl,fun _ _ _=>rfl,fun _ _ _ _=>rfl,fun _ _ _=>rfl⟩
theorem lV:(∀ (l:List Value) (i:Nat) (v:Value),(l.set i v).length=l.length)/\(∀ (l r:List Value),(l ++ r).length=l.length+r.length)/\(∀ (n:Nat) (v:Value),(List.replicate n v).length=n) /\
  (∀ (x:Value) (l:List Value),(x::l).length=l.length+1)/\(([]:List Value).length=0) :=
 ⟨fun _ _ _=>by simp,fun _ _=>by simp,fun _ _=>by simp,fun _ _=>rfl,rfl⟩
theorem oN:∀ v∈([]:List Value),v.oneCell'=true:=by simp
theorem oC {x:Value} {l:List Value} (hx:x.oneCell'=true) (h:∀ v∈l,v.oneCell'=true):∀ v∈x::l,v.oneCell'=true:=by
 intro v hv;rcases List.mem_cons.1 hv with rfl|hv
 ·exact hx
 ·exact h v hv
section
variable {ty:TypeId} {x:Operand} {xs:Array Operand} {ts:Array TypeId}
variable {w0:World} {X:List Nat} {V:View} {L:List dF} {w:World}
variable {ops:Array Oper} {rest:List Oper} {a:Act} {Q:Exit->Act->World->Prop} {d:Option Tmp} {t:TypeId} {p:String} {af:Array Edge} {g:Option (Nat × Bool)}
theorem gL (h:wpList P ops Q (⟨d,.load ty x,t,p,af,g⟩::rest) a w):wpList P ops Q (⟨d,.load ty x,t,p,af,g⟩::rest) a w:=h
theorem gS {y:Operand} (h:wpList P ops Q (⟨d,.store ty x y,t,p,af,g⟩::rest) a w):wpList P ops Q (⟨d,.store ty x y,t,p,af,g⟩::rest) a w:=h
theorem gA (h:wpList P ops Q (⟨d,.alloc ty,t,p,af,g⟩::rest) a w):wpList P ops Q (⟨d,.alloc ty,t,p,af,g⟩::rest) a w:=h
theorem gB (h:wpList P ops Q (⟨d,.box ty x,t,p,af,g⟩::rest) a w):wpList P ops Q (⟨d,.box ty x,t,p,af,g⟩::rest) a w:=h
theorem uP {n:Nat} {ps:Array (Nat × Operand)} (h:wpList P ops Q (⟨d,.buildSlice ty n ps,t,p,af,g⟩::rest) a w):wpList P ops Q (⟨d,.buildSlice ty n ps,t,p,af,g⟩::rest) a w:=h
theorem Q5 (h:wpList P ops Q (⟨d,.call ⟨.builtin .append,xs,ts⟩,t,p,af,g⟩::rest) a w):wpList P ops Q (⟨d,.call ⟨.builtin .append,xs,ts⟩,t,p,af,g⟩::rest) a w:=h
theorem gC {f:FuncId} {xs:Array Value} {R:Ending->World->Prop} (h:Calls P f xs w R):Calls P f xs w R:=h
variable {C:World->Prop} {K:Act->Prop}
theorem Uj (h:(⟨d,.load ty x,t,p,af,g⟩:Oper).quiet P a C K):(⟨d,.load ty x,t,p,af,g⟩:Oper).quiet P a C K:=h
theorem Xf (h:(⟨d,.move x,t,p,af,g⟩:Oper).quiet P a C K):(⟨d,.move x,t,p,af,g⟩:Oper).quiet P a C K:=h
theorem YW (h:(⟨d,.call ⟨.value x,xs,ts⟩,t,p,af,g⟩:Oper).quiet P a C K):(⟨d,.call ⟨.value x,xs,ts⟩,t,p,af,g⟩:Oper).quiet P a C K:=h
end
theorem gE {a:Act} {x:Operand} {v:Value} (h:kV a x=some v):kV a x=some v:=h
theorem gO {v:Value} (h:v.oneCell'=true):v.oneCell'=true:=h
theorem gI {cs:List Value} {i:Nat} {v:Value} (h:cs[i]? = some v):cs[i]? = some v:=h
theorem gP {cs vs:List Value} {i n:Nat} (h:PartOf cs i n vs):PartOf cs i n vs:=h
theorem gN {cs:List Value} {n:Nat} (h:cs.length=n):cs.length=n:=h
theorem gV {vs:List Value} (h:∀ v∈vs,v.oneCell'=true):∀ v∈vs,v.oneCell'=true:=h
theorem zd {p:Prop} (h:p:=by((repeat' (apply And.intro))<;>(first|((with_reducible apply gE);exact rfl)|((with_reducible apply gO);first|exact rfl|assumption)|((with_reducible apply gI);first|assumption|exact rfl|(simp only[lV,cZ,eU,Nat.reduceAdd,Nat.reduceMul, *];done))|((with_reducible apply gP);first|exact PartOf.mk (by assumption) (by(first|assumption|(simp only[lV,cZ,eU,Nat.reduceAdd,Nat.reduceMul, *];done)|rfl|omega))|exact UJ (by(first|assumption|(simp only[lV,cZ,eU,Nat.reduceAdd,Nat.reduceMul, *];done)|rfl|omega))|exact UA (by repeat (first|exact Go.Mm.Lit.nil|apply Go.Mm.Lit.take|apply Go.Mm.Lit.drop)))|((with_reducible apply gN);(first|assumption|(simp only[lV,cZ,eU,Nat.reduceAdd,Nat.reduceMul, *];done)|rfl|omega))|((with_reducible apply gV);first|assumption|exact lF _|exact VG _|exact je.one _|exact nN.one _|exact JV _|exact Qk _|(repeat (first|exact oN|refine oC rfl ?_)))|assumption|omega|exact Nk (by assumption)|exact gG _ _|exact SS.WF.eu (by assumption)|exact SS.WF.weighed (by assumption) _ _|(simp only[lV,cZ,eU,Nat.reduceAdd,Nat.reduceMul, *];omega)|exact rfl|(simp only[lV,cZ,eU,Nat.reduceAdd,Nat.reduceMul, *];done)))):p:=h
theorem zp {p:Prop} (h:p:=by(intro _;go_simp;(try simp (disch:=omega) only[IntWalk.i64_in,IntWalk.u64_in,IntWalk.u8_in]);first|done|rfl|exact⟨rfl,rfl⟩)):p:=h
theorem zo {p:Prop} (h:p:=by(go_simp;first|done|rfl|exact⟨rfl,rfl⟩)):p:=h
theorem zc {p:Prop} (h:p:=by(first|assumption|exact rfl|omega|exact gG _ _|exact SS.WF.eu (by assumption)|exact SS.WF.weighed (by assumption) _ _|exact je.one _|exact nN.one _|exact JV _|exact Qk _|(simp only[lV,cZ,eU,Nat.reduceAdd,Nat.reduceMul, *];done)|(simp only[lV,cZ,eU,Nat.reduceAdd,Nat.reduceMul, *];omega))):p:=h
theorem zq {p:Prop} (h:p:=by repeat (first|exact Parts.nil|(apply Parts.cons;exact rfl))):p:=h
theorem za {p:Prop} (h:p:=by first|exact rfl|assumption):p:=h
end Go.Mm
namespace Go.Mm
theorem zF {α:Type} {x y:α} {K:α->Prop} (h:K y) (hp:x=y:=by((try simp only[fr]);exact rfl)):∀ z,x=z->K z:=fun z e=>by subst e;rw[hp];exact h
end Go.Mm
namespace Go.Mm
structure KQ (Q:Prop):Prop where
 out:Q
def DD (_d:Nat) (P:Prop):Prop:=P
section
variable {w0:World} {X:List Nat} {V:View} {L:List dF} {w:World} {P:Program}
variable {ops:Array Oper} {rest:List Oper} {o:Oper} {a:Act} {Q:Exit->Act->World->Prop} {d:Option Tmp} {t:TypeId} {p:String} {af:Array Edge} {g:Option (Nat × Bool)} {e:Nat} {ty:TypeId}
theorem gDA (h:DD e (wpList P ops Q (⟨d,.alloc ty,t,p,af,g⟩::rest) a w)):DD e (wpList P ops Q (⟨d,.alloc ty,t,p,af,g⟩::rest) a w):=h
theorem gDB {x:Operand} (h:DD e (wpList P ops Q (⟨d,.box ty x,t,p,af,g⟩::rest) a w)):DD e (wpList P ops Q (⟨d,.box ty x,t,p,af,g⟩::rest) a w):=h
theorem gDS {n:Nat} {ps:Array (Nat × Operand)} (h:DD e (wpList P ops Q (⟨d,.buildSlice ty n ps,t,p,af,g⟩::rest) a w)):DD e (wpList P ops Q (⟨d,.buildSlice ty n ps,t,p,af,g⟩::rest) a w):=h
theorem DDi (_hd:o.dst=some e) (h:wpList P ops Q (o::rest) a w):DD e (wpList P ops Q (o::rest) a w):=h
end
theorem zk {p:Prop} (h:p:=by kernel_rfl):p:=h
theorem zw {p:Prop} (h:p:=by omega):p:=h
theorem yj {P Q:Prop} (k:Q) (t:KQ Q->P:=by(intro kq;(try simp only[Exit.inBlock,Exit.then]);(try refine aB ?_);exact kq.out)):P:=t ⟨k⟩
theorem yy {P Q:Prop} (k:Q) (t:KQ Q->P:=by(intro kq;(with_reducible refine gL ?_);first|(refine gY hS rfl rfl rfl ?_;refine⟨_,zd,?_⟩;refine zF ?_;exact kq.out)|(refine lW hS rfl rfl rfl ?_;refine⟨_,zd,?_⟩;refine zF ?_;exact kq.out)|(refine nC hS rfl rfl rfl ?_;refine⟨_,zd,?_⟩;refine zF ?_;exact kq.out)|(refine zQ hS rfl rfl rfl ?_;refine⟨_,zd,?_⟩;refine zF ?_;exact kq.out))):P:=t ⟨k⟩
theorem ym {P Q:Prop} (k:Q) (t:KQ Q->P:=by(intro kq;(with_reducible refine gL ?_);(first|(refine gY hS rfl rfl rfl ?_;refine⟨_,zd,?_⟩)|(refine lW hS rfl rfl rfl ?_;refine⟨_,zd,?_⟩)|(refine nC hS rfl rfl rfl ?_;refine⟨_,zd,?_⟩)|(refine zQ hS rfl rfl rfl ?_;refine⟨_,zd,?_⟩));refine zF ?_;intro w' hS;(try simp only[sE]at hS);revert w';exact kq.out)):P:=t ⟨k⟩
theorem ys {P Q:Prop} (k:Q) (t:KQ Q->P:=by(intro kq;(with_reducible refine gS ?_);(first|(refine pX hS rfl rfl rfl ?_;refine⟨_,zd,?_⟩)|(refine bQ hS rfl rfl rfl ?_;refine⟨_,zd,?_⟩)|(refine qsn hS rfl rfl rfl ?_;refine⟨_,zd,?_⟩));refine zF ?_;intro w' hS;(try simp only[sE]at hS);revert w';exact kq.out)):P:=t ⟨k⟩
theorem ye {P Q:Prop} (k:Q) (t:KQ Q->P:=by(intro kq;(with_reducible refine gA ?_);refine dM hS rfl rfl ?_;intro b;refine zF ?_;revert b;exact kq.out)):P:=t ⟨k⟩
theorem yf {P Q:Prop} (k:Q) (t:KQ Q->P:=by(intro kq;(with_reducible refine gB ?_);refine jQ hS rfl rfl rfl ?_;refine⟨_,za,?_⟩;intro b;refine zF ?_;revert b;exact kq.out)):P:=t ⟨k⟩
theorem yg {P Q:Prop} (k:Q) (t:KQ Q->P:=by(intro kq;(with_reducible refine uP ?_);refine rE hS rfl rfl ?_;refine⟨_,zq,zd,?_⟩;intro b;refine zF ?_;revert b;exact kq.out)):P:=t ⟨k⟩
theorem ya (d:Nat) {P Q:Prop} (k:Q) (t:KQ Q->DD d P:=by(intro kq;(with_reducible refine gDA ?_);refine DDi rfl ?_;refine dM hS rfl rfl ?_;intro b;refine zF ?_;revert b;exact kq.out)):P:=t ⟨k⟩
theorem yb (d:Nat) {P Q:Prop} (k:Q) (t:KQ Q->DD d P:=by(intro kq;(with_reducible refine gDB ?_);refine DDi rfl ?_;refine jQ hS rfl rfl rfl ?_;refine⟨_,za,?_⟩;intro b;refine zF ?_;revert b;exact kq.out)):P:=t ⟨k⟩
theorem yc (d:Nat) {P Q:Prop} (k:Q) (t:KQ Q->DD d P:=by(intro kq;(with_reducible refine gDS ?_);refine DDi rfl ?_;refine rE hS rfl rfl ?_;refine⟨_,zq,zd,?_⟩;intro b;refine zF ?_;revert b;exact kq.out)):P:=t ⟨k⟩
end Go.Mm
namespace Go.Mm
open Go Go.Proofs
instance:iR Tryd.prog 1:=⟨by kernel_rfl⟩
instance:iR Tryd.prog 2:=⟨by kernel_rfl⟩
instance:iR Tryd.prog 3:=⟨by kernel_rfl⟩
instance:iR Tryd.prog 4:=⟨by kernel_rfl⟩
instance:iR Tryd.prog 22:=⟨by kernel_rfl⟩
instance:iR Tryd.prog 23:=⟨by kernel_rfl⟩
instance:jS Tryd.prog 25 2:=⟨by kernel_rfl⟩
instance:jS Tryd.prog 27 2:=⟨by kernel_rfl⟩
instance:jS Tryd.prog 29 4:=⟨by kernel_rfl⟩
instance:iR Tryd.prog 30:=⟨by kernel_rfl⟩
instance:iR Tryd.prog 38:=⟨by kernel_rfl⟩
instance:jS Tryd.prog 59 4:=⟨by kernel_rfl⟩
instance:iR Tryd.prog 82:=⟨by kernel_rfl⟩
instance:iR Tryd.prog 87:=⟨by kernel_rfl⟩
instance:iR Tryd.prog 88:=⟨by kernel_rfl⟩
instance:jS Tryd.prog 90 3:=⟨by kernel_rfl⟩
instance:iR Tryd.prog 95:=⟨by kernel_rfl⟩
instance:jS Tryd.prog 96 6:=⟨by kernel_rfl⟩
instance:jS Tryd.prog 98 12:=⟨by kernel_rfl⟩
instance:jS Tryd.prog 100 18:=⟨by kernel_rfl⟩
instance:jS Tryd.prog 104 2:=⟨by kernel_rfl⟩
instance:iR Tryd.prog 110:=⟨by kernel_rfl⟩
instance:jS Tryd.prog 112 3:=⟨by kernel_rfl⟩
instance:iR Tryd.prog 124:=⟨by kernel_rfl⟩
instance:jS Tryd.prog 129 6:=⟨by kernel_rfl⟩
instance:iR Tryd.prog 142:=⟨by kernel_rfl⟩
instance:jS Tryd.prog 152 1:=⟨by kernel_rfl⟩
instance:iR Tryd.prog 155:=⟨by kernel_rfl⟩
instance:iR Tryd.prog 159:=⟨by kernel_rfl⟩
instance:iR Tryd.prog 163:=⟨by kernel_rfl⟩
instance:iR Tryd.prog 165:=⟨by kernel_rfl⟩
instance:jS Tryd.prog 170 84:=⟨by kernel_rfl⟩
instance:jS Tryd.prog 176 3:=⟨by kernel_rfl⟩
instance:iR Tryd.prog 179:=⟨by kernel_rfl⟩
instance:lX Tryd.prog 25 ([.slice none 0 0,.slice none 0 0]):=⟨by kernel_rfl,by kernel_rfl⟩
instance:lX Tryd.prog 27 (List.replicate 2 (.int .i64 0)):=⟨by kernel_rfl,by kernel_rfl⟩
instance:lX Tryd.prog 29 ([.int .i64 0,.int .i64 0,.int .i64 0,.int .i64 0]):=⟨by kernel_rfl,by kernel_rfl⟩
instance:lX Tryd.prog 38 ([.int .i64 0]):=⟨by kernel_rfl,by kernel_rfl⟩
instance:lX Tryd.prog 59 ([.int .i64 0,.int .i64 0,.int .i64 0,.int .i64 0]):=⟨by kernel_rfl,by kernel_rfl⟩
instance:lX Tryd.prog 82 ([.slice none 0 0]):=⟨by kernel_rfl,by kernel_rfl⟩
instance:lX Tryd.prog 96 (List.replicate 6 (.int .u64 0)):=⟨by kernel_rfl,by kernel_rfl⟩
instance:lX Tryd.prog 98 (List.replicate 12 (.int .i64 0)):=⟨by kernel_rfl,by kernel_rfl⟩
instance:lX Tryd.prog 100 (List.replicate 6 (.int .u64 0) ++ List.replicate 12 (.int .i64 0)):=⟨by kernel_rfl,by kernel_rfl⟩
instance:lX Tryd.prog 104 ([.slice none 0 0,.slice none 0 0]):=⟨by kernel_rfl,by kernel_rfl⟩
instance:lX Tryd.prog 124 ([.pointer none]):=⟨by kernel_rfl,by kernel_rfl⟩
instance:lX Tryd.prog 142 ([.int .u8 0]):=⟨by kernel_rfl,by kernel_rfl⟩
instance:lX Tryd.prog 152 ([.int .i64 0]):=⟨by kernel_rfl,by kernel_rfl⟩
instance:lX Tryd.prog 163 ([.nilFunc]):=⟨by kernel_rfl,by kernel_rfl⟩
instance:lX Tryd.prog 165 ([.chan none]):=⟨by kernel_rfl,by kernel_rfl⟩
instance:lX Tryd.prog 176 ([.pointer none,.pointer none,.int .u64 0]):=⟨by kernel_rfl,by kernel_rfl⟩
instance:Xu Tryd.prog 30 3:=⟨by kernel_rfl⟩
instance:Xu Tryd.prog 74 30:=⟨by kernel_rfl⟩
instance:Xu Tryd.prog 110 124:=⟨by kernel_rfl⟩
instance:Xu Tryd.prog 143 142:=⟨by kernel_rfl⟩
instance:Xu Tryd.prog 161 38:=⟨by kernel_rfl⟩
instance:Zz Tryd.prog 22 29 4:=⟨by kernel_rfl⟩
instance:Zz Tryd.prog 23 59 4:=⟨by kernel_rfl⟩
instance:Zz Tryd.prog 30 3 1:=⟨by kernel_rfl⟩
instance:Zz Tryd.prog 74 30 1:=⟨by kernel_rfl⟩
instance:Zz Tryd.prog 110 124 1:=⟨by kernel_rfl⟩
end Go.Mm
namespace Go.Wg
open Go
variable {i m:Nat} {p q:Int × Int} {l:List Nat} {c d:Int}
structure SS where
 lim:List Nat
 los:List (Int × Int)
structure SS.WF (s:SS):Prop where
 lim:s.lim.length=6
 los:s.los.length=6
 small:∀ m∈s.lim,m<2199023255552
def mM (l:List Nat):List Value:=l.map fun m:Nat=>.int .u64 (m:Int)
def pY (l:List (Int × Int)):List Value:=l.flatMap fun p=>[.int .i64 p.1,.int .i64 p.2]
def dJ (s:SS):List Value:=mM s.lim ++ pY s.los
def SS.aK (s:SS) (i:Nat):Nat:=s.lim.getD i 0
def SS.aP (s:SS) (i:Nat):Int × Int:=s.los.getD i (0,0)
def SS.cu (s:SS) (i m:Nat):SS:={s with lim:=s.lim.set i m}
def SS.eu (s:SS) (i:Nat) (p:Int × Int):SS:={s with los:=s.los.set i p}
theorem cZ (l:List Nat):(mM l).length=l.length:=by simp[mM]
theorem eU (l:List (Int × Int)):(pY l).length=l.length * 2:=by
 induction l with
 |nil=>rfl
 |cons p l ih=>simp[pY]at ih |-;omega
theorem dG {s:SS} (h:s.WF):(dJ s).length=18:=by simp[dJ,cZ,eU,h.lim,h.los]
theorem Ee (l:List (Int × Int)) (i:Nat) (h:i<l.length):(pY l)[i * 2]? = some (.int .i64 (l.getD i (0,0)).1)/\(pY l)[i * 2+1]? = some (.int .i64 (l.getD i (0,0)).2):=by
 induction l generalizing i with
 |nil=>simp at h
 | cons p l ih =>
  cases i with
  |zero=>simp[pY]
  |succ i =>
   have:=ih i (by simpa using h);simp only[pY,List.flatMap_cons,List.cons_append,List.nil_append]at this |-;rw[show(i+1) * 2=i * 2+1+1 by omega];simpa using this
theorem oh {s:SS} (h:s.WF) (hi:i<6):(dJ s)[i]? = some (.int .u64 (s.aK i:Int)):=by
 have h1:=h.lim;unfold dJ SS.aK;rw[List.getElem?_append_left (by simp[cZ,h1,hi])];simp[mM,List.getElem?_map,List.getElem?_eq_getElem (show i<s.lim.length by omega)]
theorem Us {s:SS} (h:s.WF) (hi:i<6):(dJ s)[6+i * 2]? = some (.int .i64 (s.aP i).1):=by
 have h1:=h.lim;unfold dJ SS.aP;rw[List.getElem?_append_right (by simp[cZ,h1])];simp only[cZ,h1,Nat.add_sub_cancel_left];exact(Ee s.los i (by have:=h.los;omega)).1
theorem Pm {s:SS} (h:s.WF) (hi:i<6):(dJ s)[6+i * 2+1]? = some (.int .i64 (s.aP i).2):=by
 have h1:=h.lim;unfold dJ SS.aP;rw[List.getElem?_append_right (by simp[cZ,h1];omega)];simp only[cZ,h1,show 6+i * 2+1-6=i * 2+1 by omega];exact(Ee s.los i (by have:=h.los;omega)).2
theorem yR (l:List Nat) (i m:Nat):(mM l).set i (.int .u64 (m:Int))=mM (l.set i m):=by simp[mM]
theorem PY (l:List (Int × Int)) (i:Nat) (x:Int) (h:i<l.length):(pY l).set (i * 2) (.int .i64 x)=pY (l.set i (x,(l.getD i (0,0)).2)):=by
 induction l generalizing i with
 |nil=>simp at h
 | cons p l ih =>
  cases i with
  |zero=>simp[pY]
  |succ i =>
   have:=ih i (by simpa using h);simp only[pY,List.flatMap_cons,List.cons_append,List.nil_append]at this |-;rw[show(i+1) * 2=i * 2+1+1 by omega];simpa using this
theorem NY (l:List (Int × Int)) (i:Nat) (x:Int) (h:i<l.length):(pY l).set (i * 2+1) (.int .i64 x)=pY (l.set i ((l.getD i (0,0)).1,x)):=by
 induction l generalizing i with
 |nil=>simp at h
 | cons p l ih =>
  cases i with
  |zero=>simp[pY]
  |succ i =>
   have:=ih i (by simpa using h);simp only[pY,List.flatMap_cons,List.cons_append,List.nil_append]at this |-;rw[show(i+1) * 2=i * 2+1+1 by omega];simpa using this
theorem pO {s:SS} (h:s.WF) (hi:i<6) (m:Nat):(dJ s).set i (.int .u64 (m:Int))=dJ (s.cu i m):=by
 have h1:=h.lim;unfold dJ SS.cu;rw[List.set_append_left _ _ (by simp[cZ,h1,hi]),yR]
theorem TP {s:SS} (h:s.WF) (hi:i<6) (x:Int):(dJ s).set (6+i * 2) (.int .i64 x)=dJ (s.eu i (x,(s.aP i).2)):=by
 have h1:=h.lim;unfold dJ SS.eu SS.aP;rw[List.set_append_right _ _ (by simp[cZ,h1])];simp only[cZ,h1,Nat.add_sub_cancel_left];rw[PY _ _ _ (by have:=h.los;omega)]
theorem He {s:SS} (h:s.WF) (hi:i<6) (x:Int):(dJ s).set (6+i * 2+1) (.int .i64 x)=dJ (s.eu i ((s.aP i).1,x)):=by
 have h1:=h.lim;unfold dJ SS.eu SS.aP;rw[List.set_append_right _ _ (by simp[cZ,h1];omega)];simp only[cZ,h1,show 6+i * 2+1-6=i * 2+1 by omega];rw[NY _ _ _ (by have:=h.los;omega)]
theorem SS.WF.cu {s:SS} (h:s.WF) (hm:m<2199023255552):(s.cu i m).WF :=
 ⟨by simp [SS.cu,h.lim],h.los,fun x hx=>by
  rcases List.mem_or_eq_of_mem_set hx with hx|rfl
  ·exact h.small x hx
  ·exact hm⟩
theorem SS.WF.eu {s:SS} (h:s.WF)  :(s.eu i p).WF:=⟨h.lim,by simp[SS.eu,h.los],h.small⟩
theorem SS.WF.fZ {s:SS} (h:s.WF) (i:Nat):s.aK i<2199023255552:=by
 unfold SS.aK;rw[List.getD_eq_getElem?_getD];cases hi:s.lim[i]? with
 |none=>decide
 |some m=>exact h.small m (List.mem_of_getElem? hi)
theorem Qk (s:SS):∀ v∈dJ s,v.oneCell'=true:=by
 intro v hv;unfold dJ mM pY at hv;rcases List.mem_append.1 hv with h|h
 ·obtain⟨m,_,rfl⟩:=List.mem_map.1 h;rfl
 ·obtain ⟨p,_,h⟩:=List.mem_flatMap.1 h;rcases List.mem_cons.1 h with rfl | h
  ·rfl
  ·rcases List.mem_cons.1 h with rfl | h
   ·rfl
   ·cases h
theorem JV (l:List Nat):∀ v∈mM l,v.oneCell'=true:=by
 intro v hv;obtain⟨m,_,rfl⟩:=List.mem_map.1 hv;rfl
def SS.weighed (s:SS) (i:Nat) (n:Int):SS:=s.cu i (s.aK i &&& dO n n)
theorem SS.WF.weighed {s:SS} (h:s.WF) (i:Nat) (n:Int):(s.weighed i n).WF:=h.cu (Nat.lt_of_le_of_lt Nat.and_le_left (h.fZ i))
open Go.Mm
structure nN where
 from_:Int
 room:Int
 lo:Int
 hi:Int
 deriving DecidableEq,Inhabited
structure je where
 vessel:Int
 scale:Int
 shown:Int
 err:Int
 deriving DecidableEq,Inhabited
structure Wk where
 ves:List nN
 rdg:List je
 deriving DecidableEq
def nN.cells (v:nN):List Value:=[.int .i64 v.from_,.int .i64 v.room,.int .i64 v.lo,.int .i64 v.hi]
def je.cells (r:je):List Value:=[.int .i64 r.vessel,.int .i64 r.scale,.int .i64 r.shown,.int .i64 r.err]
def Wk.n (k:Wk):Nat:=k.ves.length
def Wk.v (k:Wk) (i:Nat):nN:=k.ves.getD i default
def Wk.fills (k:Wk) (i:Nat):List Nat:=(List.range k.n).filter fun j=>(k.v j).from_ == (i:Int)
structure pW (V:View) (v:Value) (n sz:Nat) (get:Nat->List Value):Prop where
 is:∃ a cap,v=.slice a n cap/\n<=cap/\cap<=maxLen/\(0<n->∃ g off,a=some ⟨g,off,none⟩/\∀ i,i<n->V.Range g (off+i * sz) (get i))
def ptr (b:Nat):Value:=.pointer (some ⟨b,0,none⟩)
structure zO (V:View) (p:Nat) (k:Wk) (ts:List Nat) (vv rv:Value):Prop where
 c0:V.Cell p 0 vv
 c1:V.Cell p 1 rv
 c2:∃ g cap,V.Cell p 2 (.slice (some ⟨g,0,none⟩) k.n cap)/\∀ i,i<k.n->V.Cell g i (ptr (ts.getD i 0))
 ves:pW V vv k.n 4 fun i=>(k.v i).cells
 rdg:pW V rv k.rdg.length 4 fun i=>(k.rdg.getD i default).cells
 tun:∀ i,i<k.n->V.Range (ts.getD i 0) 0 ((k.v i).cells ++ [.int .i64 (i:Int)])
 fil:∀ i,i<k.n->∃ v,V.Cell (ts.getD i 0) 5 v/\pW V v (k.fills i).length 1 fun j=>[ptr (ts.getD ((k.fills i).getD j 0) 0)]
 pos:0<k.n
 le:k.n<=6
def jh (V:View) (p:Nat) (k:Wk):Prop:=∃ ts vv rv,zO V p k ts vv rv
theorem zO.mono {V V':View} {p:Nat} {k:Wk} {ts:List Nat} {vv rv:Value} (h:zO V p k ts vv rv) (hV:∀ i o,V i=some o->V' i=some o):zO V' p k ts vv rv:=by
 have sl:∀ {v n sz get},pW V v n sz get->pW V' v n sz get:=fun⟨a,cap,h1,h2,h3,h4⟩ =>
  ⟨a,cap,h1,h2,h3,fun hn=>by obtain⟨g,off,h5,h6⟩:=h4 hn;exact⟨g,off,h5,fun i hi=>(h6 i hi).mono hV⟩⟩
 refine⟨h.c0.mono hV,h.c1.mono hV,?_,sl h.ves,sl h.rdg,fun i hi=>(h.tun i hi).mono hV,fun i hi=>?_,h.pos,h.le⟩
 ·obtain⟨g,cap,h1,h2⟩:=h.c2;exact⟨g,cap,h1.mono hV,fun i hi=>(h2 i hi).mono hV⟩
 ·obtain⟨v,h1,h2⟩:=h.fil i hi;exact⟨v,h1.mono hV,sl h2⟩
def sums (out:List Nat) (f:List Nat):Nat:=f.foldl (fun m x=>nV m (out.getD x 0)) 1
def uX (k:Wk) (s:SS) (out:List Nat) (i:Nat):Nat :=
 if k.fills i=[] then s.aK i else s.aK i &&& nV (sums (out.set i (s.aK i)) (k.fills i)) (dO (s.aP i).1 (s.aP i).2)
def mJ (k:Wk) (s:SS):Nat->List Nat
 |0=>List.replicate 6 0
 |m+1=>(mJ k s m).set (k.n-1-m) (uX k s (mJ k s m) (k.n-1-m))
def up (k:Wk) (s:SS):List Nat:=mJ k s k.n
theorem kZ (k:Wk) (s:SS) (m:Nat):(mJ k s m).length=6:=by
 induction m with
 |zero=>rfl
 |succ m ih=>simp[mJ,ih]
theorem QN (out f:List Nat):sums out f<2199023255552:=by
 unfold sums;rcases List.eq_nil_or_concat f with rfl|⟨l,x,rfl⟩
 ·exact(by decide:(1:Nat)<2199023255552)
 ·rw[List.concat_eq_append,List.foldl_append];exact JX _ _
theorem Rt (out f:List Nat) (j:Nat) (h:j<f.length):sums out (f.take (j+1))=nV (sums out (f.take j)) (out.getD (f.getD j 0) 0):=by
 unfold sums;rw[List.take_succ_eq_append_getElem h,List.foldl_append];simp[List.getD_eq_getElem?_getD,List.getElem?_eq_getElem h]
theorem WH {k:Wk} {s:SS} (h:s.WF) (out:List Nat) (i:Nat):uX k s out i<2199023255552:=by
 unfold uX;split
 ·exact h.fZ i
 ·exact Nat.lt_of_le_of_lt Nat.and_le_left (h.fZ i)
theorem Xp {k:Wk} {s:SS} (h:s.WF) (m x:Nat):(mJ k s m).getD x 0<2199023255552:=by
 induction m with
 |zero =>
  rw[List.getD_eq_getElem?_getD,mJ,List.getElem?_replicate];split<;>decide
 | succ m ih =>
  rw[mJ,List.getD_eq_getElem?_getD,List.getElem?_set];split
  ·split
   ·exact WH h _ _
   ·decide
  ·rw[<- List.getD_eq_getElem?_getD];exact ih
theorem Vx (h:∀ x,l.getD x 0<2199023255552) (hm:m<2199023255552) (i x:Nat):(l.set i m).getD x 0<2199023255552:=by
 rw[List.getD_eq_getElem?_getD,List.getElem?_set];split
 ·split
  ·exact hm
  ·decide
 ·rw[<- List.getD_eq_getElem?_getD];exact h x
theorem wF (h:i<l.length):(mM l)[i]? = some (.int .u64 (l.getD i 0:Nat)):=by
 simp[mM,List.getElem?_map,List.getElem?_eq_getElem h,List.getD_eq_getElem?_getD]
def settle (k:Wk) (s:SS):Option Nat:=(List.range k.n).reverse.find? fun i=>(up k s).getD i 0 == 0
def can (k:Wk) (s:SS):Bool:=(settle k s).isNone
def lN (k:Wk) (s:SS):Value:=match settle k s with|none=>.nilIface|some i=>.iface 152 (.agg #[.int .i64 (i:Int)])
theorem MH {k:Wk} {s:SS} {i:Nat} (h:i<k.n) (h0:(up k s).getD i 0=0) (h1:∀ j,i<j->j<k.n->(up k s).getD j 0≠0):settle k s=some i:=by
 unfold settle;have key:∀ n,i<n->(∀ j,i<j->j<n->(up k s).getD j 0≠0)->(List.range n).reverse.find? (fun i=>(up k s).getD i 0 == 0)=some i:=by
  intro n
  induction n with
  |zero=>omega
  | succ n ih =>
   intro hn hj;rw[List.range_succ,List.reverse_append];simp only[List.reverse_cons,List.reverse_nil,List.nil_append,List.cons_append,List.find?_cons];by_cases hin:i=n
   ·subst hin;simp only[h0,beq_self_eq_true]
   ·have hz:((up k s).getD n 0 == 0)=false:=by rw [beq_eq_false_iff_ne];exact hj n (by omega) (by omega)
    rw[hz];exact ih (by omega) fun j h2 h3=>hj j h2 (by omega)
 exact key k.n h h1
theorem J5 {k:Wk} {s:SS} (h1:∀ j,j<k.n->(up k s).getD j 0≠0):settle k s=none:=by
 unfold settle;rw[List.find?_eq_none];intro j hj;have:j<k.n:=by simpa using hj
 simpa using h1 j this
def lS (k:Wk):Nat->SS
 |0=>⟨List.replicate 6 0,List.replicate 6 (0,0)⟩
 |i+1=>((lS k i).cu i (dO 0 (k.v i).room)).eu i ((k.v i).lo,(k.v i).hi)
def lU (b:je->Bool) (s:SS) (r:je):SS:=if b r then s else s.cu r.vessel.toNat (s.aK r.vessel.toNat &&& dO (r.shown-r.err) (r.shown+r.err))
def aN (k:Wk) (b:je->Bool):SS:=k.rdg.foldl (lU b) (lS k k.n)
def aC (_:je):Bool:=false
theorem nX (k:Wk) (i:Nat):(lS k i).WF:=by
 induction i with
 |zero=>exact⟨by simp[lS],by simp[lS],fun m hm=>by simp[lS]at hm;omega⟩
 |succ i ih=>exact(ih.cu (rG _ _)).eu
theorem J7 {b:je->Bool} {s:SS} (h:s.WF) (r:je):(lU b s r).WF:=by
 unfold lU;split
 ·exact h
 ·exact h.cu (Nat.lt_of_le_of_lt Nat.and_le_left (h.fZ _))
theorem Vf {b:je->Bool} {s:SS} (h:s.WF) (l:List je):(l.foldl (lU b) s).WF:=by
 induction l generalizing s with
 |nil=>exact h
 |cons r l ih=>exact ih (J7 h r)
theorem gG (k:Wk) (b:je->Bool):(aN k b).WF:=Vf (nX k _) _
def je.Ok (n:Nat) (r:je):Prop:=0<=r.vessel/\r.vessel<n/\0<=r.scale/\r.scale<=2/\0<=r.shown/\r.shown<=60/\0<=r.err/\r.err<=9
def nN.Ok (i:Nat) (v:nN):Prop:=-1<=v.from_/\v.from_<i/\0<=v.room/\v.room<=40/\0<=v.lo/\v.lo<=20/\0<=v.hi/\v.hi<=20/\v.lo<=v.hi
structure Wk.Ok (k:Wk):Prop where
 pos:0<k.n
 le:k.n<=6
 ves:∀ i,i<k.n->(k.v i).Ok i
 rdl:k.rdg.length<=6
 rdg:∀ i,i<k.rdg.length->(k.rdg.getD i default).Ok k.n
theorem KX (s:SS) (h:s.WF) (i:Nat) (hi:i<6) (x y:Int):splice (dJ s) (6+i * 2) [.int .i64 x,.int .i64 y]=dJ (s.eu i (x,y)):=by
 have e1:=TP h hi x;have h':(s.eu i (x,(s.aP i).2)).WF:=h.eu;have e2:=He h' hi y;rw[<- e1]at e2;have e3:(s.eu i (x,(s.aP i).2)).eu i (((s.eu i (x,(s.aP i).2)).aP i).1,y)=s.eu i (x,y):=by
  have hl:i<s.los.length:=by rw[h.los];exact hi
  simp[SS.eu,SS.aP,hl]
 rw[e3]at e2;rw[<- e2];have hl:(dJ s).length=18:=dG h;unfold splice;apply List.ext_getElem?;intro j;simp only[List.length_cons,List.length_nil,List.append_assoc,List.getElem?_append,List.length_take,hl,List.getElem?_take,List.getElem?_drop,List.getElem?_set,List.length_set];have e4:min (6+i * 2) 18=6+i * 2:=by omega
 rw[e4];by_cases h1:j<6+i * 2
 ·simp[h1,show ¬ 6+i * 2=j by omega,show ¬ 6+i * 2+1=j by omega]
 ·simp only [h1,if_false];by_cases h2:j=6+i * 2
  ·subst h2;simp;omega
  ·by_cases h3:j=6+i * 2+1
   ·subst h3;simp[show 6+i * 2+1-(6+i * 2)=1 by omega];omega
   ·have:¬ j - (6+i * 2) < 0+1+1:=by omega
    simp only[this,if_false,show ¬ 6+i * 2=j by omega,show ¬ 6+i * 2+1=j by omega];congr 1;omega
theorem nN.one (v:nN):∀ x∈v.cells,x.oneCell'=true:=by
 intro x hx;simp only[nN.cells,List.mem_cons,List.not_mem_nil,or_false]at hx;rcases hx with rfl|rfl|rfl|rfl<;>rfl
theorem je.one (v:je):∀ x∈v.cells,x.oneCell'=true:=by
 intro x hx;simp only[je.cells,List.mem_cons,List.not_mem_nil,or_false]at hx;rcases hx with rfl|rfl|rfl|rfl<;>rfl
def bZ (k:Wk) (s:SS) (v:Nat):Nat->Int × Int
 |0=>(40,0)
 |m+1=>if can k (s.weighed v (m:Nat)) then(min (bZ k s v m).1 m,m) else bZ k s v m
def aO (k:Wk) (s:SS) (v:Nat):Int × Int:=bZ k s v 41
def aeJ (k:Wk) (s:SS) (v:Nat):Nat->Int × Int
 |0=>((s.aP v).2,(s.aP v).1)
 |m+1=>if can k (s.eu v ((s.aP v).1+m,(s.aP v).1+m)) then(min (aeJ k s v m).1 ((s.aP v).1+m),max (aeJ k s v m).2 ((s.aP v).1+m)) else aeJ k s v m
def aal (k:Wk) (s:SS) (v:Nat):Int × Int:=if k.fills v=[] then(0,0) else aeJ k s v ((s.aP v).2-(s.aP v).1+1).toNat
def jP (s:SS) (v:Nat) (n:Nat):SS:=s.eu v ((s.aP v).1,(s.aP v).2+n)
def zn (k:Wk) (v:Nat):Option Nat:=(List.range 41).find? fun n=>can k (jP (aN k aC) v n)
def aJ (p:Int × Int):Value:=.agg #[.int .i64 p.1,.int .i64 p.2]
theorem qE (k:Wk) (s:SS) (v m:Nat) (hm:m<=41):0<=(bZ k s v m).1/\(bZ k s v m).1<=40/\0<=(bZ k s v m).2/\(bZ k s v m).2<=40:=by
 induction m with
 |zero=>simp only[bZ];omega
 |succ m ih =>
  have:=ih (by omega);rw[bZ];split
  ·simp only;omega
  ·exact this
theorem SS.JD (s:SS) (i:Nat) (p q:Int × Int):(s.eu i p).eu i q=s.eu i q:=by simp[SS.eu]
theorem SS.zx (s:SS) (hs:s.WF) (i:Nat) (hi:i<6) (p:Int × Int):(s.eu i p).aP i=p:=by
 have:i<s.los.length:=by rw[hs.los];exact hi
 simp[SS.eu,SS.aP,this]
theorem L6 {l:List Value} {a b:Value} (h1:l[i]? = some a) (h2:l[i+1]? = some b):(l.drop i).take 2=[a,b]:=by
 obtain⟨hi,rfl⟩:=List.getElem?_eq_some_iff.1 h1;obtain⟨hj,rfl⟩:=List.getElem?_eq_some_iff.1 h2;rw[List.drop_eq_getElem_cons hi,List.drop_eq_getElem_cons hj];rfl
theorem UR {s:SS} (h:s.WF) (hi:i<6):((dJ s).drop (6+i * 2)).take 2=[.int .i64 (s.aP i).1,.int .i64 (s.aP i).2]:=L6 (Us h hi) (Pm h hi)
theorem OI {s:SS} (hs:s.WF) {v:Nat} (hv:v<6) (n:Nat):(jP s v n).eu v (((jP s v n).aP v).1,((jP s v n).aP v).2+1)=jP s v (n+1):=by
 unfold jP;rw[SS.JD,SS.zx s hs v hv];congr 2;show(s.aP v).2+(n:Int)+1=(s.aP v).2+((n+1:Nat):Int);omega
theorem OQ {s:SS} (hs:s.WF) {v:Nat} (hv:v<6):jP s v 0=s:=by
 unfold jP SS.eu SS.aP;have:v<s.los.length:=by rw[hs.los];exact hv
 cases s with
 |mk lim los =>
  simp only[SS.mk.injEq,true_and];simp only at this;rw[List.getD_eq_getElem?_getD,List.getElem?_eq_getElem this];simp only[Option.getD_some,Int.natCast_zero,Int.add_zero];exact List.set_getElem_self this
theorem Xc {s:SS} (hs:s.WF) (v n:Nat):(jP s v n).WF:=hs.eu
def bC:List Int->Int
 | []=>0
 |e::l=>if e=0 then bC l else e
def bI (b:Bool) (e:Int):Int:=if b then 0 else e
def fQ (n lo hi:Int):Bool:=decide (n<lo) || decide (hi<n)
def Le (i:Nat) (v:nN):Int :=
 bC [bI (!fQ v.from_ (-1) (i-1)) 3,bI (!fQ v.room 0 40) 1,bI (!fQ v.lo 0 20 && !fQ v.hi 0 20) 1,bI (decide (v.lo<=v.hi)) 5]
def KD (n:Nat) (r:je):Int:=bC [bI (!fQ r.vessel 0 (n-1) && !fQ r.scale 0 2) 3,bI (!fQ r.shown 0 60 && !fQ r.err 0 9) 1]
def wo (k:Wk) (m:Nat):Int:=bC ((List.range m).map fun i=>Le i (k.v i))
def uz (k:Wk) (m:Nat):Int:=bC ((List.range m).map fun i=>KD k.n (k.rdg.getD i default))
def nS (k:Wk):Int :=
 bC [bC [bI (decide (0<k.n)) 7,bI (decide (k.n<=6)) 6],wo k k.n,if 6<k.rdg.length then 6 else 0,uz k k.rdg.length]
theorem mV (a b:List Int):bC (a ++ b)=if bC a=0 then bC b else bC a:=by
 induction a with
 |nil=>simp[bC]
 |cons e a ih =>
  simp only[List.cons_append,bC];by_cases h:e=0
  ·simp only[h,if_true];exact ih
  ·simp only[h,if_false]
theorem D8 (k:Wk) (m:Nat):wo k (m+1)=if wo k m=0 then Le m (k.v m) else wo k m:=by
 unfold wo;rw[List.range_succ,List.map_append,mV];simp only[List.map_cons,List.map_nil,bC];congr 1;split
 ·rename_i h;exact h.symm
 ·rfl
theorem Et (k:Wk) (m:Nat):uz k (m+1)=if uz k m=0 then KD k.n (k.rdg.getD m default) else uz k m:=by
 unfold uz;rw[List.range_succ,List.map_append,mV];simp only[List.map_cons,List.map_nil,bC];congr 1;split
 ·rename_i h;exact h.symm
 ·rfl
theorem Ri {k:Wk} {m n:Nat} (h:m<n) (h0:wo k m=0) (h1:Le m (k.v m)≠0):wo k n=Le m (k.v m):=by
 induction n with
 |zero=>omega
 |succ n ih =>
  rw[D8];by_cases hn:m=n
  ·subst hn;rw[if_pos h0]
  ·have:=ih (by omega);rw[if_neg (by rw[this];exact h1),this]
theorem Ru {k:Wk} {m n:Nat} (h:m<n) (h0:uz k m=0) (h1:KD k.n (k.rdg.getD m default)≠0):uz k n=KD k.n (k.rdg.getD m default):=by
 induction n with
 |zero=>omega
 |succ n ih =>
  rw[Et];by_cases hn:m=n
  ·subst hn;rw[if_pos h0]
  ·have:=ih (by omega);rw[if_neg (by rw[this];exact h1),this]
def sO (a b:Int × Int):Int × Int:=(min a.1 b.1,max a.2 b.2)
def dX (a b:Int × Int):Int × Int:=(a.1+b.1,a.2+b.2)
structure Gr where
 at_:List (Int × Int)
 has:Nat
structure Gr.WF (g:Gr):Prop where
 len:g.at_.length=41
 small:g.has<2199023255552
def Gr.empty:Gr:=⟨List.replicate 41 (0,0),0⟩
def Gr.get (g:Gr) (n:Nat):Int × Int:=g.at_.getD n (0,0)
def Gr.add (g:Gr) (n:Nat) (v:Int × Int):Gr:=⟨g.at_.set n (if g.has.testBit n then sO (g.get n) v else v),g.has ||| 2 ^ n⟩
def UW:Value:=.func (.func 126) #[] #[]
def sJ (g:Gr):List Value:=pY g.at_ ++ [.int .u64 (g.has:Nat),UW]
theorem Gr.uQ:Gr.empty.WF:=⟨by simp[Gr.empty],by decide⟩
theorem Gr.WF.add {g:Gr} (h:g.WF) {n:Nat} (hn:n<41) (v:Int × Int):(g.add n v).WF:=by
 refine⟨by simp[Gr.add,h.len],?_⟩;have h2:(2:Nat) ^ n<2 ^ 41:=Nat.pow_lt_pow_right (by omega) hn;have h1:=h.small;have:g.has ||| 2 ^ n<2 ^ 41:=Nat.or_lt_two_pow (by omega) h2;show g.has ||| 2 ^ n<2199023255552;omega
theorem IE {g:Gr} (h:g.WF):(sJ g).length=84:=by simp[sJ,eU,h.len]
theorem sN {g:Gr} (h:g.WF):(sJ g)[82]? = some (.int .u64 (g.has:Nat)):=by
 unfold sJ;rw[List.getElem?_append_right (by simp[eU,h.len])];simp[eU,h.len]
theorem Wy {g:Gr} (h:g.WF):(sJ g)[83]? = some UW:=by
 unfold sJ;rw[List.getElem?_append_right (by simp[eU,h.len])];simp[eU,h.len]
theorem Fb {g:Gr} (h:g.WF) {n:Nat} (hn:n<41):((sJ g).drop (n * 2)).take 2=[.int .i64 (g.get n).1,.int .i64 (g.get n).2]:=by
 have h1:=Ee g.at_ n (by rw[h.len];exact hn);refine L6 ?_ ?_
 ·unfold sJ;rw[List.getElem?_append_left (by simp[eU,h.len];omega)];exact h1.1
 ·unfold sJ;rw[List.getElem?_append_left (by simp[eU,h.len];omega)];exact h1.2
theorem La (l:List (Int × Int)) (i:Nat) (h:i<l.length) (p:Int × Int) (r:List Value):splice (pY l ++ r) (i * 2) [.int .i64 p.1,.int .i64 p.2]=pY (l.set i p) ++ r:=by
 induction l generalizing i with
 |nil=>simp at h
 | cons q l ih =>
  cases i with
  |zero=>simp[pY,splice]
  |succ i =>
   have:=ih i (by simpa using h);simp only[pY,List.flatMap_cons,List.cons_append,List.nil_append,splice,List.set_cons_succ]at this |-;rw[show(i+1) * 2=i * 2+1+1 by omega];simp only[List.take_succ_cons,List.drop_succ_cons,List.cons_append,List.length_cons,List.length_nil]at this |-;rw[<- this]
theorem Ht {g:Gr} (h:g.WF) {n:Nat} (hn:n<41) (p:Int × Int):splice (sJ g) (n * 2) [.int .i64 p.1,.int .i64 p.2]=sJ ⟨g.at_.set n p,g.has⟩:=by
 unfold sJ;exact La _ _ (by rw[h.len];exact hn) _ _
theorem Dn {g:Gr} (h:g.WF) (m:Nat):(sJ g).set 82 (.int .u64 (m:Nat))=sJ ⟨g.at_,m⟩:=by
 unfold sJ;rw[List.set_append_right _ _ (by simp[eU,h.len])];simp[eU,h.len]
def lY (s:SS) (st:Bool) (i:Nat):Nat->Gr
 |0=>Gr.empty
 |m+1=>if (s.aK i).testBit m then(lY s st i m).add m (if st then((m:Int),(m:Int)) else(0,0)) else lY s st i m
def rM (a b:Gr) (x:Nat) (g:Gr):Nat->Gr
 |0=>g
 |m+1=>if a.has.testBit x && b.has.testBit m then(rM a b x g m).add (x+m) (dX (a.get x) (b.get m)) else rM a b x g m
def ku (a b:Gr):Nat->Gr
 |0=>Gr.empty
 |x+1=>rM a b x (ku a b x) (41-x)
def pR (a b:Gr):Gr:=ku a b 41
def iO (sums:Gr) (lim:Nat) (st:Bool) (lo:Int) (x:Nat) (g:Gr):Nat->Gr
 |0=>g
 |m+1=>if sums.has.testBit x && lim.testBit (x+(lo+m).toNat) then(iO sums lim st lo x g m).add (x+(lo+m).toNat) (if st then sums.get x else dX (sums.get x) (lo+m,lo+m)) else iO sums lim st lo x g m
def qY (lo hi:Int) (x:Nat):Nat:=(min hi (40-x)-lo+1).toNat
def jY (sums:Gr) (lim:Nat) (st:Bool) (lo hi:Int):Nat->Gr
 |0=>Gr.empty
 |x+1=>iO sums lim st lo x (jY sums lim st lo hi x) (qY lo hi x)
def jm (k:Wk) (s:SS) (st:Bool):Nat->Nat->Gr
 |0,_=>Gr.empty
 |f+1,i =>
  if k.fills i=[] then lY s st i 41
  else jY ((k.fills i).foldl (fun sm x=>pR sm (jm k s st f x)) (Gr.empty.add 0 (0,0))) (s.aK i) st (s.aP i).1 (s.aP i).2 41
def Qg (k:Wk) (s:SS) (st:Bool) (i:Nat):Gr:=jm k s st (k.n-i) i
def gy (g:Gr):Nat->Option (Int × Int)
 |0=>none
 |n+1=>if g.has.testBit n then some (match gy g n with|none=>g.get n|some r=>sO r (g.get n)) else gy g n
def kX (k:Wk) (s:SS) (st:Bool) (i:Nat):Int × Int:=(gy (Qg k s st i) 41).getD (0,0)
def Wk.sources (k:Wk):List Nat:=(List.range k.n).filter fun i=>decide ((k.v i).from_<0)
def dW (k:Wk) (s:SS) (st:Bool):Int × Int:=k.sources.foldl (fun t i=>dX t (kX k s st i)) (0,0)
theorem GY (s:SS) (st:Bool) (i m:Nat) (hm:m<=41):(lY s st i m).WF:=by
 induction m with
 |zero=>exact Gr.uQ
 |succ m ih =>
  rw[lY];split
  ·exact(ih (by omega)).add (by omega) _
  ·exact ih (by omega)
theorem MF (a b:Gr) (x:Nat) {g:Gr} (hg:g.WF) (m:Nat) (hm:x+m<=41):(rM a b x g m).WF:=by
 induction m with
 |zero=>exact hg
 |succ m ih =>
  rw[rM];split
  ·exact(ih (by omega)).add (by omega) _
  ·exact ih (by omega)
theorem Gu (a b:Gr) (x:Nat) (hx:x<=41):(ku a b x).WF:=by
 induction x with
 |zero=>exact Gr.uQ
 |succ x ih =>
  rw[ku];exact MF a b x (ih (by omega)) _ (by omega)
theorem Vd (a b:Gr):(pR a b).WF:=Gu a b 41 (by omega)
theorem Ed (sums:Gr) (lim:Nat) (st:Bool) (lo:Int) (hlo:0<=lo) (x:Nat) {g:Gr} (hg:g.WF) (m:Nat) (hm:x+lo+m<=41):(iO sums lim st lo x g m).WF:=by
 induction m with
 |zero=>exact hg
 |succ m ih =>
  rw[iO];split
  ·exact(ih (by omega)).add (by omega) _
  ·exact ih (by omega)
theorem Ej (sums:Gr) (lim:Nat) (st:Bool) (lo hi:Int) (hlo:0<=lo) (x:Nat) (hx:x<=41):(jY sums lim st lo hi x).WF:=by
 induction x with
 |zero=>exact Gr.uQ
 |succ x ih =>
  rw[jY];have ihx:=ih (by omega);by_cases h0:qY lo hi x=0
  ·rw[h0];exact ihx
  ·refine Ed _ _ _ _ hlo _ ihx _ ?_;unfold qY at h0 |-;omega
theorem Du (k:Wk) (s:SS) (st:Bool) (hlo:∀ i,0<=(s.aP i).1) (f i:Nat):(jm k s st f i).WF:=by
 cases f with
 |zero=>exact Gr.uQ
 |succ f =>
  rw[jm];split
  ·exact GY s st i 41 (by omega)
  ·exact Ej _ _ _ _ _ (hlo i) 41 (by omega)
def Pb (c:Int) (p:Int × Int):Prop:=-c<=p.1/\p.1<=c/\-c<=p.2/\p.2<=c
def Gr.Bd (g:Gr) (c:Int):Prop:=∀ p∈g.at_,Pb c p
theorem Pb.mono (h:Pb c p) (hd:c<=d):Pb d p:=by unfold Pb at *;omega
theorem Gr.Bd.mono {g:Gr} (h:g.Bd c) (hd:c<=d):g.Bd d:=fun p hp=>(h p hp).mono hd
theorem Gr.Bd.get {g:Gr} (h:g.Bd c) (hc:0<=c) (n:Nat):Pb c (g.get n):=by
 unfold Gr.get;rw[List.getD_eq_getElem?_getD];cases hg:g.at_[n]? with
 |none=>unfold Pb;simp;omega
 |some p=>exact h p (List.mem_of_getElem? hg)
theorem Gr.sH:Gr.empty.Bd 0:=fun p hp=>by
 simp[Gr.empty]at hp;subst hp;unfold Pb;simp
theorem Pb.wider (h:Pb c p) (k:Pb c q):Pb c (sO p q):=by unfold Pb sO at *;simp only;omega
theorem Pb.both (h:Pb c p) (k:Pb d q):Pb (c+d) (dX p q):=by unfold Pb dX at *;simp only;omega
theorem Gr.Bd.add {g:Gr} (h:g.Bd c) (hc:0<=c) (n:Nat) {v:Int × Int} (hv:Pb c v):(g.add n v).Bd c:=fun p hp=>by
 rcases List.mem_or_eq_of_mem_set hp with hp|rfl
 ·exact h p hp
 ·split
  ·exact(h.get hc n).wider hv
  ·exact hv
theorem Rl (s:SS) (st:Bool) (i m:Nat) (hm:m<=41):(lY s st i m).Bd 40:=by
 induction m with
 |zero=>exact Gr.sH.mono (by decide)
 | succ m ih =>
  rw[lY];split
  ·refine (ih (by omega)).add (by decide) _ ?_;split
   ·unfold Pb;simp only;omega
   ·unfold Pb;simp
  ·exact ih (by omega)
theorem WC {a b g:Gr} {ca cb:Int} (ha:a.Bd ca) (hb:b.Bd cb) (h1:0<=ca) (h2:0<=cb) (x:Nat) (hg:g.Bd (ca+cb)) (m:Nat):(rM a b x g m).Bd (ca+cb):=by
 induction m with
 |zero=>exact hg
 |succ m ih =>
  rw[rM];split
  ·exact ih.add (by omega) _ ((ha.get h1 x).both (hb.get h2 m))
  ·exact ih
theorem RF {a b:Gr} {ca cb:Int} (ha:a.Bd ca) (hb:b.Bd cb) (h1:0<=ca) (h2:0<=cb) (x:Nat):(ku a b x).Bd (ca+cb):=by
 induction x with
 |zero=>exact Gr.sH.mono (by omega)
 |succ x ih=>rw[ku];exact WC ha hb h1 h2 x ih _
theorem Jc {F:Nat->Gr} {c:Int} (hc:0<=c):∀ (l:List Nat) (g:Gr) (d:Int),0<=d->g.Bd d->(∀ x∈l,(F x).Bd c)->(l.foldl (fun sm x=>pR sm (F x)) g).Bd (d+l.length * c)
 | [],g,d,_,h,_=>by simpa using h
 |x::l,g,d,hd,h,hl=>by
  have:=Jc hc l (pR g (F x)) (d+c) (by omega) (RF h (hl x (by simp)) hd hc 41) fun y hy=>hl y (by simp[hy])
  refine this.mono ?_;rw[List.length_cons,Int.natCast_add,Int.add_mul];simp;omega
theorem NS {sums g:Gr} {c:Int} (hs:sums.Bd c) (hc:0<=c) (lim:Nat) (st:Bool) (lo:Int) (hlo:0<=lo) (x:Nat) (hg:g.Bd (c+40)) (m:Nat) (hm:lo+m<=41):(iO sums lim st lo x g m).Bd (c+40):=by
 induction m with
 |zero=>exact hg
 | succ m ih =>
  have ih:=ih (by omega);rw[iO];split
  ·refine ih.add (by omega) _ ?_;split
   ·exact(hs.get hc x).mono (by omega)
   ·exact(hs.get hc x).both (by unfold Pb;simp only;omega)
  ·exact ih
theorem Pj {sums:Gr} {c:Int} (hs:sums.Bd c) (hc:0<=c) (lim:Nat) (st:Bool) (lo hi:Int) (hlo:0<=lo) (x:Nat):(jY sums lim st lo hi x).Bd (c+40):=by
 induction x with
 |zero=>exact Gr.sH.mono (by omega)
 |succ x ih =>
  rw[jY];by_cases h0:qY lo hi x=0
  ·rw[h0];exact ih
  ·refine NS hs hc _ _ _ hlo _ ih _ ?_;unfold qY at h0 |-;omega
theorem wL (k:Wk) (i:Nat):(k.fills i).length<=k.n:=by
 have:=List.length_filter_le (fun j=>(k.v j).from_ == (i:Int)) (List.range k.n)
 rwa [List.length_range]at this
theorem D9 (k:Wk) (hk:k.n<=6) (s:SS) (st:Bool) (hlo:∀ i,0<=(s.aP i).1) (f i:Nat):(jm k s st f i).Bd (100 * 7 ^ f):=by
 induction f generalizing i with
 |zero=>exact Gr.sH.mono (by decide)
 | succ f ih =>
  have hp:(0:Int)<7 ^ f:=Int.pow_pos (by decide);have e:(100 * 7 ^ (f+1):Int)=700 * 7 ^ f:=by rw[Int.pow_succ];omega
  rw[jm,e];split
  ·exact(Rl s st i 41 (by omega)).mono (by omega)
  ·have h1:=Jc (F:=fun x=>jm k s st f x) (c:=100 * 7 ^ f) (by omega) (k.fills i) (Gr.empty.add 0 (0,0)) 0 (by decide) (Gr.sH.add (by decide) 0 (by unfold Pb;simp)) fun x _=>ih x
   have hl:=wL k i;have h2:((k.fills i).length:Int) * (100 * 7 ^ f)<=6 * (100 * 7 ^ f):=Int.mul_le_mul_of_nonneg_right (by omega) (by omega);exact(Pj (h1.mono (d:=600 * 7 ^ f) (by omega)) (by omega) _ _ _ _ (hlo i) 41).mono (by omega)
end Go.Wg
namespace Go.Mm
open Go
class Jf (L' L:List dF):Prop where
 ok:L'.Sublist L
instance Jf.nil {L:List dF}:Jf [] L:=⟨List.nil_sublist _⟩
instance Jf.skip {e:dF} {L' L:List dF} [h:Jf L' L]:Jf L' (e::L):=⟨h.ok.cons e⟩
instance Jf.cons {e:dF} {L' L:List dF} [h:Jf L' L]:Jf (e::L') (e::L):=⟨h.ok.cons_cons e⟩
theorem St.aG {w0 w:World} {X:List Nat} {V:View} {L L':List dF} (h:St w0 X V L w) [hs:Jf L' L]:St w0 X V L' w:=h.sub hs.ok
variable {P:Program}
section
variable {b i j k n:Nat} {x y:Operand} {t ty:TypeId} {cs:List Value}
variable {w0:World} {X:List Nat} {V:View} {L:List dF} {w:World}
variable {l:List Oper} {md:Region.Mode} {o:Oper} {a:Act} {Q:Exit->Act->World->Prop} {S:World->Prop} {fuel:Nat} {listed:Array Bool}
theorem bF {id:Nat} {l:List Oper} (bs:List Bool) (hb:bs=List.replicate l.length false) (hm:P.follows .mixedOrders=true)
 (h:wpAnyH P .any l.toArray Q S l.length bs.toArray a {w with drawn:=w.drawn+1}):(Code.region id l.toArray true).wp P Q a w:=by
 subst hb;refine wp_region_held (S:=S) hm ?_;have e:(List.replicate l.length false).toArray=Array.replicate l.toArray.size false:=by apply Array.ext';simp
 rw[e]at h;simpa using h
theorem jV (h:l[i]? = some o):l.toArray[i]? = some o:=by simpa using h
theorem aar (i:Nat) (hi₀:l[i]? = some o) (hs:Region.noSelect l.toArray=true) (hf:Region.free md l.toArray listed i=true) (hr:(Region.ready md l.toArray listed).contains i=true)
 (ho:o.op=.move x) {v:Value} (hx:kV a x=some v) (hQ:∀ c a w,Q (.panic c) (a.put o.dst v) w->Q (.panic c) a w) (hw:Region.wanted o (yielded l.toArray a.tmps)=true) (hS:S w)
 (h:∀ a' l',a.put o.dst v=a'->listed.setIfInBounds i true=l'->wpAnyH P md l.toArray Q S fuel l' a' w):wpAnyH P md l.toArray Q S (fuel+1) listed a w :=
 wpAnyH_take (jV hi₀) hs hf hr hQ (.inl ⟨hw,fun w _=>by have:=gU hx;exact this ▸ BigFrame.run_move x ho w⟩) hS (h _ _ rfl rfl)
theorem dw (i:Nat) (hi₀:l[i]? = some o) (hs:Region.noSelect l.toArray=true) (hf:Region.free md l.toArray listed i=true) (hr:(Region.ready md l.toArray listed).contains i=true)
 (hQ:∀ v c a w,Q (.panic c) (a.put o.dst v) w->Q (.panic c) a w) (hw:Region.wanted o (yielded l.toArray a.tmps)=true) (hS:S w)
 (h:∃ v,(∀ w,(execOp a.eval o).run P w=.ok (.value v) w)/\∀ a' l',a.put o.dst v=a'->listed.setIfInBounds i true=l'->wpAnyH P md l.toArray Q S fuel l' a' w):wpAnyH P md l.toArray Q S (fuel+1) listed a w:=by
 obtain⟨v,hv,h⟩:=h;exact wpAnyH_take (jV hi₀) hs hf hr (hQ v) (.inl ⟨hw,fun w _=>hv w⟩) hS (h _ _ rfl rfl)
theorem aaR (i:Nat) (hi₀:l[i]? = some o) (hs:Region.noSelect l.toArray=true) (hf:Region.free md l.toArray listed i=true) (hr:(Region.ready md l.toArray listed).contains i=true)
 (hQ:∀ v c a w,Q (.panic c) (a.put o.dst v) w->Q (.panic c) a w) (hw:Region.wanted o (yielded l.toArray a.tmps)=true) (hS:St w0 X V L w)
 (ho:o.op=.load ty x) (hx:a.eval x=.pointer (some ⟨b,k,none⟩)) [hj:Hs L b j t cs] [hty:iR P ty]
 (h:∃ v,cs[k]? = some v/\∀ a' l',a.put o.dst v=a'->listed.setIfInBounds i true=l'->wpAnyH P md l.toArray Q (St w0 X V L) fuel l' a' w):wpAnyH P md l.toArray Q (St w0 X V L) (fuel+1) listed a w:=by
 obtain⟨v,hv,h⟩:=h;exact wpAnyH_take (jV hi₀) hs hf hr (hQ v) (TU ho j hw hx hj.ok hty.ok hv) hS (h _ _ rfl rfl)
theorem aaC (i:Nat) (hi₀:l[i]? = some o) (hs:Region.noSelect l.toArray=true) (hf:Region.free md l.toArray listed i=true) (hr:(Region.ready md l.toArray listed).contains i=true)
 (hQ:∀ v c a w,Q (.panic c) (a.put o.dst v) w->Q (.panic c) a w) (hw:Region.wanted o (yielded l.toArray a.tmps)=true) (hS:St w0 X V L w)
 (ho:o.op=.load ty x) (hx:a.eval x=.pointer (some ⟨b,k,none⟩)) [hj:Hs L b j t cs] [hty:jS P ty n]
 (h:∃ vs,PartOf cs k n vs/\∀ a' l',a.put o.dst (.agg vs.toArray)=a'->listed.setIfInBounds i true=l'->wpAnyH P md l.toArray Q (St w0 X V L) fuel l' a' w):wpAnyH P md l.toArray Q (St w0 X V L) (fuel+1) listed a w:=by
 obtain⟨v,hv,h⟩:=h;exact wpAnyH_take (jV hi₀) hs hf hr (hQ _) (RN ho j hw hx hj.ok hty.ok hv.part hv.len) hS (h _ _ rfl rfl)
theorem aax (i:Nat) (hi₀:l[i]? = some o) (hs:Region.noSelect l.toArray=true) (hf:Region.free md l.toArray listed i=true) (hr:(Region.ready md l.toArray listed).contains i=true)
 (hQ:∀ v c a w,Q (.panic c) (a.put o.dst v) w->Q (.panic c) a w) (hw:Region.wanted o (yielded l.toArray a.tmps)=true) (hS:St w0 X V L w)
 (ho:o.op=.load ty x) (hx:a.eval x=.pointer (some ⟨b,k,none⟩)) [hty:iR P ty]
 (h:∃ v,V.Cell b k v/\∀ a' l',a.put o.dst v=a'->listed.setIfInBounds i true=l'->wpAnyH P md l.toArray Q (St w0 X V L) fuel l' a' w):wpAnyH P md l.toArray Q (St w0 X V L) (fuel+1) listed a w:=by
 obtain⟨v,hv,h⟩:=h;exact wpAnyH_take (jV hi₀) hs hf hr (hQ v) (PE ho hw hx hty.ok hv) hS (h _ _ rfl rfl)
theorem acU (i:Nat) (hi₀:l[i]? = some o) (hs:Region.noSelect l.toArray=true) (hf:Region.free md l.toArray listed i=true) (hr:(Region.ready md l.toArray listed).contains i=true)
 (hQ:∀ v c a w,Q (.panic c) (a.put o.dst v) w->Q (.panic c) a w) (hw:Region.wanted o (yielded l.toArray a.tmps)=true) (hS:St w0 X V L w)
 (ho:o.op=.load ty x) (hx:a.eval x=.pointer (some ⟨b,k,none⟩)) [hty:jS P ty n]
 (h:∃ vs,(V.Range b k vs/\vs.length=n)/\∀ a' l',a.put o.dst (.agg vs.toArray)=a'->listed.setIfInBounds i true=l'->wpAnyH P md l.toArray Q (St w0 X V L) fuel l' a' w):wpAnyH P md l.toArray Q (St w0 X V L) (fuel+1) listed a w:=by
 obtain⟨v,hv,h⟩:=h;exact wpAnyH_take (jV hi₀) hs hf hr (hQ _) (acg ho hw hx hty.ok hv.1 hv.2) hS (h _ _ rfl rfl)
theorem mG (hr:Region.ready md l.toArray listed=[i]) (h:wpOp P l.toArray Q i (fun a' w'=>S w'/\wpAnyH P md l.toArray Q S fuel (listed.setIfInBounds i true) a' w') a w):wpAnyH P md l.toArray Q S (fuel+1) listed a w :=
 wpAnyH_all hr (by simp) fun k hk=>by rw[List.mem_singleton]at hk;subst hk;exact h
theorem jl (i:Nat) (hr:Region.ready md l.toArray listed=[i]) (hi₀:l[i]? = some o) (hS:St w0 X V L w) (hw:Region.wanted o (yielded l.toArray a.tmps)=true) (ho:o.op=.store ty x y)
 (hx:a.eval x=.pointer (some ⟨b,k,none⟩)) [hj:Hs L b j t cs] [hty:iR P ty]
  (h:∃ v,(kV a y=some v/\v.oneCell'=true/\k<cs.length)/\∀ a' l',a.put o.dst undef=a'->listed.setIfInBounds i true=l'->∀ w',St w0 X V (L.set j (.blk b t (cs.set k v))) w'->S w'/\wpAnyH P md l.toArray Q S fuel l' a' w'):wpAnyH P md l.toArray Q S (fuel+1) listed a w:=by
 obtain⟨v,⟨hy,h1,h2⟩,h⟩:=h;exact mG hr (PS hS (jV hi₀) hw ho j hx hj.ok (gU hy) h1 hty.ok h2 rfl fun w' hS'=>h _ _ rfl rfl w' hS')
theorem Qm (i:Nat) (hr:Region.ready md l.toArray listed=[i]) (hi₀:l[i]? = some o) (hS:St w0 X V L w) (hw:Region.wanted o (yielded l.toArray a.tmps)=true) (ho:o.op=.store ty x y)
 (hx:a.eval x=.pointer (some ⟨b,k,none⟩)) [hj:Hs L b j t cs] [hty:jS P ty n]
  (h:∃ vs:List Value,(kV a y=some (.agg vs.toArray)/\(∀ v∈vs,v.oneCell'=true)/\vs.length=n/\k+n<=cs.length)/\∀ a' l',a.put o.dst undef=a'->listed.setIfInBounds i true=l'->∀ w',St w0 X V (L.set j (.blk b t (splice cs k vs))) w'->S w'/\wpAnyH P md l.toArray Q S fuel l' a' w') :
  wpAnyH P md l.toArray Q S (fuel+1) listed a w:=by
 obtain⟨vs,⟨hy,h1,h2,h3⟩,h⟩:=h;exact mG hr (Di hS (jV hi₀) hw ho j hx hj.ok (gU hy) h1 hty.ok h2 h3 rfl fun w' hS'=>h _ _ rfl rfl w' hS')
theorem wQ (i:Nat) (hr:Region.ready md l.toArray listed=[i]) (hi₀:l[i]? = some o) (hS:St w0 X V L w) (hw:Region.wanted o (yielded l.toArray a.tmps)=true) (ho:o.op=.store ty x y)
 (hx:a.eval x=.pointer (some ⟨b,0,none⟩)) [hj:Hs L b j t cs] [hty:jS P ty n]
 (h:∃ vs:List Value,(kV a y=some (.agg vs.toArray)/\(∀ v∈vs,v.oneCell'=true)/\vs.length=n/\cs.length=n)/\∀ a' l',a.put o.dst undef=a'->listed.setIfInBounds i true=l'->∀ w',St w0 X V (L.set j (.blk b t vs)) w'->S w'/\wpAnyH P md l.toArray Q S fuel l' a' w') :
  wpAnyH P md l.toArray Q S (fuel+1) listed a w:=by
 obtain⟨vs,⟨hy,h1,h2,h3⟩,h⟩:=h;exact mG hr (Il hS (jV hi₀) hw ho j hx hj.ok (gU hy) h1 hty.ok h2 h3 rfl fun w' hS'=>h _ _ rfl rfl w' hS')
theorem Ec (i:Nat) (hr:Region.ready md l.toArray listed=[i]) (hi₀:l[i]? = some o) (hS:St w0 X V L w) (hw:Region.wanted o (yielded l.toArray a.tmps)=true) {e:TypeId} {len:Nat} {parts:List (Nat × Operand)}
 (ho:o.op=.buildSlice t len parts.toArray) [ht:Xu P t e] (h:∃ vs,Parts a 0 parts vs/\(vs.length=len/\len<=100/\∀ v∈vs,v.oneCell'=true)/\∀ b a' l',a.put o.dst (.slice (some ⟨b,0,none⟩) len len)=a' ->
 listed.setIfInBounds i true=l'->∀ w',St w0 X V (.blk b e vs::L) w'->S w'/\wpAnyH P md l.toArray Q S fuel l' a' w'):wpAnyH P md l.toArray Q S (fuel+1) listed a w:=by
 obtain⟨vs,hp,hc,h⟩:=h;exact mG hr (DU hS (jV hi₀) hw ho (by simpa using Eo hp) hc.1 hc.2.1 hc.2.2 ht.ok fun b w' hS'=>h b _ _ rfl rfl w' hS')
theorem Jt (i:Nat) (hr:Region.ready md l.toArray listed=[i]) (hi₀:l[i]? = some o) (hS:St w0 X V L w) (hw:Region.wanted o (yielded l.toArray a.tmps)=true)
 (h:∃ f args,(execOp a.eval o).run P w=.ok (.enter f args) w/\∃ v,(Calls P f args w fun e w'=>e=.returned v/\Kp w w')/\∀ a' l',a.put o.dst v=a'->listed.setIfInBounds i true=l' ->
 ∀ w',St w0 X V L w'->S w'/\wpAnyH P md l.toArray Q S fuel l' a' w'):wpAnyH P md l.toArray Q S (fuel+1) listed a w:=by
 obtain⟨f,args,hr',v,hc,h⟩:=h;exact mG hr (Rx (jV hi₀) hw hr' (L9 hS hc) fun w' hS'=>h _ _ rfl rfl w' hS')
end
theorem sB:(∀ (l:List Bool) (i:Nat) (v:Bool),l.toArray.setIfInBounds i v=(l.set i v).toArray)/\(∀ (x:Bool) (l:List Bool) (i:Nat) (v:Bool),(x::l).set (i+1) v=x::l.set i v) /\
  (∀ (x:Bool) (l:List Bool) (v:Bool),(x::l).set 0 v=v::l):=⟨fun l i v=>by simp,fun _ _ _ _=>rfl,fun _ _ _=>rfl⟩
end Go.Mm
namespace Go.Mm
inductive Hk where
 |m (i:Nat)|p (i:Nat)|a (i:Nat)|b (i:Nat)|c (i:Nat)|e (i:Nat)
def TD (_l:List Hk) (P:Prop):Prop:=P
theorem TDn {P:Prop} (h:P):TD [] P:=h
end Go.Mm
namespace Go.Mm
open Go
section
variable {i:Nat} {is:List Hk} {v:Value}
variable {P:Program} {w0:World} {X:List Nat} {V:View} {L:List dF} {w:World} {l:List Oper} {md:Region.Mode} {o:Oper} {a:Act} {Q:Exit->Act->World->Prop} {S:World->Prop} {fuel:Nat} {listed:Array Bool}
theorem hxp (h:∀ a' l',a.put o.dst v=a'->listed.setIfInBounds i true=l'->TD is (wpAnyH P md l.toArray Q S fuel l' a' w)) (hi₀:l[i]? = some o:=by exact rfl) (hv:∀ w,(execOp a.eval o).run P w=.ok (.value v) w:=by exact zp) (hs:Region.noSelect l.toArray=true:=by kernel_rfl) (hf:Region.free md l.toArray listed i=true:=by kernel_rfl) (hr:(Region.ready md l.toArray listed).contains i=true:=by kernel_rfl) (hQ:∀ v c a w,Q (.panic c) (a.put o.dst v) w->Q (.panic c) a w:=by first|exact fun _ _ _ _ h=>h|exact fun _ _ _ _ h=>zX (by kernel_rfl) h|exact fun _ _ _ _ h=>nomatch h.1) (hw:Region.wanted o (yielded l.toArray a.tmps)=true:=by exact rfl) (hS':S w:=by first|exact St.aG hS|(refine⟨?_,?_,?_⟩<;>first|exact aX hS.dR rfl|exact aX hS.dR (by assumption))):TD (.p i::is) (wpAnyH P md l.toArray Q S (fuel+1) listed a w) :=
 dw i hi₀ hs hf hr hQ hw hS' ⟨v,hv,h⟩
theorem hxm {x:Operand} (h:∀ a' l',a.put o.dst v=a'->listed.setIfInBounds i true=l'->TD is (wpAnyH P md l.toArray Q S fuel l' a' w)) (hi₀:l[i]? = some o:=by exact rfl) (ho:o.op=.move x:=by exact rfl) (hx:kV a x=some v:=by exact rfl) (hs:Region.noSelect l.toArray=true:=by kernel_rfl) (hf:Region.free md l.toArray listed i=true:=by kernel_rfl) (hr:(Region.ready md l.toArray listed).contains i=true:=by kernel_rfl) (hQ:∀ c a w,Q (.panic c) (a.put o.dst v) w->Q (.panic c) a w:=by first|exact fun _ _ _ h=>h|exact fun _ _ _ h=>zX (by kernel_rfl) h|exact fun _ _ _ h=>nomatch h.1) (hw:Region.wanted o (yielded l.toArray a.tmps)=true:=by exact rfl) (hS':S w:=by first|exact St.aG hS|(refine⟨?_,?_,?_⟩<;>first|exact aX hS.dR rfl|exact aX hS.dR (by assumption))):TD (.m i::is) (wpAnyH P md l.toArray Q S (fuel+1) listed a w) :=
 aar i hi₀ hs hf hr ho hx hQ hw hS' h
theorem hxa {ty:TypeId} {x:Operand} {b k:Nat} {j:Nat} {t:TypeId} {cs:List Value} (h:∀ a' l',a.put o.dst v=a'->listed.setIfInBounds i true=l'->TD is (wpAnyH P md l.toArray Q (St w0 X V L) fuel l' a' w)) (hi₀:l[i]? = some o:=by exact rfl) (ho:o.op=.load ty x:=by exact rfl) (hx:a.eval x=.pointer (some ⟨b,k,none⟩):=by exact rfl) (hj:Hs L b j t cs:=by exact inferInstance) (hty:iR P ty:=by exact inferInstance) (hv:cs[k]? = some v:=by exact zd) (hs:Region.noSelect l.toArray=true:=by kernel_rfl) (hf:Region.free md l.toArray listed i=true:=by kernel_rfl) (hr:(Region.ready md l.toArray listed).contains i=true:=by kernel_rfl) (hQ:∀ v c a w,Q (.panic c) (a.put o.dst v) w->Q (.panic c) a w:=by first|exact fun _ _ _ _ h=>h|exact fun _ _ _ _ h=>zX (by kernel_rfl) h|exact fun _ _ _ _ h=>nomatch h.1) (hw:Region.wanted o (yielded l.toArray a.tmps)=true:=by exact rfl) (hS':(St w0 X V L) w:=by first|exact St.aG hS|(refine⟨?_,?_,?_⟩<;>first|exact aX hS.dR rfl|exact aX hS.dR (by assumption))):TD (.a i::is) (wpAnyH P md l.toArray Q (St w0 X V L) (fuel+1) listed a w) :=
 aaR i hi₀ hs hf hr hQ hw hS' ho hx ⟨v,hv,h⟩
theorem hxb {ty:TypeId} {x:Operand} {b k:Nat} {j n:Nat} {t:TypeId} {cs:List Value} {vs:List Value} (h:∀ a' l',a.put o.dst (.agg vs.toArray)=a'->listed.setIfInBounds i true=l'->TD is (wpAnyH P md l.toArray Q (St w0 X V L) fuel l' a' w)) (hi₀:l[i]? = some o:=by exact rfl) (ho:o.op=.load ty x:=by exact rfl) (hx:a.eval x=.pointer (some ⟨b,k,none⟩):=by exact rfl) (hj:Hs L b j t cs:=by exact inferInstance) (hty:jS P ty n:=by exact inferInstance) (hv:PartOf cs k n vs:=by exact zd) (hs:Region.noSelect l.toArray=true:=by kernel_rfl) (hf:Region.free md l.toArray listed i=true:=by kernel_rfl) (hr:(Region.ready md l.toArray listed).contains i=true:=by kernel_rfl) (hQ:∀ v c a w,Q (.panic c) (a.put o.dst v) w->Q (.panic c) a w:=by first|exact fun _ _ _ _ h=>h|exact fun _ _ _ _ h=>zX (by kernel_rfl) h|exact fun _ _ _ _ h=>nomatch h.1) (hw:Region.wanted o (yielded l.toArray a.tmps)=true:=by exact rfl) (hS':(St w0 X V L) w:=by first|exact St.aG hS|(refine⟨?_,?_,?_⟩<;>first|exact aX hS.dR rfl|exact aX hS.dR (by assumption))):TD (.b i::is) (wpAnyH P md l.toArray Q (St w0 X V L) (fuel+1) listed a w) :=
 aaC i hi₀ hs hf hr hQ hw hS' ho hx ⟨vs,hv,h⟩
theorem hxc {ty:TypeId} {x:Operand} {b k:Nat} (h:∀ a' l',a.put o.dst v=a'->listed.setIfInBounds i true=l'->TD is (wpAnyH P md l.toArray Q (St w0 X V L) fuel l' a' w)) (hi₀:l[i]? = some o:=by exact rfl) (ho:o.op=.load ty x:=by exact rfl) (hx:a.eval x=.pointer (some ⟨b,k,none⟩):=by exact rfl) (hty:iR P ty:=by exact inferInstance) (hv:V.Cell b k v:=by exact zd) (hs:Region.noSelect l.toArray=true:=by kernel_rfl) (hf:Region.free md l.toArray listed i=true:=by kernel_rfl) (hr:(Region.ready md l.toArray listed).contains i=true:=by kernel_rfl) (hQ:∀ v c a w,Q (.panic c) (a.put o.dst v) w->Q (.panic c) a w:=by first|exact fun _ _ _ _ h=>h|exact fun _ _ _ _ h=>zX (by kernel_rfl) h|exact fun _ _ _ _ h=>nomatch h.1) (hw:Region.wanted o (yielded l.toArray a.tmps)=true:=by exact rfl) (hS':(St w0 X V L) w:=by first|exact St.aG hS|(refine⟨?_,?_,?_⟩<;>first|exact aX hS.dR rfl|exact aX hS.dR (by assumption))):TD (.c i::is) (wpAnyH P md l.toArray Q (St w0 X V L) (fuel+1) listed a w) :=
 aax i hi₀ hs hf hr hQ hw hS' ho hx ⟨v,hv,h⟩
end
end Go.Mm
namespace Go.Mm
theorem zH {α β:Type} {x y:α} {x' y':β} {K:α->β->Prop} (h:K y y') (hp:x=y:=by((try simp only[fr]);exact rfl)) (hl:x'=y':=by((try simp only[sB]);exact rfl)):∀ z z',x=z->x'=z'->K z z':=fun z z' e e'=>by subst e;subst e';rw[hp,hl];exact h
end Go.Mm
namespace Go.Mm
theorem yh (l:List Hk) {P Q:Prop} (k:Q) (t:KQ Q->TD l P:=by(intro kq;(repeat ((first|refine hxm ?_|refine hxp ?_|refine hxa ?_|refine hxc ?_|refine hxb ?_|refine hxe ?_);refine zH ?_));refine TDn ?_;exact kq.out)):P:=t ⟨k⟩
end Go.Mm
namespace Go.Mm
open Go
variable {f:FuncId} {args:Array Value} {R:Ending->World->Prop} {b j:Nat} {t:TypeId} {cs:List Value}
variable {P:Program} {w0:World} {X:List Nat} {V:View} {L:List dF} {w:World}
theorem oM (hS:St w0 X V L w) {g:Nat} [hj:Hs L g j t cs]
  (h:∃ v cs',(w.heap[g]? = some (.cells cs.toArray t (0,0))->Calls P f args w fun e w'=>e=.returned v/\ni g w w'/\w'.heap[g]? = some (.cells cs'.toArray t (0,0))) /\
   ∀ w',St w0 X V (L.set j (.blk g t cs')) w'->R (.returned v) w'):Calls P f args w R:=by
 obtain⟨v,cs',hc,h⟩:=h;exact(hc (hS.at hj.ok)).mono fun e w' ⟨he,hk,hg⟩=>by subst he;exact h w' (hS.mut hj.ok hk hg rfl)
theorem Aj (hS:St w0 X V L w)
  (h:∃ t cs,(Calls P f args w fun e w'=>∃ g,e=.returned (.pointer (some ⟨g,0,none⟩))/\Kp w w'/\w.heap.size<=g/\w'.heap[g]? = some (.cells cs.toArray t (0,0))) /\
   ∀ g w',St w0 X V (.blk g t cs::L) w'->R (.returned (.pointer (some ⟨g,0,none⟩))) w'):Calls P f args w R:=by
 obtain⟨t,cs,hc,h⟩:=h;refine hc.mono fun e w' ⟨g,he,hk,hl,hg⟩=>?_
 subst he;exact h g w' (hS.fresh hk (e:=.blk g t cs) hg fun b hb=>by cases hb;exact hl)
theorem St.newAt (hS:St w0 [] V L w) [hj:Hs L b j t cs]:w0.heap.size<=b:=by
 rcases hS.new _ (List.mem_of_getElem? hj.ok) b rfl with h|h
 ·exact h
 ·cases h
theorem St.dR (hS:St w0 X V L w) [hj:Hs L b j t cs]:w.heap[b]? = some (.cells cs.toArray t (0,0)):=hS.at hj.ok
end Go.Mm
namespace Go.Wg
open Go Go.Mm
variable {k:Wk} {ts:Nat->Nat} {fv:Nat->Value} {b i n o:Nat} {w w':World} {rv tv v vv:Value} {xs:List Value} {V:View} {t:TypeId} {D:List Nat}
def fO (k:Wk) (i j:Nat):List Nat:=(List.range i).filter fun x=>(k.v x).from_ == (j:Int)
theorem MJ (k:Wk) (j:Nat):fO k k.n j=k.fills j:=rfl
theorem MK (k:Wk) (i j:Nat) (h:(k.v i).from_=(j:Int)):fO k (i+1) j=fO k i j ++ [i]:=by
 unfold fO;rw[List.range_succ,List.filter_append];simp[h]
theorem JG (k:Wk) (i j:Nat) (h:(k.v i).from_≠(j:Int)):fO k (i+1) j=fO k i j:=by
 unfold fO;rw[List.range_succ,List.filter_append];simp[h]
theorem BN (k:Wk) (hk:k.Ok) (i j:Nat) (hi:i<=k.n) (hj:i<=j+1):fO k i j=[]:=by
 unfold fO;rw[List.filter_eq_nil_iff];intro x hx;have hx':=List.mem_range.1 hx;have:=(hk.ves x (by omega)).2.1;simp;omega
theorem KW (k:Wk) (i j:Nat):(fO k i j).length<=i:=by
 unfold fO;have:=List.length_filter_le (fun x=>(k.v x).from_ == (j:Int)) (List.range i)
 rwa [List.length_range]at this
theorem xU (k:Wk) (i j x:Nat) (h:x∈fO k i j):x<i:=List.mem_range.1 (List.mem_filter.1 h).1
def nU (k:Wk) (ts:Nat->Nat) (fv:Nat->Value) (i j:Nat):List dF :=
 [.blk (ts j) 129 [.int .i64 (k.v j).from_,.int .i64 (k.v j).room,.int .i64 (k.v j).lo,.int .i64 (k.v j).hi,.int .i64 (j:Int),fv j],.row (fv j) 124 1 (fO k i j).length ((fO k i j).map fun x=>ptr (ts x))]
def iW (k:Wk) (ts:Nat->Nat) (fv:Nat->Value) (i m:Nat):List dF:=(List.range m).flatMap (nU k ts fv i)
theorem xP (k:Wk) (ts:Nat->Nat) (fv:Nat->Value) (i m:Nat):iW k ts fv i (m+1)=iW k ts fv i m ++ nU k ts fv i m:=by
 unfold iW;rw[List.range_succ,List.flatMap_append];simp
theorem Me {ts':Nat->Nat} {fv':Nat->Value} {i' m:Nat} (h:∀ j,j<m->nU k ts fv i j=nU k ts' fv' i' j):iW k ts fv i m=iW k ts' fv' i' m:=by
 unfold iW;rw[List.flatMap_def,List.flatMap_def];congr 1;exact List.map_congr_left fun j hj=>h j (List.mem_range.1 hj)
theorem Qc (k:Wk) (ts:Nat->Nat) (fv:Nat->Value) (i m j:Nat) (hj:j<m):∃ R,(iW k ts fv i m).Perm (nU k ts fv i j ++ R) /\
  ∀ ts' fv' i',(∀ x,x<m->x≠j->nU k ts' fv' i' x=nU k ts fv i x)->(iW k ts' fv' i' m).Perm (nU k ts' fv' i' j ++ R):=by
 have hr:List.range m=List.range j ++ j::List.range' (j+1) (m-j-1):=by
  have e1:List.range m=List.range' 0 m:=List.range_eq_range';have e2:List.range j=List.range' 0 j:=List.range_eq_range';rw[e1,e2];have e3:List.range' 0 m=List.range' 0 j ++ List.range' j (m-j):=by
   have:=List.range'_append (s:=0) (m:=j) (n:=m-j) (step:=1);simp only[Nat.zero_add,Nat.one_mul]at this;rw[this];congr 1;omega
  rw[e3];congr 1;rw[show m-j=(m-j-1)+1 by omega,List.range'_succ];simp
 have key:∀ ts fv i,(iW k ts fv i m).Perm (nU k ts fv i j ++ ((List.range j).flatMap (nU k ts fv i) ++ (List.range' (j+1) (m-j-1)).flatMap (nU k ts fv i))):=fun ts fv i=>by
  unfold iW;rw[hr,List.flatMap_append,List.flatMap_cons];exact List.perm_append_comm_assoc _ _ _
 refine⟨_,key ts fv i,fun ts' fv' i' h=>?_⟩;have e1:(List.range j).flatMap (nU k ts' fv' i')=(List.range j).flatMap (nU k ts fv i):=by
  rw[List.flatMap_def,List.flatMap_def];congr 1;exact List.map_congr_left fun x hx=>by have:=List.mem_range.1 hx;exact h x (by omega) (by omega)
 have e2:(List.range' (j+1) (m-j-1)).flatMap (nU k ts' fv' i')=(List.range' (j+1) (m-j-1)).flatMap (nU k ts fv i):=by
  rw[List.flatMap_def,List.flatMap_def];congr 1;exact List.map_congr_left fun x hx=>by have:=List.mem_range'_1.1 hx;exact h x (by omega) (by omega)
 rw[<- e1,<- e2];exact key ts' fv' i'
theorem oz (h:w.ownsRow 0 124 1 v n xs) (hn:0<n):∃ g cap cur,v=.slice (some ⟨g,0,none⟩) n cap/\n<=cap/\cap<=maxLen/\w.heap[g]? = some (.cells cur 124 (0,0))/\cur.toList.take n=xs:=by
 obtain⟨h1,h2⟩:=h;rcases h2 with⟨_,h2⟩|⟨g,cap,cur,rfl,_,h4,h5,h6,_,h8⟩
 ·omega
 ·exact⟨g,cap,cur,rfl,h5,h6,h4,by simpa using h8⟩
def newV (V:View) (w w':World):View:=fun j=>if j<w.heap.size then V j else w'.heap[j]?
theorem Qe (h:V.In w'):(newV V w w').In w':=fun j o hj=>by
 unfold newV at hj;split at hj
 ·exact h j o hj
 ·exact hj
theorem rD (hV:V.In w):∀ j o,V j=some o->newV V w w' j=some o:=fun j o hj=>by
 have:=lt_of_heap (hV j o hj);simp[newV,this,hj]
theorem Ku:∀ j,j<w.heap.size->newV V w w' j=V j:=fun j hj=>by simp[newV,hj]
theorem l9 {cs:Array Value} (hb:w.heap.size<=b) (hh:w'.heap[b]? = some (.cells cs t (0,0))) (hi:cs[i]? = some v):(newV V w w').Cell b i v :=
 ⟨cs,t,(0,0),by simp[newV,show ¬ b<w.heap.size by omega,hh],hi⟩
theorem Y4 (hV:V.In w) (hk:k.Ok) (h1:pW V vv k.n 4 fun i=>(k.v i).cells) (h2:pW V rv k.rdg.length 4 fun i=>(k.rdg.getD i default).cells)
  (hS:St w [] V ([.blk b 112 [vv,rv,tv],.row tv 124 1 k.n ((List.range k.n).map fun x=>ptr (ts x))] ++ iW k ts fv k.n k.n) w'):jh (newV V w w') b k:=by
 have hnew:∀ e,e∈[dF.blk b 112 [vv,rv,tv],.row tv 124 1 k.n ((List.range k.n).map fun x=>ptr (ts x))] ++ iW k ts fv k.n k.n->∀ g,e.foot=some g->w.heap.size<=g:=fun e he g hg=>by
  rcases hS.new e he g hg with h|h
  ·exact h
  ·cases h
 have hb:=hS.has _ (List.mem_append_left _ (List.mem_cons_self ..));have hbn:=hnew _ (List.mem_append_left _ (List.mem_cons_self ..)) b rfl;have hr:w'.ownsRow 0 124 1 tv k.n ((List.range k.n).map fun x=>ptr (ts x)):=(hS.has _ (List.mem_append_left _ (List.mem_cons_of_mem _ (List.mem_cons_self ..)))).1;have hrn:=hnew _ (List.mem_append_left _ (List.mem_cons_of_mem _ (List.mem_cons_self ..)));have sl:∀ {v n sz get},pW V v n sz get->pW (newV V w w') v n sz get:=fun⟨a,cap,h1,h2,h3,h4⟩ =>
  ⟨a,cap,h1,h2,h3,fun hn=>by obtain⟨g,off,h5,h6⟩:=h4 hn;exact⟨g,off,h5,fun i hi=>(h6 i hi).mono (rD hV)⟩⟩
 have hts:∀ x,x<k.n->((List.range k.n).map ts).getD x 0=ts x:=fun x hx=>by simp[List.getD_eq_getElem?_getD,hx]
 have hmem:∀ i,i<k.n->∀ e,e∈nU k ts fv k.n i->e∈[dF.blk b 112 [vv,rv,tv],.row tv 124 1 k.n ((List.range k.n).map fun x=>ptr (ts x))] ++ iW k ts fv k.n k.n:=fun i hi e he =>
  List.mem_append_right _ (List.mem_flatMap.2 ⟨i,List.mem_range.2 hi,he⟩)
 refine⟨(List.range k.n).map ts,vv,rv,l9 hbn hb rfl,l9 hbn hb rfl,?_,sl h1,sl h2,fun i hi=>?_,fun i hi=>?_,hk.pos,hk.le⟩
 ·obtain ⟨g,cap,cur,rfl,_,_,hg,ht⟩:=oz hr hk.pos;have hgn:=hrn g rfl;refine ⟨g,cap,l9 hbn hb rfl,fun i hi=>l9 hgn hg ?_⟩;rw [hts i hi];have:(cur.toList.take k.n)[i]? = some (ptr (ts i)):=by rw [ht];simp [hi]
  rw[List.getElem?_take]at this;simpa[hi]using this
 ·rw [hts i hi];have he:=hmem i hi _ (List.mem_cons_self ..);have hh:=hS.has _ he;have hn:=hnew _ he _ rfl;intro j v hj;refine l9 hn hh ?_;simp only [nN.cells,List.cons_append,List.nil_append,Nat.zero_add,List.getElem?_toArray] at hj |-;have hj5:j < 5:=by
   rcases Nat.lt_or_ge j 5 with h|h
   ·exact h
   ·rw[List.getElem?_eq_none (by simpa using h)]at hj;cases hj
  rw[show([.int .i64 (k.v i).from_,.int .i64 (k.v i).room,.int .i64 (k.v i).lo,.int .i64 (k.v i).hi,.int .i64 (i:Int),fv i]:List Value)=[.int .i64 (k.v i).from_,.int .i64 (k.v i).room,.int .i64 (k.v i).lo,.int .i64 (k.v i).hi,.int .i64 (i:Int)] ++ [fv i]from rfl,
   List.getElem?_append_left (by simpa using hj5)]
  exact hj
 ·rw [hts i hi];have he:=hmem i hi _ (List.mem_cons_self ..);have hh:=hS.has _ he;have hn:=hnew _ he _ rfl;refine ⟨fv i,l9 hn hh rfl,?_⟩;have he2:=hmem i hi _ (List.mem_cons_of_mem _ (List.mem_cons_self ..));have hro:w'.ownsRow 0 124 1 (fv i) (fO k k.n i).length ((fO k k.n i).map fun x=>ptr (ts x)):=(hS.has _ he2).1;have hn2:=hnew _ he2;rw [MJ] at hro hn2;by_cases h0:0 < (k.fills i).length
  ·obtain ⟨g,cap,cur,hv,hc1,hc2,hg,ht⟩:=oz hro h0;have hgn:=hn2 g (by rw [hv];rfl);refine ⟨⟨some ⟨g,0,none⟩,cap,hv,hc1,hc2,fun _=>⟨g,0,rfl,fun j hj=>?_⟩⟩⟩;intro a v ha;cases a with
   |succ a=>simp at ha
   | zero =>
    simp only[List.getElem?_cons_zero,Option.some.injEq]at ha;subst ha;refine l9 hgn hg ?_;have hx:(k.fills i).getD j 0<k.n:=by
     rw[List.getD_eq_getElem?_getD,List.getElem?_eq_getElem hj];exact List.mem_range.1 (List.mem_filter.1 (List.getElem_mem hj)).1
    rw[hts _ hx];have:(cur.toList.take (k.fills i).length)[j]? = some (ptr (ts ((k.fills i).getD j 0))):=by
     rw[ht];simp[List.getD_eq_getElem?_getD,hj]
    rw[List.getElem?_take]at this;simpa[hj]using this
  ·have h0':(k.fills i).length=0:=by omega
   obtain⟨_,hr2⟩:=hro;rcases hr2 with⟨hv,_⟩|⟨g,cap,cur,hv,_,_,h5,h6,_,_⟩
   ·rw[h0'];exact⟨⟨none,0,hv,by omega,by omega,fun h=>absurd h (by omega)⟩⟩
   ·rw[h0']at hv h5 |-;exact⟨⟨_,cap,hv,h5,h6,fun h=>absurd h (by omega)⟩⟩
theorem kW {l:List Int} (h:bC l=0):∀ e∈l,e=0:=by
 induction l with
 |nil=>simp
 | cons x l ih =>
  simp only[bC]at h;split at h
  ·rename_i hx;intro e he;rcases List.mem_cons.1 he with rfl | he
   ·exact hx
   ·exact ih h e he
  ·rename_i hx;exact absurd h hx
theorem gX {b:Bool} {e:Int} (he:e≠0) (h:bI b e=0):b=true:=by
 unfold bI at h;cases b
 ·simp at h;exact absurd h he
 ·rfl
theorem iV {n lo hi:Int} (h:(!fQ n lo hi)=true):lo<=n/\n<=hi:=by
 unfold fQ at h;simp at h;exact h
theorem AU (h:nS k=0):k.Ok:=by
 have h0:=kW h;have h1:=kW (h0 _ (List.mem_cons_self ..));have h2:wo k k.n=0:=h0 _ (by simp);have h3:(if 6<k.rdg.length then(6:Int) else 0)=0:=h0 _ (by simp);have h4:uz k k.rdg.length=0:=h0 _ (by simp);have a1:=gX (by decide) (h1 _ (List.mem_cons_self ..));have a2:=gX (by decide) (h1 (bI (decide (k.n<=6)) 6) (by simp));refine⟨by simpa using a1,by simpa using a2,fun i hi=>?_,?_,fun i hi=>?_⟩
 ·have:=kW h2 (Le i (k.v i)) (List.mem_map.2 ⟨i,List.mem_range.2 hi,rfl⟩);have hv:=kW this;have v1:=iV (gX (by decide) (hv (bI (!fQ (k.v i).from_ (-1) (i - 1)) 3) (by simp)));have v2:=iV (gX (by decide) (hv (bI (!fQ (k.v i).room 0 40) 1) (by simp)));have v3:=gX (by decide) (hv (bI (!fQ (k.v i).lo 0 20 && !fQ (k.v i).hi 0 20) 1) (by simp));rw [Bool.and_eq_true] at v3;have v4:=iV v3.1;have v5:=iV v3.2;have v6:=gX (by decide) (hv (bI (decide ((k.v i).lo<=(k.v i).hi)) 5) (by simp));have v7:(k.v i).lo<=(k.v i).hi:=by simpa using v6
  unfold nN.Ok;omega
 ·split at h3
  ·cases h3
  ·omega
 ·have:=kW h4 (KD k.n (k.rdg.getD i default)) (List.mem_map.2 ⟨i,List.mem_range.2 hi,rfl⟩);have hv:=kW this;have v1:=gX (by decide) (hv (bI (!fQ (k.rdg.getD i default).vessel 0 (k.n-1) && !fQ (k.rdg.getD i default).scale 0 2) 3) (by simp));rw[Bool.and_eq_true]at v1;have v2:=iV v1.1;have v3:=iV v1.2;have v4:=gX (by decide) (hv (bI (!fQ (k.rdg.getD i default).shown 0 60 && !fQ (k.rdg.getD i default).err 0 9) 1) (by simp));rw[Bool.and_eq_true]at v4;have v5:=iV v4.1;have v6:=iV v4.2;unfold je.Ok;omega
def aS (k:Wk) (ns:List Int):Int:=if nS k≠0 then nS k else if ns.all (fun n=>!fQ n 0 (k.n-1)) then 0 else 3
theorem Uz (k:Wk) (m i:Nat) (hm:m<=6):(lS k m).aP i=if i<m then((k.v i).lo,(k.v i).hi) else(0,0):=by
 induction m with
 |zero =>
  simp only[lS,SS.aP,List.getD_eq_getElem?_getD,List.getElem?_replicate,Nat.not_lt_zero,if_false];split<;>rfl
 | succ m ih =>
  have hl:((lS k m).cu m (dO 0 (k.v m).room)).los.length=6:=(nX k m).los;show(((lS k m).cu m (dO 0 (k.v m).room)).los.set m ((k.v m).lo,(k.v m).hi)).getD i (0,0)=_;rw[List.getD_eq_getElem?_getD,List.getElem?_set];by_cases h:m=i
  ·subst h;simp[hl,show m<6 by omega]
  ·rw [if_neg h,<- List.getD_eq_getElem?_getD];show (lS k m).aP i=_;rw [ih (by omega)];by_cases h1:i < m
   ·simp[h1,show i<m+1 by omega]
   ·simp[h1,show ¬ i<m+1 by omega]
theorem X6 (b:je->Bool) (l:List je) (s:SS) (i:Nat):(l.foldl (lU b) s).aP i=s.aP i:=by
 induction l generalizing s with
 |nil=>rfl
 |cons r l ih =>
  rw[List.foldl_cons,ih];unfold lU;split<;>rfl
theorem rW (k:Wk) (hok:k.Ok) (b:je->Bool) (i:Nat):(aN k b).aP i=if i<k.n then((k.v i).lo,(k.v i).hi) else(0,0):=by
 unfold aN;rw[X6,Uz k k.n i hok.le]
theorem QU (k:Wk) (hok:k.Ok) (b:je->Bool) (i:Nat):0<=((aN k b).aP i).1:=by
 rw[rW k hok];split
 ·rename_i h;exact(hok.ves i h).2.2.2.2.1
 ·simp
theorem Jy (k:Wk) (hok:k.Ok) (b:je->Bool) (i:Nat):((aN k b).aP i).2<=20:=by
 rw[rW k hok];split
 ·rename_i h;exact(hok.ves i h).2.2.2.2.2.2.2.1
 ·simp
def IZ (D:List Nat) (v:Value):Prop:=iL v=true\/(∃ b o,v=.pointer (some ⟨b,o,none⟩)/\b∈D)\/∃ b o n c,v=.slice (some ⟨b,o,none⟩) n c/\b∈D
noncomputable def gN:Nat:=Go.Proofs.Tryd.prog.globals.size
structure Closed (V:View) (D:List Nat):Prop where
 cells:∀ b∈D,∃ cs t,V b=some (.cells cs t (0,0))/\∀ v∈cs,IZ D v
 ge:∀ b∈D,gN<=b
 last:∃ o,V (gN-1)=some o
def keepD (V:View) (D:List Nat):View:=fun b=>if b∈D then V b else none
theorem QJ (h:IZ D (.pointer (some ⟨b,o,none⟩))):b∈D:=by
 rcases h with h|⟨b',o',h,hb⟩|⟨b',o',n,c,h,_⟩
 ·cases h
 ·cases h;exact hb
 ·cases h
theorem WG {c:Nat} (h:IZ D (.slice (some ⟨b,o,none⟩) n c)):b∈D:=by
 rcases h with h|⟨b',o',h,_⟩|⟨b',o',n',c',h,hb⟩
 ·cases h
 ·cases h
 ·cases h;exact hb
theorem Closed.cell (h:Closed V D) (hb:b∈D) (hc:V.Cell b i v):IZ D v:=by
 obtain⟨cs,t,hV,hcs⟩:=h.cells b hb;obtain⟨cs',t',fr,hV',hi⟩:=hc;rw[hV]at hV';cases hV';exact hcs v (Array.mem_of_getElem? hi)
theorem oI (hb:b∈D) (hc:V.Cell b i v):(keepD V D).Cell b i v:=by
 obtain⟨cs',t',fr,hV',hi⟩:=hc;exact⟨cs',t',fr,by simp[keepD,hb,hV'],hi⟩
theorem keep_range {vs:List Value} (hb:b∈D) (hc:V.Range b i vs):(keepD V D).Range b i vs:=fun j v hj=>oI hb (hc j v hj)
theorem JH {sz:Nat} {get:Nat->List Value} (h:pW V v n sz get) (hv:IZ D v):pW (keepD V D) v n sz get:=by
 obtain⟨a,cap,rfl,h2,h3,h4⟩:=h;refine⟨⟨a,cap,rfl,h2,h3,fun hn=>?_⟩⟩;obtain⟨g,off,rfl,h6⟩:=h4 hn;exact⟨g,off,rfl,fun i hi=>keep_range (WG hv) (h6 i hi)⟩
theorem zO.keep {p:Nat} {ts:List Nat} (hC:zO V p k ts vv rv) (hD:Closed V D) (hp:p∈D):zO (keepD V D) p k ts vv rv/\∀ i,i<k.n->ts.getD i 0∈D:=by
 obtain⟨g,cap,hc2,hts⟩:=hC.c2;have hg:=WG (hD.cell hp hc2);have hti:∀ i,i<k.n->ts.getD i 0∈D:=fun i hi=>QJ (hD.cell hg (hts i hi))
 refine⟨⟨oI hp hC.c0,oI hp hC.c1,⟨g,cap,oI hp hc2,fun i hi=>oI hg (hts i hi)⟩,JH hC.ves (hD.cell hp hC.c0),JH hC.rdg (hD.cell hp hC.c1),fun i hi=>keep_range (hti i hi) (hC.tun i hi),fun i hi=>?_,hC.pos,hC.le⟩,hti⟩;obtain⟨v,hv,hs⟩:=hC.fil i hi;exact⟨v,oI (hti i hi) hv,JH hs (hD.cell (hti i hi) hv)⟩
theorem ET {D':List Nat} (h:∀ b∈D,b∈D') (hv:IZ D v):IZ D' v:=by
 rcases hv with hv|⟨b,o,hv,hb⟩|⟨b,o,n,c,hv,hb⟩
 ·exact .inl hv
 ·exact .inr (.inl ⟨b,o,hv,h b hb⟩)
 ·exact .inr (.inr ⟨b,o,n,c,hv,h b hb⟩)
theorem Qx {s:Nat} (h:w.ownsRow 0 t s v n xs) (hb:∀ g,v.ownBlock=some g->g∈D):IZ D v:=by
 obtain⟨_,h2⟩:=h;rcases h2 with⟨rfl,_⟩|⟨g,cap,cur,rfl,_⟩
 ·exact .inl rfl
 ·exact .inr (.inr ⟨g,0,n,cap,rfl,hb g rfl⟩)
theorem DI {g:Nat} (h:w.ownsRow 0 t 1 v n xs) (hp:DR w v (n * 1)) (hx:∀ x∈xs,IZ D x) (hg:v.ownBlock=some g) :
  ∃ cs t,w.heap[g]? = some (.cells cs t (0,0))/\∀ c∈cs,IZ D c:=by
 obtain⟨_,h2⟩:=h;rcases h2 with⟨rfl,_⟩|⟨g',cap,cur,rfl,_,h4,_,_,_,h8⟩
 ·cases hg
 ·have hgg:g'=g:=by simpa [Value.ownBlock] using hg
  subst hgg;refine⟨cur,t,h4,fun c hc=>?_⟩;obtain⟨i,hi,hic⟩:=Array.mem_iff_getElem.1 hc;have hi':cur[i]? = some c:=by rw[Array.getElem?_eq_getElem hi,hic]
  rcases Nat.lt_or_ge i (n * 1)with hlt|hge
  ·refine hx c ?_;rw [<- h8];have:(cur.toList.take (n * 1))[i]? = some c:=by rw [List.getElem?_take,if_pos hlt];simpa using hi'
   exact List.mem_of_getElem? this
  ·exact .inl (hp g' rfl cur t (0,0) h4 i c hge hi')
theorem RG (hV:V.In w) {D0:List Nat} (hD0:Closed V D0) (hvv:IZ D0 vv) (hrv:IZ D0 rv)
  (hS:St w [] V ([.blk b 112 [vv,rv,tv],.row tv 124 1 k.n ((List.range k.n).map fun x=>ptr (ts x))] ++ iW k ts fv k.n k.n) w'):∃ D,Closed (newV V w w') D/\b∈D:=by
 let D:List Nat:=b::(tv.ownBlock.toList ++ ((List.range k.n).map ts ++ ((List.range k.n).flatMap (fun j=>(fv j).ownBlock.toList) ++ D0)));have mb:b∈D:=List.mem_cons_self ..;have mt:∀ g,tv.ownBlock=some g->g∈D:=fun g hg=>by simp[D,hg]
 have ms:∀ x,x<k.n->ts x∈D:=fun x hx=>by
  refine List.mem_cons_of_mem _ (List.mem_append_right _ (List.mem_append_left _ (List.mem_map.2 ⟨x,List.mem_range.2 hx,rfl⟩)))
 have mf:∀ j,j<k.n->∀ g,(fv j).ownBlock=some g->g∈D:=fun j hj g hg=>by
  refine List.mem_cons_of_mem _ (List.mem_append_right _ (List.mem_append_right _ (List.mem_append_left _ (List.mem_flatMap.2 ⟨j,List.mem_range.2 hj,by simp[hg]⟩))))
 have m0:∀ x∈D0,x∈D:=fun x hx=>List.mem_cons_of_mem _ (List.mem_append_right _ (List.mem_append_right _ (List.mem_append_right _ hx)))
 have hnew:∀ e,e∈[dF.blk b 112 [vv,rv,tv],.row tv 124 1 k.n ((List.range k.n).map fun x=>ptr (ts x))] ++ iW k ts fv k.n k.n->∀ g,e.foot=some g->w.heap.size<=g:=fun e he g hg=>by
  rcases hS.new e he g hg with h|h
  ·exact h
  ·cases h
 have hv:∀ {g:Nat},w.heap.size<=g->∀ {cs:Array Value} {t:TypeId},w'.heap[g]? = some (.cells cs t (0,0))->newV V w w' g=some (.cells cs t (0,0)):=fun {g} hg {cs t} hh=>by
  simp[newV,show ¬ g<w.heap.size by omega,hh]
 have hb:=hS.has _ (List.mem_append_left _ (List.mem_cons_self ..));have hbn:=hnew _ (List.mem_append_left _ (List.mem_cons_self ..)) b rfl;have hrm:dF.row tv 124 1 k.n ((List.range k.n).map fun x=>ptr (ts x))∈[dF.blk b 112 [vv,rv,tv],.row tv 124 1 k.n ((List.range k.n).map fun x=>ptr (ts x))] ++ iW k ts fv k.n k.n:=List.mem_append_left _ (List.mem_cons_of_mem _ (List.mem_cons_self ..));have hr:=hS.has _ hrm;have hmem:∀ i,i<k.n->∀ e,e∈nU k ts fv k.n i->e∈[dF.blk b 112 [vv,rv,tv],.row tv 124 1 k.n ((List.range k.n).map fun x=>ptr (ts x))] ++ iW k ts fv k.n k.n:=fun i hi e he =>
  List.mem_append_right _ (List.mem_flatMap.2 ⟨i,List.mem_range.2 hi,he⟩)
 have ptrs:∀ l:List Nat,(∀ x∈l,x<k.n)->∀ y∈l.map (fun x=>ptr (ts x)),IZ D y:=fun l hl y hy=>by
  obtain⟨x,hx,rfl⟩:=List.mem_map.1 hy;exact .inr (.inl ⟨ts x,0,rfl,ms x (hl x hx)⟩)
 have hGw:gN<=w.heap.size:=by
  obtain⟨o,ho⟩:=hD0.last;have:=lt_of_heap (hV _ _ ho);omega
 refine⟨D,⟨fun g hg=>?_,fun g hg=>?_,hD0.last.imp fun o ho=>rD hV _ _ ho⟩,mb⟩;rotate_left
 ·rcases List.mem_cons.mp hg with rfl | hg
  ·exact Nat.le_trans hGw hbn
  rcases List.mem_append.mp hg with hg|hg
  ·exact Nat.le_trans hGw (hnew _ hrm g (show tv.ownBlock=some g by simpa using hg))
  rcases List.mem_append.mp hg with hg|hg
  ·obtain⟨x,hx,rfl⟩:=List.mem_map.1 hg;exact Nat.le_trans hGw (hnew _ (hmem x (List.mem_range.1 hx) _ (List.mem_cons_self ..)) _ rfl)
  rcases List.mem_append.mp hg with hg|hg
  ·obtain⟨j,hj,hgj⟩:=List.mem_flatMap.1 hg;exact Nat.le_trans hGw (hnew _ (hmem j (List.mem_range.1 hj) _ (List.mem_cons_of_mem _ (List.mem_cons_self ..))) g (show(fv j).ownBlock=some g by simpa using hgj))
  ·exact hD0.ge g hg
 rcases List.mem_cons.mp hg with rfl|hg
 ·refine ⟨_,_,hv hbn hb,fun c hc=>?_⟩;simp only [List.mem_toArray,List.mem_cons,List.not_mem_nil,or_false] at hc;rcases hc with rfl | rfl | rfl
  ·exact ET m0 hvv
  ·exact ET m0 hrv
  ·exact Qx hr.1 mt
 rcases List.mem_append.mp hg with hg|hg
 ·have hg':tv.ownBlock=some g:=by simpa using hg
  obtain⟨cs,t,h1,h2⟩:=DI (D:=D) hr.1 hr.2 (ptrs _ fun x hx=>List.mem_range.1 hx) hg';exact⟨cs,t,hv (hnew _ hrm g hg') h1,h2⟩
 rcases List.mem_append.mp hg with hg|hg
 ·obtain ⟨x,hx,rfl⟩:=List.mem_map.1 hg;have hx':=List.mem_range.1 hx;have he:=hmem x hx' _ (List.mem_cons_self ..);have he2:=hmem x hx' _ (List.mem_cons_of_mem _ (List.mem_cons_self ..));refine ⟨_,_,hv (hnew _ he _ rfl) (hS.has _ he),fun c hc=>?_⟩;simp only [List.mem_toArray,List.mem_cons,List.not_mem_nil,or_false] at hc;rcases hc with rfl | rfl | rfl | rfl | rfl | rfl
  ·exact .inl rfl
  ·exact .inl rfl
  ·exact .inl rfl
  ·exact .inl rfl
  ·exact .inl rfl
  ·exact Qx (hS.has _ he2).1 (mf x hx')
 rcases List.mem_append.mp hg with hg|hg
 ·obtain ⟨j,hj,hgj⟩:=List.mem_flatMap.1 hg;have hj':=List.mem_range.1 hj;have hg':(fv j).ownBlock=some g:=by simpa using hgj
  have he2:=hmem j hj' _ (List.mem_cons_of_mem _ (List.mem_cons_self ..));obtain⟨cs,t,h1,h2⟩:=DI (D:=D) (hS.has _ he2).1 (hS.has _ he2).2 (ptrs _ fun x hx=>xU k k.n j x hx) hg';exact⟨cs,t,hv (hnew _ he2 g hg') h1,h2⟩
 ·obtain⟨cs,t,h1,h2⟩:=hD0.cells g hg;exact⟨cs,t,rD hV g _ h1,fun c hc=>ET m0 (h2 c hc)⟩
theorem kM {V':View} (h:Closed V D) (hV:∀ i o,V i=some o->V' i=some o):Closed V' D :=
 ⟨fun b hb=>by obtain⟨cs,t,h1,h2⟩:=h.cells b hb;exact⟨cs,t,hV b _ h1,h2⟩,h.ge,h.last.imp fun _ ho=>hV _ _ ho⟩
def CJ (l:List (Int × Int)):Int × Int:=l.foldl dX (0,0)
theorem aaB (l:List (Int × Int)) (a:Int × Int):l.foldl dX a=dX a (CJ l):=by
 unfold CJ
 induction l generalizing a with
 |nil=>simp[dX]
 |cons x l ih =>
  rw[List.foldl_cons,List.foldl_cons,ih,ih (dX (0,0) x)];unfold dX;simp only[Prod.mk.injEq];omega
theorem GL (x:Int × Int):dX (0,0) x=x:=by
 obtain⟨a,b⟩:=x;unfold dX;simp
theorem kT (x:Int × Int) (l:List (Int × Int)):CJ (x::l)=dX x (CJ l):=by
 show(x::l).foldl dX (0,0)=_;rw[List.foldl_cons,aaB,GL]
theorem H9 {l l':List (Int × Int)} (h:l.Perm l'):CJ l=CJ l':=by
 induction h with
 |nil=>rfl
 |cons x _ ih=>rw[kT,kT,ih]
 |swap x y l =>
  rw[kT,kT,kT,kT];unfold dX;simp only[Prod.mk.injEq];omega
 |trans _ _ h1 h2=>exact h1.trans h2
theorem Dw (k:Wk) (s:SS) (st:Bool):dW k s st=CJ (k.sources.map (kX k s st)):=by
 unfold dW CJ;rw[List.foldl_map]
theorem N7 {g:Gr} {c:Int} (h:g.Bd c) (hc:0<=c) (m:Nat):∀ r,gy g m=some r->Pb c r:=by
 induction m with
 |zero=>intro r hr;cases hr
 | succ m ih =>
  intro r hr;rw[gy]at hr;split at hr
  ·cases hf:gy g m with
   |none =>
    rw[hf]at hr;cases hr;exact h.get hc m
   |some u =>
    rw[hf]at hr;cases hr;exact(ih u hf).wider (h.get hc m)
  ·exact ih r hr
theorem Hy (k:Wk) (hk:k.n<=6) (s:SS) (st:Bool) (hlo:∀ i,0<=(s.aP i).1) (i:Nat):Pb 11764900 (kX k s st i):=by
 have h1:=D9 k hk s st hlo (k.n-i) i;have h2:(100:Int) * 7 ^ (k.n-i)<=11764900:=by
  have:k.n-i<=6:=by omega
  generalize k.n-i=f at this;have hf:f=0\/f=1\/f=2\/f=3\/f=4\/f=5\/f=6:=by omega
  rcases hf with rfl|rfl|rfl|rfl|rfl|rfl|rfl<;>decide
 have h3:=h1.mono h2;unfold kX Qg;cases hf:gy (jm k s st (k.n-i) i) 41 with
 |none=>unfold Pb;simp
 |some r=>exact N7 h3 (by omega) 41 r hf
theorem Xv {l:List (Int × Int)} {c:Int} (h:∀ x∈l,Pb c x):Pb (c * l.length) (CJ l):=by
 induction l with
 |nil=>simp[Pb,CJ]
 |cons x l ih =>
  have h1:=h x (by simp);have h2:=ih fun y hy=>h y (by simp[hy])
  rw[kT,List.length_cons];have h3:=h1.both h2;have e:c+c * (l.length:Int)=c * ((l.length+1:Nat):Int):=by rw[Int.natCast_add,Int.mul_add];omega
  rw[e]at h3;exact h3
end Go.Wg
namespace Go.Mm
open Go Go.Tm
variable {w w0:World} {X:List Nat} {L:List dF}
variable {V:View}
theorem St.re0 {τ:Nat->Question->Nat} {d:Nat} (h:St (w0.re τ d) X V L w):St w0 X V L w:=⟨h.os,h.output,h.size,h.old,h.view,h.has,h.new,h.off,h.nd⟩
theorem St.re1 (h:St w0 X V L w) (τ:Nat->Question->Nat) (d:Nat):St w0 X V L (w.re τ d):=⟨h.os,h.output,h.size,h.old,h.view,fun e he=>by
 have:=h.has e he;cases e with
 |blk b t cs=>exact this
 |row v t s n xs=>exact⟨this.1,this.2⟩,h.new,h.off,h.nd⟩
end Go.Mm
namespace Go.Wg
open Go Go.Mm
def oQ (x:Int × Int):Int:=x.2-x.1+1
def jA (s:SS) (i:Nat) (err shown:Int):Nat:=s.aK i &&& dO (shown-err) (shown+err)
def PL (k:Wk) (s:SS) (i:Nat) (err:Int) (st:List Nat × Int) (shown:Int):List Nat × Int :=
 if st.1.contains (jA s i err shown) || !can k (s.cu i (jA s i err shown)) then st else(jA s i err shown::st.1,max st.2 (oQ (dW k (s.cu i (jA s i err shown)) false)))
def Kw (k:Wk) (s:SS) (i:Nat) (err lo:Int):Nat->List Nat × Int
 |0=>([],0)
 |c+1=>PL k s i err (Kw k s i err lo c) (lo+c)
def Ia (r:Int × Int) (err:Int):Nat:=(r.2+err-(r.1-err)+1).toNat
def qK (k:Wk) (s:SS) (i:Nat) (err:Int):Int:=(Kw k s i err ((aO k s i).1-err) (Ia (aO k s i) err)).2
def fM (k:Wk) (s:SS) (err:Int):Nat->Int × Int
 |0=>(-1,oQ (dW k s false))
 |i+1=>if qK k s i err<(fM k s err i).2 then((i:Int),qK k s i err) else fM k s err i
def oW (k:Wk) (err:Int):(Int × Int) × Int :=
 if aS k []≠0 then((0,0),aS k [])
 else if fQ err 0 9 then((0,0),1)
 else if (settle k (aN k aC)).isSome then((0,0),9)
 else if (fM k (aN k aC) err k.n).1<0 then((0,0),11) else(fM k (aN k aC) err k.n,0)
end Go.Wg
namespace Go.Proofs.YtjjmefieegcddaaDoor
open Go.RowKit Go.Extern.Stop Go.Stop Go.Extern Go.Mm
theorem as_nil (t:Value) (w:World) :
  Calls Tryd.prog 115 #[.nilIface,t] w fun e w'=>e=.returned (.bool false)/\w'=w:=by
 go_enter Tryd.func115,Tryd.ntmps115
 go_wp2
 go_ret
 exact⟨rfl,rfl⟩
abbrev XF:Value:=.iface 187 (.agg #[Value.pointer (some ⟨1,155,none⟩)])
theorem F8 (t:Addr) (w:World):(ReflectliteValue.unpack (.iface 157 (.pointer (some t)))).run Tryd.prog w
  = .ok (.agg #[Value.pointer (some ⟨1,157,none⟩),.pointer (some ⟨w.heap.size,0,none⟩),.int .u64 150]) (w.alloc (.cells #[.pointer (some t)] 157)):=by kernel_rfl
theorem NI (a:Addr) (w:World):(ReflectliteValue.methodAny (ReflectliteValue.valueError "reflectlite.Value.Type" 0) (fun t _ _ _=>ReflectliteType.toType t) #[.agg #[Value.pointer (some ⟨1,157,none⟩),.pointer (some a),.int .u64 150]]).run Tryd.prog w
  = .ok (.iface 187 (.agg #[Value.pointer (some ⟨1,157,none⟩)])) w:=by kernel_rfl
theorem CG (h:Value) (w:World):(Go.method 330 187 (.agg #[h]) "Kind").run Tryd.prog w=.ok (151,h) w:=by kernel_rfl
theorem Qa (w:World):((ReflectliteType.abiMethod fun t=>(fun a:Nat=>Value.int IntKind.u8 (a:Int)) <$> Rtype.kind t) #[Value.pointer (some ⟨1,157,none⟩)]).run Tryd.prog w=.ok (.int .u8 22) w:=by kernel_rfl
theorem O8 (w:World):((ReflectliteType.abiMethod fun t=>(fun a:Nat=>Value.int IntKind.u8 (a:Int)) <$> Rtype.kind t) #[Value.pointer (some ⟨1,152,none⟩)]).run Tryd.prog w=.ok (.int .u8 25) w:=by kernel_rfl
theorem rlm (z:Sem Value) (f:TypeId->Addr->Nat->Nat->Sem Value) (v:Value) :
  ReflectliteValue.method z f #[v]=(do match <- ReflectliteValue.parts v with|none=>z|some (t,a,fl)=>f t a fl (fl % 32)):=rfl
theorem BL (a:Addr) (w:World):(ReflectliteValue.parts (.agg #[Value.pointer (some ⟨1,157,none⟩),.pointer (some a),.int .u64 150])).run Tryd.prog w=.ok (some (157,a,150)) w:=by kernel_rfl
theorem Dk (a p:Addr) (W:World) (ha:W.cell? a=some (.pointer (some p))):(loadVar 157 a).run Tryd.prog W=.ok (.pointer (some p)) W:=by
 simp[loadVar,qR (show uK Tryd.prog 157=true by kernel_rfl),ha,Result.andThen]
theorem KJ (a p:Addr) (W:World) (ha:W.cell? a=some (.pointer (some p))) :
  (ReflectliteValue.method (ReflectliteValue.valueError "reflectlite.Value.IsNil" 0) ReflectliteValue.isNil #[.agg #[Value.pointer (some ⟨1,157,none⟩),.pointer (some a),.int .u64 150]]).run Tryd.prog W=.ok (.bool false) W:=by
 rw[rlm];simp only[Sem.run_bind,BL,Result.andThen];simp[ReflectliteValue.isNil,Dk a p W ha,Result.andThen,underlying,show Tryd.prog.underlying 157=some (.pointer 152) by kernel_rfl]
theorem CO (h:Value) (w:World):(Go.method 330 187 (.agg #[h]) "Elem").run Tryd.prog w=.ok (162,.agg #[h]) w:=by kernel_rfl
theorem uI (h:Value) (w:World):(Go.method 330 187 (.agg #[h]) "Implements").run Tryd.prog w=.ok (163,.agg #[h]) w:=by kernel_rfl
theorem sG (h:Value) (w:World):(Go.method 330 187 (.agg #[h]) "AssignableTo").run Tryd.prog w=.ok (160,.agg #[h]) w:=by kernel_rfl
theorem OE (w:World):(ReflectliteType.method ReflectliteType.elem #[.agg #[Value.pointer (some ⟨1,157,none⟩)]]).run Tryd.prog w=.ok (.iface 187 (.agg #[Value.pointer (some ⟨1,152,none⟩)])) w:=by kernel_rfl
theorem O1 (w:World):(ReflectliteType.relation "Implements" ReflectliteType.implements_ #[.agg #[Value.pointer (some ⟨1,152,none⟩)],.iface 187 (.agg #[Value.pointer (some ⟨1,155,none⟩)])]).run Tryd.prog w=.ok (.bool true) w:=by kernel_rfl
theorem Iw (v:Value) (w:World):(ReflectliteType.typeOf #[.iface 152 v]).run Tryd.prog w=.ok (.iface 187 (.agg #[Value.pointer (some ⟨1,152,none⟩)])) w:=by kernel_rfl
theorem SV (w:World):(ReflectliteType.relation "AssignableTo" ReflectliteType.assignableTo #[.agg #[Value.pointer (some ⟨1,152,none⟩)],.iface 187 (.agg #[Value.pointer (some ⟨1,152,none⟩)])]).run Tryd.prog w=.ok (.bool true) w:=by kernel_rfl
theorem Gn (i:Int) (w:World):(ReflectliteValue.unpack (.iface 152 (.agg #[.int .i64 i]))).run Tryd.prog w
  = .ok (.agg #[Value.pointer (some ⟨1,152,none⟩),.pointer (some ⟨w.heap.size,0,none⟩),.int .u64 153]) (w.alloc (.cells #[.int .i64 i] 152)):=by kernel_rfl
theorem Ja (w:World):(Rtype.elem? 157).run Tryd.prog w=.ok (some 152) w:=by kernel_rfl
theorem WO (p:Addr) (w:World):(ReflectliteValue.mk 152 p ReflectliteValue.flagAddr).run Tryd.prog w=.ok (.agg #[Value.pointer (some ⟨1,152,none⟩),.pointer (some p),.int .u64 409]) w:=by kernel_rfl
theorem Nv (a p:Addr) (W:World) (ha:W.cell? a=some (.pointer (some p))) :
  (ReflectliteValue.method (ReflectliteValue.valueError "reflectlite.Value.Elem" 0) ReflectliteValue.elem #[.agg #[Value.pointer (some ⟨1,157,none⟩),.pointer (some a),.int .u64 150]]).run Tryd.prog W
   = .ok (.agg #[Value.pointer (some ⟨1,152,none⟩),.pointer (some p),.int .u64 409]) W:=by
 rw[rlm];simp only[Sem.run_bind,BL,Result.andThen];simp[ReflectliteValue.elem,Dk a p W ha,Result.andThen,Ja,WO]
theorem rls (v x:Value):ReflectliteValue.set #[v,x]=(do
  let(some (dst,a,fl),some (src,b,_)):=(<- ReflectliteValue.parts v,<- ReflectliteValue.parts x)
   | unsupported (.noEntry "extern/(internal/reflectlite.Value).Set.zeroValue")
  if fl / ReflectliteValue.flagAddr % 2 == 0 then unsupported (.noEntry "extern/(internal/reflectlite.Value).Set.unaddressable")
  let val <- loadVar src b
  if <- Rtype.directlyAssignable dst src then storeVar dst a val
  else if <- Rtype.implements dst src then
   if (<- Rtype.kind src) == 20 then
    match val with
    | .nilIface=>unsupported (.noEntry "extern/reflectlite: a nil value of one interface type handed on as a value of another")
    |_=>storeVar dst a val
   else storeVar dst a (.iface src val)
  else panicString ("reflectlite.Set: value of type " ++ (<- Rtype.spelt src) ++ " is not assignable to type " ++ (<- Rtype.spelt dst))
  pure (.tuple #[])):=rfl
theorem Jh (a:Addr) (w:World):(ReflectliteValue.parts (.agg #[Value.pointer (some ⟨1,152,none⟩),.pointer (some a),.int .u64 409])).run Tryd.prog w=.ok (some (152,a,409)) w:=by kernel_rfl
theorem LC (a:Addr) (w:World):(ReflectliteValue.parts (.agg #[Value.pointer (some ⟨1,152,none⟩),.pointer (some a),.int .u64 153])).run Tryd.prog w=.ok (some (152,a,153)) w:=by kernel_rfl
theorem Iy (w:World):(Rtype.directlyAssignable 152 152).run Tryd.prog w=.ok true w:=by kernel_rfl
theorem Yj:rowB Tryd.prog 152 1=true:=by kernel_rfl
theorem RI (ta b:Nat) (i:Int) (W:World) (hb:W.heap[b]? = some (.cells #[.int .i64 i] 152 (0,0))) {old:Value} {t:TypeId} (ht:W.heap[ta]? = some (.cells #[old] t (0,0))) :
  (ReflectliteValue.set #[.agg #[Value.pointer (some ⟨1,152,none⟩),.pointer (some ⟨ta,0,none⟩),.int .u64 409],.agg #[Value.pointer (some ⟨1,152,none⟩),.pointer (some ⟨b,0,none⟩),.int .u64 153]]).run Tryd.prog W
   = .ok (.tuple #[]) (W.setCells ta 0 [.int .i64 i]):=by
 obtain⟨d,hu,hd,hi⟩:=sW Yj;have hl:=run_loadVar_mid (P:=Tryd.prog) W b 0 152 [.int .i64 i] d (lK (cs:=[.int .i64 i]) (n:=1) hb rfl) hu hd hi;have hs:=run_storeVar_mid (P:=Tryd.prog) W ta 0 152 #[.int .i64 i] (LV (cs:=[old]) (n:=1) ht (by simp)) hi (by simp[Value.oneCell']);rw[rls];simp only[Sem.run_bind,Jh,LC,Result.andThen];simp[ReflectliteValue.flagAddr,hl,Result.andThen,Iy,hs]
theorem as_hit (i:Int) (tb:Nat) (old:Value) (w:World) (hg:w.cell? ⟨0,0,none⟩=some (Value.iface 187 (.agg #[Value.pointer (some ⟨1,155,none⟩)]))) (ht0:w.heap[tb]? = some (.cells #[old] 152 (0,0))) :
  Calls Tryd.prog 115 #[.iface 152 (.agg #[.int .i64 i]),.iface 157 (.pointer (some ⟨tb,0,none⟩))] w fun ev w'=>ev=.returned (.bool true) /\
   ni tb w w':=by
 have h6:=@run_callFunc_extern Tryd.prog 129 _ (fun args=>ReflectliteValue.unpack (args.getD 0 (.tuple #[]))) Tryd.func129 zk zk zk zk
 have h7:=@run_callFunc_extern Tryd.prog 130 _ (ReflectliteValue.methodAny (ReflectliteValue.valueError "reflectlite.Value.Type" 0) (fun t _ _ _=>ReflectliteType.toType t)) Tryd.func130 zk zk zk zk
 have h8:=@run_callFunc_extern Tryd.prog 131 _ (ReflectliteValue.method (ReflectliteValue.valueError "reflectlite.Value.IsNil" 0) ReflectliteValue.isNil) Tryd.func131 zk zk zk zk
 have h27:=@run_callFunc_extern Tryd.prog 151 _ (ReflectliteType.abiMethod fun t=>do pure (.int .u8 (<- Rtype.kind t))) Tryd.func151 zk zk zk zk;have h37:=@run_callFunc_extern Tryd.prog 162 _ (ReflectliteType.method ReflectliteType.elem) Tryd.func162 zk zk zk zk
 have h38:=@run_callFunc_extern Tryd.prog 163 _ (ReflectliteType.relation "Implements" ReflectliteType.implements_) Tryd.func163 zk zk zk zk
 have h10:=@run_callFunc_extern Tryd.prog 134 _ ReflectliteType.typeOf Tryd.func134 zk zk zk zk
 have h35:=@run_callFunc_extern Tryd.prog 160 _ (ReflectliteType.relation "AssignableTo" ReflectliteType.assignableTo) Tryd.func160 zk zk zk zk
 have h11:=@run_callFunc_extern Tryd.prog 135 _ (ReflectliteValue.method (ReflectliteValue.valueError "reflectlite.Value.Elem" 0) ReflectliteValue.elem) Tryd.func135 zk zk zk zk
 have h12:=@run_callFunc_extern Tryd.prog 136 _ ReflectliteValue.set Tryd.func136 zk zk zk zk;have tO:=Iw;have mA:=sG;have a25:=SV;have v25:=Gn;have f6:=F8;have f7:=NI;have mK:=CG;have mE:=CO;have mI:=uI;have k27:=Qa;have k25:=O8;have e27:=OE;have i25:=O1;have htl:=lt_of_heap ht0;have n8:=KJ ⟨w.heap.size,0,none⟩ ⟨tb,0,none⟩ ((w.alloc (.cells #[.pointer (some ⟨tb,0,none⟩)] 157)).alloc (.cells #[Value.pointer (some ⟨1,157,none⟩),.pointer (some ⟨w.heap.size,0,none⟩),.int .u64 150] 176)) (by simp);have hlt:0<w.heap.size:=by
  rcases Nat.eq_zero_or_pos w.heap.size with h0|h
  ·simp[World.cell?,h0]at hg
  ·exact h
 have hg2:((w.alloc (.cells #[.pointer (some ⟨tb,0,none⟩)] 157)).alloc (.cells #[Value.pointer (some ⟨1,157,none⟩),.pointer (some ⟨w.heap.size,0,none⟩),.int .u64 150] 176)).cell? ⟨0,0,none⟩=some (Value.iface 187 (.agg #[Value.pointer (some ⟨1,155,none⟩)])):=by
  rw[World.cell?_alloc_lt _ _ ⟨0,0,none⟩ (by simp),World.cell?_alloc_lt _ _ ⟨0,0,none⟩ hlt];exact hg
 have el:=Nv ⟨w.heap.size,0,none⟩ ⟨tb,0,none⟩ (((w.alloc (.cells #[.pointer (some ⟨tb,0,none⟩)] 157)).alloc (.cells #[Value.pointer (some ⟨1,157,none⟩),.pointer (some ⟨w.heap.size,0,none⟩),.int .u64 150] 176)).alloc (.cells #[Value.pointer (some ⟨1,157,none⟩),.pointer (some ⟨w.heap.size,0,none⟩),.int .u64 150] 176)) (by rw[World.cell?_alloc_lt _ _ ⟨w.heap.size,0,none⟩ (by simp;omega)];simp);have st:=RI tb (w.heap.size+1+1+1) i ((((w.alloc (.cells #[.pointer (some ⟨tb,0,none⟩)] 157)).alloc (.cells #[Value.pointer (some ⟨1,157,none⟩),.pointer (some ⟨w.heap.size,0,none⟩),.int .u64 150] 176)).alloc (.cells #[Value.pointer (some ⟨1,157,none⟩),.pointer (some ⟨w.heap.size,0,none⟩),.int .u64 150] 176)).alloc (.cells #[.int .i64 i] 152))
  (by have:=heap_alloc_new (((w.alloc (.cells #[.pointer (some ⟨tb,0,none⟩)] 157)).alloc (.cells #[Value.pointer (some ⟨1,157,none⟩),.pointer (some ⟨w.heap.size,0,none⟩),.int .u64 150] 176)).alloc (.cells #[Value.pointer (some ⟨1,157,none⟩),.pointer (some ⟨w.heap.size,0,none⟩),.int .u64 150] 176)) (.cells #[.int .i64 i] 152);simpa using this)
  (old:=old) (t:=152)
  (by rw[heap_alloc_old _ _ (by simp;omega),heap_alloc_old _ _ (by simp;omega),heap_alloc_old _ _ (by simp;omega),heap_alloc_old _ _ htl];exact ht0)
 go_enter Tryd.func115,Tryd.ntmps115
 go_wp2
 refine wp_loop_rounds 1 ?_;rw[rounds_succ]
 go_wp2
 go_ret
 refine⟨rfl,?_⟩;obtain⟨q1,q2,q3,q4⟩:=qP [.int .i64 i] tb 0 ((((w.alloc (.cells #[.pointer (some ⟨tb,0,none⟩)] 157)).alloc (.cells #[Value.pointer (some ⟨1,157,none⟩),.pointer (some ⟨w.heap.size,0,none⟩),.int .u64 150] 176)).alloc (.cells #[Value.pointer (some ⟨1,157,none⟩),.pointer (some ⟨w.heap.size,0,none⟩),.int .u64 150] 176)).alloc (.cells #[.int .i64 i] 152));refine⟨q1,q2,by rw[q3];simp;omega,fun j hj hjt=>(q4 j hjt).trans ?_⟩;rw[heap_alloc_old _ _ (by simp;omega),heap_alloc_old _ _ (by simp;omega),heap_alloc_old _ _ (by simp;omega),heap_alloc_old _ _ hj]
end Go.Proofs.YtjjmefieegcddaaDoor
namespace Go.Proofs.YtjjmefieegcddaaDoor
open Go.RowKit Go.Wg Go.Mm
theorem Xt (lo hi:Int) (h:hi<0\/hi<lo) (w:World) :
  Calls Tryd.prog 100 #[.int .i64 lo,.int .i64 hi] w fun r w'=>r=.returned (.int .u64 0)/\w'=w:=by
 by_cases h0:hi<0
 ·go_enter Tryd.func100,Tryd.ntmps100
  go_wp2
  go_ret
  exact⟨rfl,rfl⟩
 ·have h1:0<=hi:=by omega
  have h2:hi<lo:=by omega
  clear h h0;go_enter Tryd.func100,Tryd.ntmps100
  go_wp2
  go_ret
  exact⟨rfl,rfl⟩
theorem TF (lo hi:Int) (h0:0<=hi) (h:lo<=hi) (h1:40<lo) (w:World) :
  Calls Tryd.prog 100 #[.int .i64 lo,.int .i64 hi] w fun r w'=>r=.returned (.int .u64 0)/\w'=w:=by
 have h2:0<=lo:=by omega
 go_enter Tryd.func100,Tryd.ntmps100
 go_wp2
 go_ret
 exact⟨rfl,rfl⟩
theorem Vq (lo hi:Nat) (h:lo<=hi) (h1:hi<=40) (w:World) :
  Calls Tryd.prog 100 #[.int .i64 lo,.int .i64 hi] w fun r w'=>r=.returned (.int .u64 (qW lo hi:Nat))/\∃ n,w'=w.drewN n:=by
 have h2:(0:Int)<=hi:=by omega
 have h3:(lo:Int)<=hi:=by omega
 have h4:(lo:Int)<=40:=by omega
 have h5:(hi:Int)<=40:=by omega
 go_enter Tryd.func100,Tryd.ntmps100
 go_wp2
 go_quiet (fail)
 go_wp2
 go_ret
 refine⟨?_,_,rfl⟩;have:=wK lo hi h h1;simpa using this
theorem UC (lo:Nat) (hi:Int) (h:(lo:Int)<=40) (h1:40<hi) (w:World) :
  Calls Tryd.prog 100 #[.int .i64 lo,.int .i64 hi] w fun r w'=>r=.returned (.int .u64 (qW lo 40:Nat))/\∃ n,w'=w.drewN n:=by
 have h2:(0:Int)<=hi:=by omega
 have h3:(lo:Int)<=hi:=by omega
 go_enter Tryd.func100,Tryd.ntmps100
 go_wp2
 go_quiet (fail)
 go_wp2
 go_ret
 refine⟨?_,_,rfl⟩;have:=wK lo 40 zw zw;simpa using this
theorem WS (lo:Int) (hi:Nat) (h:lo<0) (h1:hi<=40) (w:World) :
  Calls Tryd.prog 100 #[.int .i64 lo,.int .i64 hi] w fun r w'=>r=.returned (.int .u64 (qW 0 hi:Nat))/\∃ n,w'=w.drewN n:=by
 have h2:(0:Int)<=hi:=by omega
 have h3:lo<=hi:=by omega
 have h5:(hi:Int)<=40:=by omega
 go_enter Tryd.func100,Tryd.ntmps100
 go_wp2
 go_quiet (fail)
 go_wp2
 go_ret
 refine⟨?_,_,rfl⟩;have:=wK 0 hi zw h1;simpa[wrap_u64]using this
theorem WZ (lo hi:Int) (h:lo<0) (h1:40<hi) (w:World) :
  Calls Tryd.prog 100 #[.int .i64 lo,.int .i64 hi] w fun r w'=>r=.returned (.int .u64 (qW 0 40:Nat))/\∃ n,w'=w.drewN n:=by
 have h2:(0:Int)<=hi:=by omega
 have h3:lo<=hi:=by omega
 go_enter Tryd.func100,Tryd.ntmps100
 go_wp2
 go_quiet (fail)
 go_wp2
 go_ret
 refine⟨?_,_,rfl⟩;have:=wK 0 40 zw zw;simpa[wrap_u64]using this
theorem yH (lo hi:Int) (w:World) :
  Calls Tryd.prog 100 #[.int .i64 lo,.int .i64 hi] w fun r w'=>r=.returned (.int .u64 (dO lo hi:Nat))/\Kp w w':=by
 unfold dO;by_cases h:hi<0\/hi<lo
 ·rw[if_pos h];exact(Xt lo hi h w).mono fun _ _ ⟨h1,h2⟩=>⟨h1,h2 ▸ Kp.refl w⟩
 ·rw [if_neg h];by_cases h2:40 < lo
  ·rw[if_pos h2];exact(TF lo hi zw zw h2 w).mono fun _ _ ⟨h1,h2⟩=>⟨h1,h2 ▸ Kp.refl w⟩
  ·rw [if_neg h2];have key:Calls Tryd.prog 100 #[.int .i64 lo,.int .i64 hi] w fun r w'=>r=.returned (.int .u64 (qW lo.toNat (min hi 40).toNat:Nat))/\∃ n,w'=w.drewN n:=by
    by_cases h3:lo<0
    ·by_cases h4:40 < hi
     ·have:=WZ lo hi h3 h4 w
      rwa [show lo.toNat=0 by omega,show(min hi 40).toNat=40 by omega]
     ·have:=WS lo hi.toNat h3 zw w;rw [show ((hi.toNat:Nat):Int)=hi by omega] at this
      rwa [show lo.toNat=0 by omega,show(min hi 40).toNat=hi.toNat by omega]
    ·by_cases h4:40 < hi
     ·have:=UC lo.toNat hi zw h4 w;rw [show ((lo.toNat:Nat):Int)=lo by omega] at this
      rwa [show(min hi 40).toNat=40 by omega]
     ·have:=Vq lo.toNat hi.toNat zw zw w;rw [show ((lo.toNat:Nat):Int)=lo by omega,show ((hi.toNat:Nat):Int)=hi by omega] at this
      rwa [show(min hi 40).toNat=hi.toNat by omega]
   exact key.mono fun _ _ ⟨h1,n,h2⟩=>⟨h1,h2 ▸ Kp.drew w n⟩
theorem ji (m n:Nat) (hm:m<18446744073709551616) (hn:n<64) (w:World) :
  Calls Tryd.prog 125 #[.int .u64 m,.int .i64 n] w fun r w'=>r=.returned (.bool (m.testBit n))/\w'=w:=by
 have h1:(0:Int)<=n:=by omega
 have h2:(n:Int)<64:=by omega
 have:=UU m n hm;have HS:Hid ((bits .and .u64 ((m:Int) / 2 ^ n) 1 == 1)=m.testBit n):=this;clear this;go_enter Tryd.func125,Tryd.ntmps125
 go_wp2
 go_ret
 refine⟨?_,rfl⟩;have:=HS.out;simp[<- this]
end Go.Proofs.YtjjmefieegcddaaDoor
