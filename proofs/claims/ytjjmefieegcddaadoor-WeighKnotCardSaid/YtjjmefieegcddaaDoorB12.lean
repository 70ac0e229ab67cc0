/- A part of the proof: S18, S19, S20, W20, W21, W22, W23, Q6, W24, W25, W26, W27, W28, W62, W63, W64, W65, Q7, W29, V5, T13. -/
import Derived.Test.YtjjmefieegcddaaDoorB07
import Derived.Test.YtjjmefieegcddaaDoorB11
import Derived.Defers
import Derived.Recover
import Derived.Test.YtjjmefieegcddaaDoorB08
import Derived.Scope
import Derived.Test.YtjjmefieegcddaaDoorB02
import Derived.DyingOn
import Derived.Test.YtjjmefieegcddaaDoorB03
set_option linter.unusedVariables false
set_option linter.unusedSimpArgs false
namespace Go.Wg
open Go Go.Mm
def brF (k:Wk):Nat→Nat→List Nat
 | 0,_=>[]
 | f+1,i=>i :: (k.fills i).flatMap (brF k f)
def knotB (k:Wk) (l:List Nat) (i:Nat):Bool:=(l.getD i 0 == 0) && (k.fills i).all fun x=>l.getD x 0 != 0
def knC (k:Wk) (l:List Nat) (pre:List Nat):List Value:=(List.range k.n).map fun i=>.bool (pre.contains i && knotB k l i)
def knotsTo (k:Wk) (l:List Nat) (m:Nat):List Int:=((List.range m).filter (knotB k l)).map fun i:Nat=>(i:Int)
def knotsE (k:Wk):List Int × Int:=if beginE k []=0 then (knotsTo k (up k (nowS k noneB)) k.n,0) else ([],beginE k [])
theorem knotsTo_succ (k:Wk) (l:List Nat) (m:Nat):knotsTo k l (m+1)=if knotB k l m then knotsTo k l m ++ [(m:Int)] else knotsTo k l m:=by
 unfold knotsTo
 rw [List.range_succ,List.filter_append,List.map_append]
 by_cases h:knotB k l m=true
 ·simp [h]
 ·simp [h]
theorem knotsTo_len (k:Wk) (l:List Nat) (m:Nat):(knotsTo k l m).length≤m:=by
 unfold knotsTo
 rw [List.length_map]
 have:=List.length_filter_le (knotB k l) (List.range m)
 rwa [List.length_range] at this
theorem knC_len (k:Wk) (l:List Nat) (pre:List Nat):(knC k l pre).length=k.n:=by simp [knC]
theorem knC_at (k:Wk) (l:List Nat) (pre:List Nat) {i:Nat} (hi:i < k.n):(knC k l pre)[i]? = some (.bool (pre.contains i && knotB k l i)):=by
 simp [knC,hi]
theorem knC_nil (k:Wk) (l:List Nat):knC k l []=List.replicate k.n (.bool false):=by
 refine List.ext_getElem? fun i=>?_
 by_cases hi:i < k.n
 ·rw [knC_at k l [] hi];simp [hi]
 ·rw [List.getElem?_eq_none (by rw [knC_len];omega),List.getElem?_eq_none (by simp;omega)]
theorem knC_hit (k:Wk) (l:List Nat) (pre:List Nat) {i:Nat} (hi:i < k.n) (h:knotB k l i=true):(knC k l pre).set i (.bool true)=knC k l (pre ++ [i]):=by
 refine List.ext_getElem? fun j=>?_
 by_cases hj:j < k.n
 ·rw [knC_at k l _ hj,List.getElem?_set]
  by_cases e:i=j
  ·subst e
   simp [knC_len,hi,h]
  ·rw [if_neg e,knC_at k l _ hj]
   have:(pre ++ [i]).contains j=pre.contains j:=by
    simp [List.contains_iff_mem,Ne.symm e,Bool.eq_iff_iff]
   rw [this]
 ·rw [List.getElem?_eq_none (by simp [knC_len];omega),List.getElem?_eq_none (by rw [knC_len];omega)]
theorem knC_miss (k:Wk) (l:List Nat) (pre:List Nat) {i:Nat} (h:knotB k l i=false):knC k l pre=knC k l (pre ++ [i]):=by
 unfold knC
 refine List.map_congr_left fun j _=>?_
 by_cases e:j=i
 ·subst e;simp [h]
 ·have:(pre ++ [i]).contains j=pre.contains j:=by
   simp [List.contains_iff_mem,e,Bool.eq_iff_iff]
  rw [this]
theorem brF_down {k:Wk} (hok:k.Ok) {j i:Nat} (hi:i∈k.fills j):∀ (f s:Nat),s < k.n→k.n - s≤f→j∈brF k f s→i∈brF k f s
 | 0,_,_,_,hj=>nomatch hj
 | f+1,s,hs,hf,hj=>by
  rw [brF] at hj ⊢
  have hgt:=Go.Proofs.YtjjmefieegcddaaDoor.fills_gt hok hi
  refine List.mem_cons_of_mem _ ?_
  rcases List.mem_cons.1 hj with rfl | hj
  ·refine List.mem_flatMap.2 ⟨i,hi,?_⟩
   obtain ⟨g,rfl⟩:∃ g,f=g+1:=⟨f - 1,by omega⟩
   rw [brF]
   exact List.mem_cons_self ..
  ·obtain ⟨y,hy,hjy⟩:=List.mem_flatMap.1 hj
   have hyy:=Go.Proofs.YtjjmefieegcddaaDoor.fills_gt hok hy
   exact List.mem_flatMap.2 ⟨y,hy,brF_down hok hi f y hyy.2 (by omega) hjy⟩
theorem brF_all {k:Wk} (hok:k.Ok):∀ (i:Nat),i < k.n→∃ s∈k.sources,i∈brF k (k.n - s) s:=by
 intro i
 induction i using Nat.strongRecOn with
 | ind i ih =>
  intro hi
  have hv:=hok.ves i hi
  by_cases h:(k.v i).from_ < 0
  ·refine ⟨i,List.mem_filter.2 ⟨List.mem_range.2 hi,by simpa using h⟩,?_⟩
   obtain ⟨g,hg⟩:∃ g,k.n - i=g+1:=⟨k.n - i - 1,by omega⟩
   rw [hg,brF]
   exact List.mem_cons_self ..
  ·obtain ⟨j,hj⟩:∃ j:Nat,(k.v i).from_=(j:Int):=⟨(k.v i).from_.toNat,by omega⟩
   have h2:=hv.2.1
   have hji:j < i:=by omega
   obtain ⟨s,hs,hjs⟩:=ih j hji (by omega)
   have hsn:s < k.n:=List.mem_range.1 (List.mem_filter.1 hs).1
   exact ⟨s,hs,brF_down hok (List.mem_filter.2 ⟨List.mem_range.2 hi,by simpa using hj⟩) _ s hsn (Nat.le_refl _) hjs⟩
def brTo (k:Wk) (m:Nat):List Nat:=(k.sources.take m).flatMap fun s=>brF k (k.n - s) s
theorem brTo_succ (k:Wk) {m:Nat} (hm:m < k.sources.length):brTo k (m+1)=brTo k m ++ brF k (k.n - k.sources.getD m 0) (k.sources.getD m 0):=by
 unfold brTo
 rw [List.take_add_one,List.getElem?_eq_getElem hm,List.flatMap_append]
 simp [List.getD_eq_getElem?_getD,List.getElem?_eq_getElem hm]
theorem knC_all {k:Wk} (hok:k.Ok) (l:List Nat):knC k l (brTo k k.sources.length)=(List.range k.n).map fun i=>.bool (knotB k l i):=by
 unfold knC
 refine List.map_congr_left fun i hi=>?_
 have hm:i∈brTo k k.sources.length:=by
  obtain ⟨s,hs,h⟩:=brF_all hok i (List.mem_range.1 hi)
  unfold brTo
  rw [List.take_length]
  exact List.mem_flatMap.2 ⟨s,hs,h⟩
 have:(brTo k k.sources.length).contains i=true:=by simpa [List.contains_iff_mem] using hm
 rw [this,Bool.true_and]
end Go.Wg
namespace Go.Wg
open Go Go.Mm
end Go.Wg
namespace Go.Wg
open Go Go.Mm Go.Proofs.YtjjmefieegcddaaDoor
def meltK (more:List Rdg):Wk:=⟨[⟨-1,40,1,4⟩,⟨0,20,0,2⟩,⟨0,20,0,0⟩,⟨1,20,0,0⟩],[⟨0,0,30,1⟩,⟨2,1,12,1⟩,⟨3,1,15,0⟩] ++ more⟩
def vesC (l:List Ves):List Value:=l.flatMap Ves.cells
def rdgC (l:List Rdg):List Value:=l.flatMap Rdg.cells
theorem flat4 {α:Type} (f:α→List Value) (hf:∀ x,(f x).length=4):∀ (l:List α) (i:Nat) (x:α),l[i]? = some x→∀ j,j < 4→(l.flatMap f)[i * 4+j]? = (f x)[j]?
 | [],i,x,h,_,_=>by simp at h
 | y :: l,0,x,h,j,hj=>by
  simp at h
  subst h
  rw [List.flatMap_cons,Nat.zero_mul,Nat.zero_add,List.getElem?_append_left (by rw [hf];exact hj)]
 | y :: l,i+1,x,h,j,hj=>by
  rw [List.flatMap_cons,List.getElem?_append_right (by rw [hf];omega),hf,show (i+1) * 4+j - 4=i * 4+j by omega]
  exact flat4 f hf l i x (by simpa using h) j hj
theorem flat4_len {α:Type} (f:α→List Value) (hf:∀ x,(f x).length=4) (l:List α):(l.flatMap f).length=l.length * 4:=by
 induction l with
 | nil=>rfl
 | cons y l ih =>
  rw [List.flatMap_cons,List.length_append,hf,ih,List.length_cons]
  omega
theorem vesC_flat (l:List Ves):∀ c∈vesC l,flat0 c=true:=by
 intro c hc
 obtain ⟨v,_,hv⟩:=List.mem_flatMap.1 hc
 simp [Ves.cells] at hv
 rcases hv with rfl | rfl | rfl | rfl <;> rfl
theorem rdgC_flat (l:List Rdg):∀ c∈rdgC l,flat0 c=true:=by
 intro c hc
 obtain ⟨v,_,hv⟩:=List.mem_flatMap.1 hc
 simp [Rdg.cells] at hv
 rcases hv with rfl | rfl | rfl | rfl <;> rfl
structure Bs (V:View):Prop where
 gv:V.Cell 0 0 errT
 last:∃ o,V (gN - 1)=some o
theorem Bs.mono {V V':View} (h:Bs V) (hV:∀ j o,V j=some o→V' j=some o):Bs V':=⟨h.gv.mono hV,by obtain ⟨o,ho⟩:=h.last;exact ⟨o,hV _ _ ho⟩⟩
theorem wk_of {V:View} {w w':World} {k:Wk} {bV gR cap:Nat} {cur:Array Value} (hB:Bs V) (hV:V.In w) (hk:Kp w w') (hn:k.n≤100∧k.rdg.length≤100) (l1:w.heap.size≤bV) (l2:w.heap.size≤gR)
  (h1:w'.heap[bV]? = some (.cells (vesC k.ves).toArray 29 (0,0))) (h2:w'.heap[gR]? = some (.cells cur 59 (0,0))) (hcap:k.rdg.length≤cap) (hmax:cap≤maxLen) (hcur:cur.toList.take (k.rdg.length * 4)=rdgC k.rdg)
  (hpad:∀ i c,k.rdg.length * 4≤i→cur[i]? = some c→flat0 c=true) :
  ∃ V':View,(∀ i,i < w.heap.size→V' i=V i)∧V'.In w'∧WkIn V' (.slice (some ⟨bV,0,none⟩) k.n k.n) (.slice (some ⟨gR,0,none⟩) k.rdg.length cap) k:=by
 have hne:bV≠gR:=by
  rintro rfl
  rw [h1] at h2
  cases h2
 let V':View:=fun j=>if j=bV then some (.cells (vesC k.ves).toArray 29 (0,0)) else if j=gR then some (.cells cur 59 (0,0)) else V j
 have e1:V' bV=some (.cells (vesC k.ves).toArray 29 (0,0)):=by simp [V']
 have e2:V' gR=some (.cells cur 59 (0,0)):=by simp [V',Ne.symm hne]
 have e3:∀ i,i < w.heap.size→V' i=V i:=fun i hi=>by
  have:i≠bV:=by omega
  have:i≠gR:=by omega
  simp [V', *]
 obtain ⟨o,ho⟩:=hB.last
 have hgl:gN - 1 < w.heap.size:=lt_of_heap (hV _ _ ho)
 have hv4:∀ v:Ves,v.cells.length=4:=fun _=>rfl
 have hr4:∀ r:Rdg,r.cells.length=4:=fun _=>rfl
 refine ⟨V',e3,fun j u hj=>?_,⟨⟨_,k.n,rfl,Nat.le_refl _,by unfold maxLen;omega,fun _=>⟨bV,0,rfl,fun i hi j v hj=>?_⟩⟩,⟨_,cap,rfl,hcap,hmax,fun _=>⟨gR,0,rfl,fun i hi j v hj=>?_⟩⟩,hn,?_⟩⟩
 ·by_cases c1:j=bV
  ·subst c1
   rw [e1] at hj
   cases hj
   exact h1
  ·by_cases c2:j=gR
   ·subst c2
    rw [e2] at hj
    cases hj
    exact h2
   ·have:V' j=V j:=by simp [V',c1,c2]
    rw [this] at hj
    have:=hV j u hj
    rw [hk.old j (lt_of_heap this)]
    exact this
 ·have hj4:j < 4:=by
   have:=(List.getElem?_eq_some_iff.1 hj).1
   simpa [Ves.cells] using this
  refine ⟨_,_,_,e1,?_⟩
  have hl:k.ves[i]? = some (k.v i):=by
   unfold Wk.n at hi
   simp [Wk.v,List.getD_eq_getElem?_getD,List.getElem?_eq_getElem hi]
  have:=flat4 Ves.cells hv4 k.ves i (k.v i) hl j hj4
  rw [hj] at this
  rw [List.getElem?_toArray,Nat.zero_add]
  exact this
 ·have hj4:j < 4:=by
   have:=(List.getElem?_eq_some_iff.1 hj).1
   simpa [Rdg.cells] using this
  refine ⟨_,_,_,e2,?_⟩
  have hl:k.rdg[i]? = some (k.rdg.getD i default):=by simp [List.getD_eq_getElem?_getD,List.getElem?_eq_getElem hi]
  have:=flat4 Rdg.cells hr4 k.rdg i _ hl j hj4
  rw [hj] at this
  have h3:(cur.toList.take (k.rdg.length * 4))[i * 4+j]? = some v:=by rw [hcur];exact this
  rw [List.getElem?_take,if_pos (by omega)] at h3
  rw [Nat.zero_add]
  simpa using h3
 ·refine ⟨[bV,gR],⟨fun b hb=>?_,fun b hb=>?_,⟨o,by rw [e3 _ hgl];exact ho⟩⟩,.inr (.inr ⟨bV,0,_,_,rfl,by simp⟩),.inr (.inr ⟨gR,0,_,_,rfl,by simp⟩)⟩
  ·rcases List.mem_cons.1 hb with rfl | hb
   ·exact ⟨_,_,e1,fun v hv=>.inl (vesC_flat _ v (by simpa using hv))⟩
   ·obtain rfl:b=gR:=by simpa using hb
    refine ⟨_,_,e2,fun v hv=>.inl ?_⟩
    obtain ⟨i,hi,hiv⟩:=Array.mem_iff_getElem.1 hv
    rcases Nat.lt_or_ge i (k.rdg.length * 4) with h | h
    ·refine rdgC_flat k.rdg v ?_
     rw [← hcur]
     have:(cur.toList.take (k.rdg.length * 4))[i]? = some v:=by
      rw [List.getElem?_take,if_pos h]
      simp [hi,hiv]
     exact List.mem_of_getElem? this
    ·exact hpad i v h (by rw [Array.getElem?_eq_getElem hi,hiv])
  ·have:b=bV∨b=gR:=by simpa using hb
   rcases this with rfl | rfl <;> omega
end Go.Wg
namespace Go.Proofs.YtjjmefieegcddaaDoor
open Go.RowKit Go.Wg Go.Mm
def srcTo (k:Wk) (i:Nat):List Nat:=(List.range i).filter fun x=>decide ((k.v x).from_ < 0)
theorem srcTo_len (k:Wk) (i:Nat):(srcTo k i).length≤i:=by
 unfold srcTo
 have:=List.length_filter_le (fun x=>decide ((k.v x).from_ < 0)) (List.range i)
 rwa [List.length_range] at this
set_option maxRecDepth 20000 in
set_option maxHeartbeats 2000000 in
theorem sources_ok (V:View) (p:Nat) (k:Wk) (ts:List Nat) (vv rv:Value) (hC:Cel V p k ts vv rv) (w:World) (hV:V.In w) :
  Calls Tryd.prog 93 #[ptr p] w fun r w'=>∃ v,r=.returned v∧Kp w w'∧(Ent.row v 124 1 k.sources.length (k.sources.map fun x=>ptr (ts.getD x 0))).Holds w'∧∀ b,v.ownBlock=some b→w.heap.size≤b:=by
 obtain ⟨cg,ccap,hc2,hcc⟩:=hC.c2
 have hn6:=hC.le
 have htun:=hC.tun
 have hS:=(St.start w V hV).nilRow 124 1
 clear hC
 unfold ptr at hcc ⊢
 go_enter Tryd.func93,Tryd.ntmps93
 go_wp2_with (((with_reducible refine gL ?_);refine qv1 hS rfl rfl rfl ?_);refine ⟨_,zd,?_⟩;clear hS;(try clear w');intro a' hp;(try simp only [fr] at hp);subst hp;intro w' hS;(try simp only [sE] at hS))
 go_loopw [3,11] (fun sv iv wr=>∃ (i:Nat),i≤k.n∧iv=.int .i64 (i:Int)∧sv.oneCell'=true∧St w [] V [.row sv 124 1 (srcTo k i).length ((srcTo k i).map fun x=>ptr (ts.getD x 0))] wr) (fun _ iv _=>k.n - (intOf iv).toNat)
 case atStart=>exact ⟨0,by omega,rfl,rfl,hS⟩
 case round =>
  clear hS
  obtain ⟨i,hi,rfl,hone,hS⟩:=hrel
  by_cases hlt:i < k.n
  ·have h0:(0:Int)≤i:=by omega
   have h1:(i:Int) < k.n:=by omega
   have hpx:=hcc i hlt
   have hfr:=htun i hlt 0 _ rfl
   have hsl:=srcTo_len k i
   simp only [Nat.zero_add] at hfr
   have HE:srcTo k (i+1)=if (k.v i).from_ < 0 then srcTo k i ++ [i] else srcTo k i:=by
    unfold srcTo
    rw [List.range_succ,List.filter_append]
    by_cases h:(k.v i).from_ < 0 <;> simp [h]
   clear hcc htun
   generalize hti:ts.getD i 0=ti at hpx hfr
   replace hti:=mkHid hti
   by_cases hneg:(k.v i).from_ < 0
   ·rw [if_pos hneg] at HE
    replace HE:=mkHid HE
    go_wp2_with (first | (((with_reducible refine gL ?_);refine qv1 hS rfl rfl rfl ?_);refine ⟨_,zd,?_⟩;clear hS;(try clear w');intro a' hp;(try simp only [fr] at hp);subst hp;intro w' hS;(try simp only [sE] at hS)) | ((with_reducible refine gSl ?_);refine qbsl hS rfl rfl ?_;refine ⟨_,zq,zd,?_⟩;clear hS;(try clear w');intro _;intro a' hp;(try simp only [fr] at hp);subst hp;intro w' hS) | ((with_reducible refine gAp ?_);refine qap rfl rfl ?_;refine ⟨_,_,_,_,by exact rfl,by exact rfl,?_⟩;refine appG_of hS zd ?_;clear hS;(try clear w');intro va w' hS;intro a' hp;(try simp only [fr] at hp);subst hp;(try simp only [sE] at hS);have hva:=rowOne hS va))
    go_roundw
    case rel =>
     refine ⟨i+1,by omega,by go_num,hva,?_⟩
     rw [HE.out,List.map_append,List.length_append]
     simp only [List.map_cons,List.map_nil,List.length_cons,List.length_nil,ptr]
     rw [hti.out]
     exact hS.drop
    case measure=>simp only [intOf];omega
   ·rw [if_neg hneg] at HE
    replace HE:=mkHid HE
    go_wp2_with (((with_reducible refine gL ?_);refine qv1 hS rfl rfl rfl ?_);refine ⟨_,zd,?_⟩;clear hS;(try clear w');intro a' hp;(try simp only [fr] at hp);subst hp;intro w' hS;(try simp only [sE] at hS))
    go_roundw
    case rel =>
     refine ⟨i+1,by omega,by go_num,hone,?_⟩
     rw [HE.out]
     exact hS
    case measure=>simp only [intOf];omega
  ·obtain rfl:i=k.n:=by omega
   go_wp2_with (fail)
   ((try simp only [Exit.inBlock,Exit.then]);(try refine bodyPost_norm ?_);refine ret_by ⟨_,by exact results1 (r1:=.tmp 2) (by kernel_rfl) (by exact rs_tmp rfl),?_⟩ rfl)
   refine ⟨_,rfl,hS.toKp,hS.has _ (List.mem_cons_self ..),fun b hb=>?_⟩
   rcases hS.new _ (List.mem_cons_self ..) b hb with h | h
   ·exact h
   ·cases h
end Go.Proofs.YtjjmefieegcddaaDoor
namespace Go.Proofs.YtjjmefieegcddaaDoor
open Go.RowKit Go.Wg Go.Mm
theorem cellar_mono {V V':View} {p:Nat} {k:Wk} (h:Cellar V p k) (hV:∀ i o,V i=some o→V' i=some o):Cellar V' p k:=by
 obtain ⟨ts,vv,rv,hC⟩:=h
 exact ⟨ts,vv,rv,hC.mono hV⟩
theorem newV_mono {V:View} {w w1 w':World} (hV:V.In w) (hk:w.heap.size≤w1.heap.size):∀ i o,newV V w1 w' i=some o→newV V w w' i=some o:=fun i o h=>by
 unfold newV at h ⊢
 split at h
 ·rename_i h1
  have:=lt_of_heap (hV i o h)
  simp [this,h]
 ·rename_i h1
  rw [if_neg (by omega)];exact h
structure BegR (V:View) (w w':World) (k:Wk) (ns:List Int) (c:Value):Prop where
 kp:Kp w w'
 bad:beginE k ns≠0→c=.pointer none
 good:beginE k ns=0→∃ p,c=.pointer (some ⟨p,0,none⟩)∧(newV V w w').In w'∧Cellar (newV V w w') p k∧∃ D,Closed (newV V w w') D∧p∈D
set_option maxRecDepth 20000 in
set_option maxHeartbeats 2000000 in
theorem begin_ok (V:View) (vv rv:Value) (k:Wk) (hk:WkIn V vv rv k) (sl:Value) (ns:List Int) (hsl:VSl V sl ns.length 1 fun j=>[.int .i64 (ns.getD j 0)]) (hlen:ns.length≤100) (w:World) (hV:V.In w) :
  Calls Tryd.prog 77 #[.agg #[vv,rv],sl] w fun r w'=>∃ c,r=.returned (.tuple #[c,.int .i64 (beginE k ns)])∧BegR V w w' k ns c:=by
 have hopen:=fun hok w1 hV1=>open_ok V vv rv k hk hok w1 hV1
 have hcheck:=fun w1 hV1=>check_ok V vv rv k hk w1 hV1
 obtain ⟨va,vcap,rfl,hvc,hvm,hve⟩:=hk.ves.is
 obtain ⟨ra,rcap,rfl,hrc,hrm,hre⟩:=hk.rdg.is
 obtain ⟨na,ncap,rfl,hnc,hnm,hne⟩:=hsl.is
 have hn100:=hk.small.1
 have hS:=St.start w V hV
 clear hk hsl hve hre
 by_cases hck:checkE k=0
 ·have hok:=ok_of_check hck
  have hpos:=hok.pos
  have hn6:=hok.le
  have hB:beginE k ns=if ns.all (fun n=>!outB n 0 (k.n - 1)) then 0 else 3:=by unfold beginE;rw [if_neg (by simp [hck])]
  have hopen:=hopen hok
  rw [hck] at hcheck
  replace hck:=mkHid hck
  replace hB:=mkHid hB
  go_enter Tryd.func77,Tryd.ntmps77
  go_wp2_with (first | (first | (((with_reducible refine gL ?_);refine qln hS rfl rfl rfl ?_);refine ⟨_,zd,?_⟩;clear hS;(try clear w');intro a' hp;(try simp only [fr] at hp);subst hp;intro w' hS;(try simp only [sE] at hS)) | ((with_reducible refine gB ?_);refine qboxd 2 rfl hS rfl rfl rfl ?_;refine ⟨_,za,?_⟩;clear hS;(try clear w');intro b2;intro a' hp;(try simp only [fr] at hp);subst hp;intro w' hS)) | (go_at_call 29;refine calls_by hS ⟨_,hcheck _ (St.view hS),?_⟩;clear hS;(try clear w');intro w' hS))
  go_loopw [16] (fun iv wr=>∃ i:Nat,i≤ns.length∧iv=.int .i64 (i:Int)∧(ns.take i).all (fun n=>!outB n 0 (k.n - 1))=true∧St w [] V [.blk b2 25 [.slice va k.n vcap,.slice ra k.rdg.length rcap]] wr) (fun iv _=>ns.length - (intOf iv).toNat)
  case atStart=>exact ⟨0,by omega,rfl,rfl,hS⟩
  case round =>
   clear hS
   obtain ⟨i,hi,rfl,hall,hS⟩:=hrel
   by_cases hlt:i < ns.length
   ·have h0:(0:Int)≤i:=by omega
    have h1:(i:Int) < ns.length:=by omega
    obtain ⟨ng,no,rfl,hnr⟩:=hne (by omega)
    have hc:=hnr i hlt 0 _ rfl
    simp only [Nat.mul_one,Nat.add_zero] at hc
    have hT:(ns.take (i+1)).all (fun n=>!outB n 0 (k.n - 1))=!outB (ns.getD i 0) 0 (k.n - 1):=by
     rw [List.take_succ_eq_append_getElem hlt,List.all_append,hall]
     simp [List.getD_eq_getElem?_getD,List.getElem?_eq_getElem hlt]
    have hA:outB (ns.getD i 0) 0 (k.n - 1)=true→ns.all (fun n=>!outB n 0 (k.n - 1))=false:=fun h=>by
     rw [List.all_eq_false]
     exact ⟨ns.getD i 0,by rw [List.getD_eq_getElem?_getD,List.getElem?_eq_getElem hlt];exact List.getElem_mem _,by rw [h];decide⟩
    clear hne hnr hall
    generalize ns.getD i 0=n at hc hT hA
    cases ho:outB n 0 (k.n - 1)
    ·rw [ho] at hT
     replace hT:=mkHid hT
     clear hA
     go_wp2_with (first | (((with_reducible refine gL ?_);first | refine ql1 hS rfl rfl rfl ?_ | refine qv1 hS rfl rfl rfl ?_);refine ⟨_,zd,?_⟩;clear hS;(try clear w');intro a' hp;(try simp only [fr] at hp);subst hp;intro w' hS;(try simp only [sE] at hS)) | (go_at_call 88;refine calls_by hS ⟨_,outside_ok' _ _ _ _,?_⟩;rw [ho];clear hS;(try clear w');intro w' hS))
     go_roundw
     case rel=>exact ⟨i+1,by omega,by go_num,hT.out,hS⟩
     case measure=>simp only [intOf];omega
    ·have hA:=hA ho
     replace hA:=mkHid hA
     clear hT
     go_wp2_with (first | (((with_reducible refine gL ?_);first | refine ql1 hS rfl rfl rfl ?_ | refine qv1 hS rfl rfl rfl ?_);refine ⟨_,zd,?_⟩;clear hS;(try clear w');intro a' hp;(try simp only [fr] at hp);subst hp;intro w' hS;(try simp only [sE] at hS)) | (go_at_call 88;refine calls_by hS ⟨_,outside_ok' _ _ _ _,?_⟩;rw [ho];clear hS;(try clear w');intro w' hS))
     ((try simp only [Exit.inBlock,Exit.then]);(try refine bodyPost_norm ?_);refine ret_by ⟨_,by exact results2 (r1:=.tmp 4) (r2:=.tmp 5) (by kernel_rfl) (by exact rs_tmp rfl) (by exact rs_tmp rfl),?_⟩ rfl)
     have hB3:beginE k ns=3:=by rw [hB.out,hA.out];rfl
     refine ⟨_,by rw [hB3],hS.toKp,fun _=>rfl,fun h=>?_⟩
     rw [hB3] at h;cases h
   ·obtain rfl:i=ns.length:=by omega
    rw [List.take_length] at hall
    have hB0:beginE k ns=0:=by rw [hB.out,hall];rfl
    replace hall:=mkHid hall
    replace hB0:=mkHid hB0
    go_wp2_with (first | (((with_reducible refine gL ?_);refine qln hS rfl rfl rfl ?_);refine ⟨_,zd,?_⟩;clear hS;(try clear w');intro a' hp;(try simp only [fr] at hp);subst hp;intro w' hS;(try simp only [sE] at hS)) | (go_at_call 114;refine (hopen _ (St.view hS)).mono ?_;rintro _ w2 ⟨p,rfl,hkp,hin,hcel,D,hD,hpD⟩))
    ((try simp only [Exit.inBlock,Exit.then]);(try refine bodyPost_norm ?_);refine ret_by ⟨_,by exact results2 (r1:=.tmp 4) (r2:=.tmp 5) (by kernel_rfl) (by exact rs_tmp rfl) (by exact rs_tmp rfl),?_⟩ rfl)
    refine ⟨_,by rw [hB0.out],hS.toKp.trans hkp,fun h=>absurd hB0.out h,fun _=>⟨p,rfl,newV_in (hS.view.kp hkp),cellar_mono hcel (newV_mono hV hS.size),D,closed_mono hD (newV_mono hV hS.size),hpD⟩⟩
 ·have hB:beginE k ns=checkE k:=by unfold beginE;rw [if_pos hck]
  have hck':(checkE k == 0)=false:=by rw [beq_eq_false_iff_ne];exact hck
  replace hB:=mkHid hB
  generalize checkE k=e at hcheck hck hck' hB
  clear hopen
  go_enter Tryd.func77,Tryd.ntmps77
  go_wp2_with (first | (first | (((with_reducible refine gL ?_);refine qln hS rfl rfl rfl ?_);refine ⟨_,zd,?_⟩;clear hS;(try clear w');intro a' hp;(try simp only [fr] at hp);subst hp;intro w' hS;(try simp only [sE] at hS)) | ((with_reducible refine gB ?_);refine qboxd 2 rfl hS rfl rfl rfl ?_;refine ⟨_,za,?_⟩;clear hS;(try clear w');intro b2;intro a' hp;(try simp only [fr] at hp);subst hp;intro w' hS)) | (go_at_call 29;refine calls_by hS ⟨_,hcheck _ (St.view hS),?_⟩;clear hS;(try clear w');intro w' hS))
  ((try simp only [Exit.inBlock,Exit.then]);(try refine bodyPost_norm ?_);refine ret_by ⟨_,by exact results2 (r1:=.tmp 4) (r2:=.tmp 5) (by kernel_rfl) (by exact rs_tmp rfl) (by exact rs_tmp rfl),?_⟩ rfl)
  refine ⟨_,by rw [hB.out],hS.toKp,fun _=>rfl,fun h=>?_⟩
  exact absurd (hB.out.symm.trans h) hck
end Go.Proofs.YtjjmefieegcddaaDoor
namespace Go.Proofs.YtjjmefieegcddaaDoor
open Go.RowKit Go.Wg Go.Mm
theorem kp_alloc (w:World) (t:TypeId) (v:Value):Kp w (w.alloc (.cells #[v] t)) :=
 ⟨rfl,rfl,by show _≤(w.heap.push _).size;simp,fun k hk=>heap_alloc_old w _ hk⟩
theorem ta_nil (w:World):(Instr.typeAssert .nilIface 20 152 true).run Tryd.prog w=.ok (.tuple #[.agg #[.int .i64 0],.bool false]) w:=by kernel_rfl
theorem ta_hit (i:Int) (w:World):(Instr.typeAssert (.iface 152 (.agg #[.int .i64 i])) 20 152 true).run Tryd.prog w=.ok (.tuple #[.agg #[.int .i64 i],.bool true]) w:=by kernel_rfl
set_option maxRecDepth 20000 in
theorem caught_idle (p:Addr) (w:World) :
  CallsD Tryd.prog 82 #[.pointer (some p)] .returning w fun e u' w'=>e=.returned (.tuple #[])∧u'=.returning∧Kp w w':=by
 have hta:=ta_nil
 refine callsD_of_wpS Tryd.func82 rfl fun c₀ cs hu=>?_
 apply wpS_seq
 apply wpS_region
 simp [wpOpsS,go_sem,recoverD,hu,Tryd.ntmps82,Exit.thenS,hta]
 apply wpS_seq
 apply wpS_region
 simp [wpOpsS,go_sem,hu,Exit.thenS]
 refine wpS_cond (t:=false) (by simp [Act.eval,Array.replicate]) ?_
 simp only [Bool.false_eq_true,if_false]
 refine wpS_of_wp (wp_skip ?_)
 have hk:=kp_alloc w 152 (.int .i64 0)
 cases c₀
 simp_all [bodyPostS,results,Tryd.results82]
set_option maxRecDepth 20000 in
set_option maxHeartbeats 1000000 in
theorem caught_hit (b:Nat) (x:Value) (i:Int) (older:List PanicEntry) (w:World) (hb:w.heap[b]? = some (.cells #[x] 38 (0,0))) :
  CallsD Tryd.prog 82 #[.pointer (some ⟨b,0,none⟩)] (.panicking ({ v:=.iface 152 (.agg #[.int .i64 i]),recovered:=false } :: older)) w fun e u' w' =>
   e=.returned (.tuple #[])∧u'=.panicking ({ v:=.iface 152 (.agg #[.int .i64 i]),recovered:=true } :: older)∧KpBut b w w'∧w'.heap[b]? = some (.cells #[.int .i64 9] 38 (0,0)):=by
 have hta:=ta_hit i
 have hlt:=lt_of_heap hb
 refine callsD_of_wpS Tryd.func82 rfl fun c₀ cs hu=>?_
 apply wpS_seq
 apply wpS_region
 simp [wpOpsS,go_sem,recoverD,hu,Tryd.ntmps82,Exit.thenS,hta]
 apply wpS_seq
 apply wpS_region
 simp [wpOpsS,go_sem,hu,Exit.thenS]
 refine wpS_cond (t:=true) (by simp [Act.eval,Array.replicate]) ?_
 simp only [if_true]
 apply wpS_region
 have hh:(w.alloc (.cells #[.int .i64 i] 152)).heap[b]? = some (.cells [x].toArray 38 (0,0)):=by rw [heap_alloc_old w _ hlt];exact hb
 have hc:=cell_at (o:=0) (v:=x) hh rfl
 have hz:=frozen_of_row _ b 0 _ _ hh
 have hk:=kp_alloc w 152 (.int .i64 i)
 have hend:KpBut b w ((w.alloc (.cells #[.int .i64 i] 152)).setCell ⟨b,0,none⟩ (.int .i64 9))∧((w.alloc (.cells #[.int .i64 i] 152)).setCell ⟨b,0,none⟩ (.int .i64 9)).heap[b]? = some (.cells #[.int .i64 9] 38 (0,0)):=by
  refine ⟨⟨hk.os,hk.output,?_,fun k hk1 hk2=>?_⟩,?_⟩
  ·have:=hk.size
   have e:((w.alloc (.cells #[.int .i64 i] 152)).setCell ⟨b,0,none⟩ (.int .i64 9)).heap.size=(w.alloc (.cells #[.int .i64 i] 152)).heap.size:=by simp [World.setCell]
   omega
  ·rw [setCell_other _ _ _ _ hk2];exact hk.old k hk1
  ·rw [heap_setCell_same _ b 0 _ 38 _ hh];simp
 generalize w.alloc (.cells #[.int .i64 i] 152)=W at hc hz hend ⊢
 simp [wpOpsS,go_sem,hc,hz,bodyPostS,results,Tryd.results82]
 exact hend
end Go.Proofs.YtjjmefieegcddaaDoor
namespace Go.Proofs.YtjjmefieegcddaaDoor
open Go.RowKit Go.Wg Go.Mm
variable {w0 w:World} {X:List Nat} {V:View} {L:List Ent}
theorem calls_begin_bad {vv rv sl:Value} {k:Wk} {ns:List Int} {R:Ending→World→Prop} (hS:St w0 X V L w) (hk:WkIn V vv rv k) (hsl:VSl V sl ns.length 1 fun j=>[.int .i64 (ns.getD j 0)]) (hlen:ns.length≤100) (hb:beginE k ns≠0)
  (h:∀ w',St w0 X V L w'→R (.returned (.tuple #[.pointer none,.int .i64 (beginE k ns)])) w'):Calls Tryd.prog 77 #[.agg #[vv,rv],sl] w R :=
 (begin_ok V vv rv k hk sl ns hsl hlen w hS.view).mono fun e w' ⟨c,he,hr⟩=>by
  subst he
  rw [hr.bad hb]
  exact h w' (hS.kp hr.kp)
theorem calls_begin {vv rv sl:Value} {k:Wk} {ns:List Int} {R:Ending→World→Prop} (hS:St w0 X V L w) (hk:WkIn V vv rv k) (hsl:VSl V sl ns.length 1 fun j=>[.int .i64 (ns.getD j 0)]) (hlen:ns.length≤100) (hb:beginE k ns=0)
  (h:∀ p V' w',(∀ j o,V j=some o→V' j=some o)→Cellar V' p k→St w0 X V' L w'→R (.returned (.tuple #[.pointer (some ⟨p,0,none⟩),.int .i64 0])) w'):Calls Tryd.prog 77 #[.agg #[vv,rv],sl] w R :=
 (begin_ok V vv rv k hk sl ns hsl hlen w hS.view).mono fun e w' ⟨c,he,hr⟩=>by
  subst he
  obtain ⟨p,rfl,hin,hcel,_⟩:=hr.good hb
  rw [hb]
  exact h p _ w' (newV_sub hS.view) hcel (hS.call hr.kp hin newV_old)
theorem calls_beginD {vv rv sl:Value} {k:Wk} {ns:List Int} {R:Ending→World→Prop} (hS:St w0 X V L w) (hk:WkIn V vv rv k) (hsl:VSl V sl ns.length 1 fun j=>[.int .i64 (ns.getD j 0)]) (hlen:ns.length≤100) (hb:beginE k ns=0)
  (h:∀ p V' w' D,(∀ j o,V j=some o→V' j=some o)→Cellar V' p k→Closed V' D→p∈D→St w0 X V' L w'→R (.returned (.tuple #[.pointer (some ⟨p,0,none⟩),.int .i64 0])) w'):Calls Tryd.prog 77 #[.agg #[vv,rv],sl] w R :=
 (begin_ok V vv rv k hk sl ns hsl hlen w hS.view).mono fun e w' ⟨c,he,hr⟩=>by
  subst he
  obtain ⟨p,rfl,hin,hcel,D,hD,hpD⟩:=hr.good hb
  rw [hb]
  exact h p _ w' D (newV_sub hS.view) hcel hD hpD (hS.call hr.kp hin newV_old)
theorem nilSl {V:View} {get:Nat→List Value}:VSl V (.slice none 0 0) 0 1 get:=⟨⟨none,0,rfl,by omega,by omega,fun h=>absurd h (by omega)⟩⟩
theorem beginE_check {k:Wk} {ns:List Int} (h:beginE k ns=0):k.Ok:=by
 unfold beginE at h
 split at h
 ·rename_i h1;exact absurd h h1
 ·rename_i h1;exact ok_of_check (by simpa using h1)
def canE (k:Wk):Bool × Int:=if beginE k []=0 then (can k (nowS k noneB),0) else (false,beginE k [])
set_option maxRecDepth 20000 in
set_option maxHeartbeats 1000000 in
theorem Can_ok (vv rv:Value) (k:Wk) (hk:WkIn V vv rv k) (hG:GV V) (hV:V.In w) :
  Calls Tryd.prog 25 #[.agg #[vv,rv]] w fun r w'=>r=.returned (.tuple #[.bool (canE k).1,.int .i64 (canE k).2])∧Kp w w':=by
 have hbad:=fun (w1:World) (R:Ending→World→Prop) (L:List Ent) (h1:St w [] V L w1)=>calls_begin_bad (R:=R) h1 hk nilSl (ns:=[]) (by simp)
 have hgood:=fun (w1:World) (R:Ending→World→Prop) (L:List Ent) (h1:St w [] V L w1)=>calls_begin (R:=R) h1 hk nilSl (ns:=[]) (by simp)
 obtain ⟨va,vcap,rfl,hvc,hvm,hve⟩:=hk.ves.is
 obtain ⟨ra,rcap,rfl,hrc,hrm,hre⟩:=hk.rdg.is
 have hS:=St.start w V hV
 clear hk hve hre
 by_cases hb:beginE k []=0
 ·have hok:=beginE_check hb
  have hC:canE k=(can k (nowS k noneB),0):=by unfold canE;rw [if_pos hb]
  rw [hC]
  simp only
  have hgood:=fun w1 R L h1=>hgood w1 R L h1 hb
  clear hbad
  replace hb:=mkHid hb;replace hC:=mkHid hC
  go_enter Tryd.func25,Tryd.ntmps25
  go_wp2_with (first | (first | (((with_reducible refine gL ?_);refine qln hS rfl rfl rfl ?_);refine ⟨_,zd,?_⟩;clear hS;(try clear w');intro a' hp;(try simp only [fr] at hp);subst hp;intro w' hS;(try simp only [sE] at hS)) | (((with_reducible refine gB ?_);refine qbox hS rfl rfl rfl ?_;refine ⟨_,za,?_⟩);clear hS;(try clear w');intro _;intro a' hp;(try simp only [fr] at hp);subst hp;intro w' hS)) | (go_at_call 77;refine hgood _ _ _ hS ?_;clear hS;(try clear w');intro p V' w' hVV hcel hS;have hG':GV V':=hG.mono hVV) | (go_at_call 79;refine calls_by hS ⟨_,now_none V' p k hcel hok _ rfl _ (St.view hS),?_⟩;clear hS;(try clear w');intro w' hS) | (go_at_call 78;refine calls_by hS ⟨_,can_ok V' p k hcel hG' _ (nowS_wf _ _) _ (St.view hS),?_⟩;clear hS;(try clear w');intro w' hS))
  ((try simp only [Exit.inBlock,Exit.then]);(try refine bodyPost_norm ?_);refine ret_by ⟨_,by exact results2 (r1:=.tmp 2) (r2:=.tmp 3) (by kernel_rfl) (by exact rs_tmp rfl) (by exact rs_tmp rfl),?_⟩ rfl)
  exact ⟨rfl,hS.toKp⟩
 ·have hC:canE k=(false,beginE k []):=by unfold canE;rw [if_neg hb]
  rw [hC]
  simp only
  have hbad:=fun w1 R L h1=>hbad w1 R L h1 hb
  have hb':(beginE k [] == 0)=false:=by rw [beq_eq_false_iff_ne];exact hb
  clear hgood
  generalize beginE k []=e at hb hb' hbad ⊢
  replace hC:=mkHid hC
  go_enter Tryd.func25,Tryd.ntmps25
  go_wp2_with (first | (first | (((with_reducible refine gL ?_);refine qln hS rfl rfl rfl ?_);refine ⟨_,zd,?_⟩;clear hS;(try clear w');intro a' hp;(try simp only [fr] at hp);subst hp;intro w' hS;(try simp only [sE] at hS)) | (((with_reducible refine gB ?_);refine qbox hS rfl rfl rfl ?_;refine ⟨_,za,?_⟩);clear hS;(try clear w');intro _;intro a' hp;(try simp only [fr] at hp);subst hp;intro w' hS)) | (go_at_call 77;refine hbad _ _ _ hS ?_;clear hS;(try clear w');intro w' hS))
  ((try simp only [Exit.inBlock,Exit.then]);(try refine bodyPost_norm ?_);refine ret_by ⟨_,by exact results2 (r1:=.tmp 2) (r2:=.tmp 3) (by kernel_rfl) (by exact rs_tmp rfl) (by exact rs_tmp rfl),?_⟩ rfl)
  exact ⟨rfl,hS.toKp⟩
end Go.Proofs.YtjjmefieegcddaaDoor
namespace Go.Mm
open Go
variable {P:Program}
def resFree1 (d:Nat):ResultVar→Bool
 | .tmp t=>t != d
 | .cell t _=>t != d
theorem resSem_put {tmps:Array Value} {d:Nat} {v:Value} {r:ResultVar} (h:resFree1 d r=true):resSem (tmps.setIfInBounds d v) r=resSem tmps r:=by
 cases r with
 | tmp t =>
  have h':¬ d=t:=fun e=>by subst e;simp [resFree1] at h
  simp [resSem,Array.getElem?_setIfInBounds,h']
 | cell t ty =>
  have h':¬ d=t:=fun e=>by subst e;simp [resFree1] at h
  simp [resSem,Array.getElem?_setIfInBounds,h']
def resFree (d:Nat) (rs:Array ResultVar):Bool:=decide (rs.toList.length≤3) && rs.toList.all (resFree1 d)
theorem results_put {fn:Func} {d:Nat} (h:resFree d fn.results=true) (tmps:Array Value) (v:Value) (w:World):(results fn (tmps.setIfInBounds d v)).run P w=(results fn tmps).run P w:=by
 rw [results_eq,results_eq]
 unfold resFree at h
 generalize fn.results=rs at h ⊢
 obtain ⟨l,rfl⟩:∃ l:List ResultVar,rs=l.toArray:=⟨rs.toList,by simp⟩
 simp only [Bool.and_eq_true,decide_eq_true_eq] at h
 obtain ⟨h1,h3⟩:=h
 have h2:∀ r∈l,resFree1 d r=true:=List.all_eq_true.1 h3
 clear h3
 match l,h1,h2 with
 | [],_,_=>simp
 | [a],_,h2=>simp [resSem_put (h2 a (by simp))]
 | [a,b],_,h2=>simp [resSem_put (h2 a (by simp)),resSem_put (h2 b (by simp))]
 | [a,b,c],_,h2=>simp [resSem_put (h2 a (by simp)),resSem_put (h2 b (by simp)),resSem_put (h2 c (by simp))]
 | _ :: _ :: _ :: _ :: _,h1,_=>simp at h1
theorem leaves_put {fn:Func} {d:Nat} {R:Ending→World→Prop} (h:resFree d fn.results=true) {tmps:Array Value} {v:Value}:∀ (ds:List Deferred) (u:FrameMode) (w:World),
  Leaves P fn (tmps.setIfInBounds d v) R ds u w→Leaves P fn tmps R ds u w
 | [],.returning,w,hl=>by
  obtain ⟨x,h1,h2⟩:=hl
  rw [results_put (P:=P) h] at h1
  exact ⟨x,h1,h2⟩
 | [],.panicking _,_,hl=>hl
 | [],.run,_,hl=>hl
 | e :: ds,u,w,⟨h1,fv,cap,f,args,h2,h3,h4⟩=>by
  refine ⟨h1,fv,cap,f,args,h2,h3,h4.mono ?_⟩
  intro e u' w' hk
  cases e with
  | returned _=>exact leaves_put h ds _ _ hk
  | panicked _=>exact leaves_put h ds _ _ hk
  | outgrown=>exact hk
theorem panicD {fn:Func} {d:Nat} {R:Ending→World→Prop} {c:List PanicEntry} {a:Act} {v:Value} {w:World} (h:resFree d fn.results=true) (hl:bodyPostD P fn R (.panic c) (a.put (some d) v) w):bodyPostD P fn R (.panic c) a w :=
 leaves_put h a.defers (.panicking c) w hl
section
variable {l:List Oper} {md:Region.Mode} {o:Oper} {a:Act} {Q:Exit→Act→World→Prop} {S:World→Prop} {fuel:Nat} {listed:Array Bool} {w:World}
theorem he_pure (i:Nat) (hr:Region.ready md l.toArray listed=[i]) (hi₀:l[i]? = some o) (hw:Region.wanted o (yielded l.toArray a.tmps)=true) (hS:S w)
  (h:∃ v,(∀ w,(execOp a.eval o).run P w=.ok (.value v) w)∧∀ a' l',a.put o.dst v=a'→listed.setIfInBounds i true=l'→wpAnyH P md l.toArray Q S fuel l' a' w):wpAnyH P md l.toArray Q S (fuel+1) listed a w:=by
 obtain ⟨v,hv,h⟩:=h
 exact he_one hr (wpo_value (hi_of hi₀) hw (hv w) ⟨hS,h _ _ rfl rfl⟩)
end
end Go.Mm
namespace Go.Proofs.YtjjmefieegcddaaDoor
open Go.RowKit Go.Wg Go.Mm
variable {w0 w:World} {X:List Nat} {V:View} {L:List Ent}
theorem pin {b:Nat} {t:TypeId} {cs:List Value} (h:St w0 X V (.blk b t cs :: L) w):∃ V',(∀ j o,V j=some o→V' j=some o)∧(∀ i v,cs[i]? = some v→V'.Cell b i v)∧St w0 X V' L w:=by
 refine ⟨_,fun j o hj=>?_,fun i v hi=>⟨cs.toArray,t,(0,0),by simp,by simpa using hi⟩,h.freeze⟩
 have hn:=h.off _ (List.mem_cons_self ..) b rfl
 have:j≠b:=by rintro rfl;rw [hn] at hj;cases hj
 simp [this,hj]
theorem VSl.mono {V V':View} {v:Value} {n sz:Nat} {get:Nat→List Value} (h:VSl V v n sz get) (hV:∀ i o,V i=some o→V' i=some o):VSl V' v n sz get:=by
 obtain ⟨a,cap,h1,h2,h3,h4⟩:=h
 exact ⟨a,cap,h1,h2,h3,fun hn=>by obtain ⟨g,off,h5,h6⟩:=h4 hn;exact ⟨g,off,h5,fun i hi=>(h6 i hi).mono hV⟩⟩
theorem wkIn_mono {V V':View} {vv rv:Value} {k:Wk} (h:WkIn V vv rv k) (hV:∀ i o,V i=some o→V' i=some o):WkIn V' vv rv k:=⟨VSl.mono h.ves hV,VSl.mono h.rdg hV,h.small,by obtain ⟨D0,h1,h2,h3⟩:=h.cl;exact ⟨D0,closed_mono h1 hV,h2,h3⟩⟩
theorem oneSl {V:View} {b:Nat} {v:Int} (h:∀ i u,[Value.int .i64 v][i]? = some u→V.Cell b i u):VSl V (.slice (some ⟨b,0,none⟩) 1 1) [v].length 1 fun j=>[.int .i64 ([v].getD j 0)]:=by
 refine ⟨⟨some ⟨b,0,none⟩,1,rfl,by simp,by decide,fun _=>⟨b,0,rfl,fun i hi=>?_⟩⟩⟩
 obtain rfl:i=0:=by simpa using hi
 intro j u hj
 cases j with
 | zero=>simp at hj;subst hj;exact h 0 _ rfl
 | succ j=>simp at hj
theorem beginE_one {k:Wk} {v:Int} (h:beginE k [v]=0):0≤v∧v < k.n:=by
 unfold beginE at h
 split at h
 ·rename_i h1;exact absurd h h1
 ·split at h
  ·rename_i h2
   simp only [List.all_cons,List.all_nil,Bool.and_true] at h2
   have:=outB_false h2
   omega
  ·cases h
theorem door_idle {fn:Func} {tmps:Array Value} {R:Ending→World→Prop} {q:Addr} (hS:St w0 X V L w) (h:∀ w',St w0 X V L w'→∃ v,(results fn tmps).run Tryd.prog w'=.ok v w'∧R (.returned v) w') :
  bodyPostD Tryd.prog fn R .ret ⟨tmps,[{ target:=.fn (.func 82) #[],args:=#[.pointer (some q)] }]⟩ w:=by
 show Leaves Tryd.prog fn tmps R [{ target:=.fn (.func 82) #[],args:=#[.pointer (some q)] }] .returning w
 refine leaves_cons (f:=82) (args:=#[.pointer (some q)]) (by simp) (by simp [go_sem]) ?_
 refine (caught_idle q w).mono ?_
 rintro e u' w' ⟨rfl,rfl,hk⟩
 exact h w' (hS.kp hk)
theorem door_hit {fn:Func} {tmps:Array Value} {R:Ending→World→Prop} {b j:Nat} {x:Value} {i:Int} (hS:St w0 X V L w) [hj:Hs L b j 38 [x]]
  (h:∀ w',St w0 X V (L.set j (.blk b 38 [.int .i64 9])) w'→∃ v,(results fn tmps).run Tryd.prog w'=.ok v w'∧R (.returned v) w') :
  bodyPostD Tryd.prog fn R (.panic [{ v:=.iface 152 (.agg #[.int .i64 i]),recovered:=false }]) ⟨tmps,[{ target:=.fn (.func 82) #[],args:=#[.pointer (some ⟨b,0,none⟩)] }]⟩ w:=by
 show Leaves Tryd.prog fn tmps R [{ target:=.fn (.func 82) #[],args:=#[.pointer (some ⟨b,0,none⟩)] }] (.panicking [{ v:=.iface 152 (.agg #[.int .i64 i]),recovered:=false }]) w
 refine leaves_cons (f:=82) (args:=#[.pointer (some ⟨b,0,none⟩)]) (by simp) (by simp [go_sem]) ?_
 refine (caught_hit b x i [] w (hS.at hj.ok)).mono ?_
 rintro e u' w' ⟨rfl,rfl,hk,hb⟩
 exact h w' (hS.mut hj.ok hk hb rfl)
theorem calls_panic {f:FuncId} {args:Array Value} {R:Ending→World→Prop} {c:List PanicEntry} (hS:St w0 X V L w) (hc:Calls Tryd.prog f args w fun r w'=>r=.panicked c∧Kp w w') (h:∀ w',St w0 X V L w'→R (.panicked c) w'):Calls Tryd.prog f args w R :=
 hc.mono fun e w' ⟨he,hk⟩=>by subst he;exact h w' (hS.kp hk)
def weightE (k:Wk) (v:Int):(Int × Int) × Int :=
 if beginE k [v]=0 then (if (Go.Wg.settle k (nowS k noneB)).isNone then (weightS k (nowS k noneB) v.toNat,0) else ((0,0),9)) else ((0,0),beginE k [v])
set_option maxRecDepth 20000 in
set_option maxHeartbeats 2000000 in
theorem Weight_ok (vv rv:Value) (k:Wk) (hk:WkIn V vv rv k) (hG:GV V) (hV:V.In w) (v:Int) :
  Calls Tryd.prog 54 #[.agg #[vv,rv],.int .i64 v] w fun r w'=>r=.returned (.tuple #[spanV (weightE k v).1,.int .i64 (weightE k v).2])∧Kp w w':=by
 have hk0:=hk
 obtain ⟨va,vcap,rfl,hvc,hvm,hve⟩:=hk0.ves.is
 obtain ⟨ra,rcap,rfl,hrc,hrm,hre⟩:=hk0.rdg.is
 have hS:=St.start w V hV
 clear hk0 hve hre
 by_cases hb:beginE k [v]=0
 ·have hok:=beginE_check hb
  obtain ⟨hv0,hv1⟩:=beginE_one hb
  obtain ⟨vn,rfl⟩:∃ vn:Nat,v=(vn:Int):=⟨v.toNat,by omega⟩
  have hv6:vn < 6:=by have:=hok.le;omega
  cases hst:Go.Wg.settle k (nowS k noneB) with
  | none =>
   have hcan:can k (nowS k noneB)=true:=by unfold can;rw [hst];rfl
   have hC:weightE k vn=(weightS k (nowS k noneB) vn,0):=by unfold weightE;rw [if_pos hb,hst];rfl
   rw [hC]
   simp only
   replace hC:=mkHid hC;replace hst:=mkHid hst;replace hcan:=mkHid hcan;replace hb:=mkHid hb
   go_enter_defers Tryd.func54,Tryd.ntmps54
   go_wp2_with (first | (first | ((first | ((with_reducible refine gL ?_);first | refine ql1 hS rfl rfl rfl ?_ | refine qln hS rfl rfl rfl ?_) | ((with_reducible refine gS ?_);first | refine qs1 hS rfl rfl rfl ?_ | refine qsall hS rfl rfl rfl ?_));refine ⟨_,zd,?_⟩;clear hS;(try clear w');intro a' hp;(try simp only [fr] at hp);subst hp;intro w' hS;(try simp only [sE] at hS)) | ((with_reducible refine gA ?_);refine qallocd 5 rfl hS rfl rfl ?_;clear hS;(try clear w');intro b5;intro a' hp;(try simp only [fr] at hp);subst hp;intro w' hS) | ((first | ((with_reducible refine gA ?_);refine qalloc hS rfl rfl ?_) | ((with_reducible refine gB ?_);refine qbox hS rfl rfl rfl ?_;refine ⟨_,za,?_⟩));clear hS;(try clear w');intro _;intro a' hp;(try simp only [fr] at hp);subst hp;intro w' hS)) | (((with_reducible refine gSl ?_);refine qbsl hS rfl rfl ?_;refine ⟨_,zq,zd,?_⟩;clear hS;(try clear w');intro _;intro a' hp;(try simp only [fr] at hp);subst hp;intro w' hS);obtain ⟨V1,hV1,hcell,hS'⟩:=pin hS;clear hS;have hS:=hS';clear hS';have hsl:=oneSl hcell;have hk1:=wkIn_mono hk hV1;clear hcell) |
    (go_at_call 77;refine calls_begin hS hk1 hsl (by simp) hb.out ?_;clear hS;(try clear w');intro p V' w' hVV hcel hS;have hG':GV V':=(hG.mono hV1).mono hVV) |
    (go_at_call 83;refine calls_by hS ⟨_,must_ok V' p k hcel hok hcan.out _ (St.view hS),?_⟩;clear hS;(try clear w');intro w' hS) |
    (go_at_call 99;refine calls_by hS ⟨_,weight_ok V' p k hcel hG' _ (nowS_wf _ _) vn hv6 _ (St.view hS),?_⟩;clear hS;(try clear w');intro w' hS))
   (refine door_idle hS ?_;clear hS;(try clear w');intro w' hS;(try simp only [sE] at hS);refine ⟨_,by exact results2 (r1:=.cell 4 27) (r2:=.cell 5 38) (by kernel_rfl) (by exact rs_n hS rfl zd) (by exact rs_1 hS rfl zd),?_⟩)
   exact ⟨rfl,hS.toKp⟩
  | some i =>
   have hC:weightE k vn=((0,0),9):=by unfold weightE;rw [if_pos hb,hst];rfl
   rw [hC]
   simp only
   replace hC:=mkHid hC;replace hst:=mkHid hst;replace hb:=mkHid hb
   go_enter_defers Tryd.func54,Tryd.ntmps54
   go_wp2_with (first | (first | ((first | ((with_reducible refine gL ?_);first | refine ql1 hS rfl rfl rfl ?_ | refine qln hS rfl rfl rfl ?_) | ((with_reducible refine gS ?_);refine qs1 hS rfl rfl rfl ?_));refine ⟨_,zd,?_⟩;clear hS;(try clear w');intro a' hp;(try simp only [fr] at hp);subst hp;intro w' hS;(try simp only [sE] at hS)) | ((with_reducible refine gA ?_);refine qallocd 5 rfl hS rfl rfl ?_;clear hS;(try clear w');intro b5;intro a' hp;(try simp only [fr] at hp);subst hp;intro w' hS) | ((first | ((with_reducible refine gA ?_);refine qalloc hS rfl rfl ?_) | ((with_reducible refine gB ?_);refine qbox hS rfl rfl rfl ?_;refine ⟨_,za,?_⟩));clear hS;(try clear w');intro _;intro a' hp;(try simp only [fr] at hp);subst hp;intro w' hS)) | (((with_reducible refine gSl ?_);refine qbsl hS rfl rfl ?_;refine ⟨_,zq,zd,?_⟩;clear hS;(try clear w');intro _;intro a' hp;(try simp only [fr] at hp);subst hp;intro w' hS);obtain ⟨V1,hV1,hcell,hS'⟩:=pin hS;clear hS;have hS:=hS';clear hS';have hsl:=oneSl hcell;have hk1:=wkIn_mono hk hV1;clear hcell) |
    (go_at_call 77;refine calls_begin hS hk1 hsl (by simp) hb.out ?_;clear hS;(try clear w');intro p V' w' hVV hcel hS;have hG':GV V':=(hG.mono hV1).mono hVV) |
    (go_at_call 83;refine calls_panic hS (must_no V' p k hcel hok i hst.out _ (St.view hS)) ?_;clear hS;(try clear w');intro w' hS))
   (refine door_hit hS ?_;clear hS;(try clear w');intro w' hS;(try simp only [sE] at hS);refine ⟨_,by exact results2 (r1:=.cell 4 27) (r2:=.cell 5 38) (by kernel_rfl) (by exact rs_n hS rfl zd) (by exact rs_1 hS rfl zd),?_⟩)
   exact ⟨rfl,hS.toKp⟩
 ·have hC:weightE k v=((0,0),beginE k [v]):=by unfold weightE;rw [if_neg hb]
  rw [hC]
  simp only
  have hb':(beginE k [v] == 0)=false:=by rw [beq_eq_false_iff_ne];exact hb
  have hE:Go.RowKit.Hid (∃ e,beginE k [v]=e):=mkHid ⟨_,rfl⟩
  obtain ⟨e,he⟩:=hE.out
  rw [he] at hb' ⊢
  replace hC:=mkHid hC;replace he:=mkHid he
  go_enter_defers Tryd.func54,Tryd.ntmps54
  go_wp2_with (first | (first | ((first | ((with_reducible refine gL ?_);first | refine ql1 hS rfl rfl rfl ?_ | refine qln hS rfl rfl rfl ?_) | ((with_reducible refine gS ?_);refine qs1 hS rfl rfl rfl ?_));refine ⟨_,zd,?_⟩;clear hS;(try clear w');intro a' hp;(try simp only [fr] at hp);subst hp;intro w' hS;(try simp only [sE] at hS)) | ((with_reducible refine gA ?_);refine qallocd 5 rfl hS rfl rfl ?_;clear hS;(try clear w');intro b5;intro a' hp;(try simp only [fr] at hp);subst hp;intro w' hS) | ((first | ((with_reducible refine gA ?_);refine qalloc hS rfl rfl ?_) | ((with_reducible refine gB ?_);refine qbox hS rfl rfl rfl ?_;refine ⟨_,za,?_⟩));clear hS;(try clear w');intro _;intro a' hp;(try simp only [fr] at hp);subst hp;intro w' hS)) | (((with_reducible refine gSl ?_);refine qbsl hS rfl rfl ?_;refine ⟨_,zq,zd,?_⟩;clear hS;(try clear w');intro _;intro a' hp;(try simp only [fr] at hp);subst hp;intro w' hS);obtain ⟨V1,hV1,hcell,hS'⟩:=pin hS;clear hS;have hS:=hS';clear hS';have hsl:=oneSl hcell;have hk1:=wkIn_mono hk hV1;clear hcell) |
   (go_at_call 77;refine calls_begin_bad hS hk1 hsl (by simp) hb ?_;rw [he.out];clear hS;(try clear w');intro w' hS))
  (refine held_start (S:=(St w [] V1 [.blk b5 38 [.int .i64 e]])) [false,false,false,false] rfl (by kernel_rfl) ?_;replace hS:=St.drew1 hS;(iterate 2 ((first | refine hxp 0 rfl ?_ | refine hxa 1 rfl ?_);intro a' l' hp hl;(try simp only [fr] at hp);(try simp only [sB] at hl);subst hp;subst hl));((refine he_sall 2 (by kernel_rfl) rfl hS rfl  rfl rfl ?_;refine ⟨_,zd,?_⟩);clear hS;(try clear w');intro a' l' hp hl;(try simp only [fr] at hp);(try simp only [sB] at hl);subst hp;subst hl;intro w' hS;(try simp only [sE] at hS);refine ⟨(St.subI hS),?_⟩);((refine he_s1 3 (by kernel_rfl) rfl hS rfl  rfl rfl ?_;refine ⟨_,zd,?_⟩);clear hS;(try clear w');intro a' l' hp hl;(try simp only [fr] at hp);(try simp only [sB] at hl);subst hp;subst hl;intro w' hS;(try simp only [sE] at hS);refine ⟨(St.subI hS),?_⟩);refine wpAnyH_done (by kernel_rfl) ?_ _)
  go_wp2_with (fail)
  (refine door_idle hS ?_;clear hS;(try clear w');intro w' hS;(try simp only [sE] at hS);refine ⟨_,by exact results2 (r1:=.cell 4 27) (r2:=.cell 5 38) (by kernel_rfl) (by exact rs_n hS rfl zd) (by exact rs_1 hS rfl zd),?_⟩)
  exact ⟨by rfl,(hS.toKp)⟩
end Go.Proofs.YtjjmefieegcddaaDoor
namespace Go.Proofs.YtjjmefieegcddaaDoor
open Go.RowKit Go.Wg Go.Mm
variable {w:World} {V:View}
def firstCan (k:Wk) (s:SS) (i:Nat):Option Nat:=(List.range 41).find? fun n=>can k (s.weighed i n)
def truthTo (k:Wk):Nat→SS × List Int
 | 0=>(nowS k noneB,[])
 | i+1=>match firstCan k (truthTo k i).1 i with
  | some n=>((truthTo k i).1.weighed i n,(truthTo k i).2 ++ [(n:Int)])
  | none=>truthTo k i
def truthE (k:Wk):List Int × Int :=
 if beginE k []=0 then (if (Go.Wg.settle k (nowS k noneB)).isNone then ((truthTo k k.n).2,0) else ([],9)) else ([],beginE k [])
theorem firstCan_hit {k:Wk} {s:SS} {i m:Nat} (hm:m < 41) (h0:∀ j,j < m→can k (s.weighed i j)=false) (h1:can k (s.weighed i m)=true):firstCan k s i=some m:=by
 unfold firstCan
 rw [List.find?_range_eq_some]
 exact ⟨h1,List.mem_range.2 hm,fun j hj=>by simp [h0 j hj]⟩
theorem firstCan_none {k:Wk} {s:SS} {i:Nat} (h0:∀ j:Nat,j < 41→can k (s.weighed i j)=false):firstCan k s i=none:=by
 unfold firstCan
 rw [List.find?_eq_none]
 intro j hj
 rw [h0 j (List.mem_range.1 hj)];decide
theorem truthTo_wf (k:Wk) (i:Nat):(truthTo k i).1.WF:=by
 induction i with
 | zero=>exact nowS_wf _ _
 | succ i ih =>
  rw [truthTo]
  split
  ·exact ih.weighed _ _
  ·exact ih
theorem truthTo_len (k:Wk) (i:Nat):(truthTo k i).2.length≤i:=by
 induction i with
 | zero=>simp [truthTo]
 | succ i ih =>
  rw [truthTo]
  split
  ·simp;omega
  ·omega
def intsC (l:List Int):List Value:=l.map fun n=>.int .i64 n
theorem intsC_len (l:List Int):(intsC l).length=l.length:=by simp [intsC]
def OwnInts (w w':World) (v:Value) (l:List Int):Prop:=w'.ownsRow 0 3 1 v l.length (intsC l)∧∀ b,v.ownBlock=some b→w.heap.size≤b
theorem own_of {v:Value} {l:List Int} {V':View} {L:List Ent} {w':World} (hS:St w [] V' L w') {j:Nat} (hj:L[j]? = some (.row v 3 1 l.length (intsC l))):OwnInts w w' v l :=
 ⟨hS.atRow hj,fun b hb=>by
  rcases hS.new _ (List.mem_of_getElem? hj) b hb with h | h
  ·exact h
  ·cases h⟩
set_option maxRecDepth 20000 in
set_option maxHeartbeats 4000000 in
theorem Truth_ok (vv rv:Value) (k:Wk) (hk:WkIn V vv rv k) (hG:GV V) (hV:V.In w) :
  Calls Tryd.prog 27 #[.agg #[vv,rv]] w fun r w'=>∃ v,r=.returned (.tuple #[v,.int .i64 (truthE k).2])∧Kp w w'∧OwnInts w w' v (truthE k).1:=by
 have hk0:=hk
 obtain ⟨va,vcap,rfl,hvc,hvm,hve⟩:=hk0.ves.is
 obtain ⟨ra,rcap,rfl,hrc,hrm,hre⟩:=hk0.rdg.is
 have hS:=(St.start w V hV).nilRow 3 1
 clear hk0 hve hre
 by_cases hb:beginE k []=0
 ·have hok:=beginE_check hb
  have hpos:=hok.pos
  have hn6:=hok.le
  cases hst:Go.Wg.settle k (nowS k noneB) with
  | none =>
   have hcan:can k (nowS k noneB)=true:=by unfold can;rw [hst];rfl
   have hC:truthE k=((truthTo k k.n).2,0):=by unfold truthE;rw [if_pos hb,hst];rfl
   rw [hC]
   simp only
   have HL0:(stC (nowS k noneB)).length=18:=stC_len (nowS_wf _ _)
   have HT0:(truthTo k 0).1=nowS k noneB:=rfl
   have HT1:(truthTo k 0).2=[]:=rfl
   replace hC:=mkHid hC;replace hst:=mkHid hst;replace hcan:=mkHid hcan;replace hb:=mkHid hb;replace HT0:=mkHid HT0;replace HT1:=mkHid HT1
   go_enter_defers Tryd.func27,Tryd.ntmps27
   go_wp2_with (first | (first | ((first | ((with_reducible refine gL ?_);first | refine ql1 hS rfl rfl rfl ?_ | refine qln hS rfl rfl rfl ?_ | refine qv1 hS rfl rfl rfl ?_) | ((with_reducible refine gS ?_);first | refine qs1 hS rfl rfl rfl ?_ | refine qsall hS rfl rfl rfl ?_));refine ⟨_,zd,?_⟩;clear hS;(try clear w');intro a' hp;(try simp only [fr] at hp);subst hp;intro w' hS;(try simp only [sE] at hS)) | ((with_reducible refine gA ?_);refine qallocd 3 rfl hS rfl rfl ?_;clear hS;(try clear w');intro b3;intro a' hp;(try simp only [fr] at hp);subst hp;intro w' hS) | ((with_reducible refine gA ?_);refine qallocd 5 rfl hS rfl rfl ?_;clear hS;(try clear w');intro b5;intro a' hp;(try simp only [fr] at hp);subst hp;intro w' hS) | (((with_reducible refine gB ?_);refine qbox hS rfl rfl rfl ?_;refine ⟨_,za,?_⟩);clear hS;(try clear w');intro _;intro a' hp;(try simp only [fr] at hp);subst hp;intro w' hS)) |
    (go_at_call 77;refine calls_begin hS hk nilSl (by simp) hb.out ?_;clear hS;(try clear w');intro p V' w' hVV hcel hS;have hG':GV V':=hG.mono hVV;obtain ⟨ts,vv',rv',hC'⟩:=id hcel;obtain ⟨g,cap,hc2,hts⟩:=hC'.c2;clear hC' hts) |
    (go_at_call 83;refine calls_by hS ⟨_,must_ok V' p k hcel hok hcan.out _ (St.view hS),?_⟩;clear hS;(try clear w');intro w' hS))
   go_loopw [2,23] (fun sv iv wr=>∃ i:Nat,i≤k.n∧iv=.int .i64 (i:Int)∧sv.oneCell'=true∧St w [] V' [.blk b5 100 (stC (truthTo k i).1),.blk b3 38 [.int .i64 0],.row sv 3 1 (truthTo k i).2.length (intsC (truthTo k i).2)] wr) (fun _ iv _=>k.n - (intOf iv).toNat)
   case atStart=>exact ⟨0,by omega,rfl,rfl,by
    have h2:St w [] V' [.blk b5 100 (stC (nowS k noneB)),.blk b3 38 [.int .i64 0],.row (.slice none 0 0) 3 1 0 []] w':=hS.subI
    exact h2⟩
   case round =>
    clear hS
    obtain ⟨i,hi,rfl,hone,hS⟩:=hrel
    by_cases hlt:i < k.n
    ·have h0:(0:Int)≤i:=by omega
     have h1:(i:Int) < k.n:=by omega
     have hi6:i < 6:=by omega
     have hs:=truthTo_wf k i
     have hll:=truthTo_len k i
     have HT:truthTo k (i+1)=match firstCan k (truthTo k i).1 i with | some n=>((truthTo k i).1.weighed i n,(truthTo k i).2 ++ [(n:Int)]) | none=>((truthTo k i).1,(truthTo k i).2):=by
      rw [truthTo]
     replace HT:=mkHid HT
     generalize (truthTo k i).1=s at hS hs HT
     generalize (truthTo k i).2=l at hS hll HT
     have hls:(stC s).length=18:=stC_len hs
     have hil:=intsC_len l
     go_wp2_with (fail)
     refine wp_scope_straight ?_
     go_wp2_with (fail)
     refine wp_label ?_
     go_wp2_with (fail)
     go_loopw [2,26] (fun sv' nv wr=>∃ m:Nat,m≤41∧sv'=u2∧nv=.int .i64 (m:Int)∧(∀ j:Nat,j < m→can k (s.weighed i j)=false)∧St w [] V' [.blk b5 100 (stC s),.blk b3 38 [.int .i64 0],.row u2 3 1 l.length (intsC l)] wr) (fun _ nv _=>41 - (intOf nv).toNat)
     case atStart=>exact ⟨0,by omega,rfl,rfl,fun j hj=>absurd hj (by omega),hS⟩
     case round =>
      clear hS
      obtain ⟨m,hm,rfl,rfl,hno,hS⟩:=hrel
      by_cases hm4:m < 41
      ·have hm0:(0:Int)≤m:=by omega
       have hm1:(m:Int) < 41:=by omega
       have hsw:=hs.weighed i m
       have hlw:(stC (s.weighed i m)).length=18:=stC_len hsw
       generalize hcn:can k (s.weighed i m)=cn
       have hcon:∀ w',V'.In w'→Calls Tryd.prog 78 #[.pointer (some ⟨p,0,none⟩),.agg (stC (s.weighed i m)).toArray] w' fun r w''=>r=.returned (.bool cn)∧Kp w' w'':=fun w' hV'=>by rw [← hcn];exact can_ok V' p k hcel hG' _ hsw w' hV'
       replace hno:=mkHid hno
       cases cn
       ·replace hcn:=mkHid hcn
        go_wp2_with (first | (((with_reducible refine gL ?_);refine qln hS rfl rfl rfl ?_);refine ⟨_,zd,?_⟩;clear hS;(try clear w');intro a' hp;(try simp only [fr] at hp);subst hp;intro w' hS;(try simp only [sE] at hS)) | (go_at_call 84;refine calls_by hS ⟨_,weighed_ok s hs i hi6 m _,?_⟩;clear hS;(try clear w');intro w' hS) | (go_at_call 78;refine calls_by hS ⟨_,hcon _ (St.view hS),?_⟩;clear hS;(try clear w');intro w' hS))
        go_roundw
        case rel=>exact ⟨m+1,by omega,rfl,by go_num,fun j hj=>by
         by_cases hjm:j=m
         ·subst hjm;exact hcn.out
         ·exact hno.out j (by omega),hS⟩
        case measure=>simp only [intOf];omega
       ·have hfc:=firstCan_hit hm4 hno.out hcn
        replace hcn:=mkHid hcn
        replace hfc:=mkHid hfc
        go_wp2_with (first | ((first | ((with_reducible refine gL ?_);refine qln hS rfl rfl rfl ?_) | ((with_reducible refine gS ?_);refine qsall hS rfl rfl rfl ?_));refine ⟨_,zd,?_⟩;clear hS;(try clear w');intro a' hp;(try simp only [fr] at hp);subst hp;intro w' hS;(try simp only [sE] at hS)) | ((with_reducible refine gSl ?_);refine qbsl hS rfl rfl ?_;refine ⟨_,zq,zd,?_⟩;clear hS;(try clear w');intro _;intro a' hp;(try simp only [fr] at hp);subst hp;intro w' hS) | ((with_reducible refine gAp ?_);refine qap rfl rfl ?_;refine ⟨_,_,_,_,by exact rfl,by exact rfl,?_⟩;refine appG_of hS zd ?_;clear hS;(try clear w');intro va w' hS;intro a' hp;(try simp only [fr] at hp);subst hp;(try simp only [sE] at hS);have hva:=rowOne hS va) | (go_at_call 84;refine calls_by hS ⟨_,weighed_ok s hs i hi6 m _,?_⟩;clear hS;(try clear w');intro w' hS) | (go_at_call 78;refine calls_by hS ⟨_,hcon _ (St.view hS),?_⟩;clear hS;(try clear w');intro w' hS))
        simp only [Exit.noGoto]
        go_wp2_with (fail)
        go_roundw
        case rel =>
         refine ⟨i+1,by omega,by go_num,hva,?_⟩
         rw [HT.out,hfc.out]
         have ei:intsC (l ++ [(m:Int)])=intsC l ++ [.int .i64 (m:Int)]:=by simp [intsC]
         simp only [ei,List.length_append,List.length_cons,List.length_nil,Nat.zero_add]
         exact hS.subI
        case measure=>simp only [intOf];omega
      ·obtain rfl:m=41:=by omega
       have hfc:=firstCan_none hno
       replace hno:=mkHid hno
       replace hfc:=mkHid hfc
       go_wp2_with (fail)
       simp only [Exit.noGoto]
       go_wp2_with (fail)
       go_roundw
       case rel =>
        refine ⟨i+1,by omega,by go_num,hone,?_⟩
        rw [HT.out,hfc.out]
        exact hS
       case measure=>simp only [intOf];omega
    ·obtain rfl:i=k.n:=by omega
     go_wp2_with (((with_reducible refine gS ?_);refine qs1 hS rfl rfl rfl ?_);refine ⟨_,zd,?_⟩;clear hS;(try clear w');intro a' hp;(try simp only [fr] at hp);subst hp;intro w' hS;(try simp only [sE] at hS))
     (refine door_idle hS ?_;clear hS;(try clear w');intro w' hS;(try simp only [sE] at hS);refine ⟨_,by exact results2 (r1:=.tmp 2) (r2:=.cell 3 38) (by kernel_rfl) (by exact rs_tmp rfl) (by exact rs_1 hS rfl zd),?_⟩)
     exact ⟨_,rfl,hS.toKp,own_of hS (j:=2) rfl⟩
  | some i =>
   have hC:truthE k=([],9):=by unfold truthE;rw [if_pos hb,hst];rfl
   rw [hC]
   simp only
   replace hC:=mkHid hC;replace hst:=mkHid hst;replace hb:=mkHid hb
   go_enter_defers Tryd.func27,Tryd.ntmps27
   go_wp2_with (first | (first | ((first | ((with_reducible refine gL ?_);first | refine ql1 hS rfl rfl rfl ?_ | refine qln hS rfl rfl rfl ?_) | ((with_reducible refine gS ?_);refine qs1 hS rfl rfl rfl ?_));refine ⟨_,zd,?_⟩;clear hS;(try clear w');intro a' hp;(try simp only [fr] at hp);subst hp;intro w' hS;(try simp only [sE] at hS)) | ((with_reducible refine gA ?_);refine qallocd 3 rfl hS rfl rfl ?_;clear hS;(try clear w');intro b3;intro a' hp;(try simp only [fr] at hp);subst hp;intro w' hS) | (((with_reducible refine gB ?_);refine qbox hS rfl rfl rfl ?_;refine ⟨_,za,?_⟩);clear hS;(try clear w');intro _;intro a' hp;(try simp only [fr] at hp);subst hp;intro w' hS)) |
    (go_at_call 77;refine calls_begin hS hk nilSl (by simp) hb.out ?_;clear hS;(try clear w');intro p V' w' hVV hcel hS;have hG':GV V':=hG.mono hVV) |
    (go_at_call 83;refine calls_panic hS (must_no V' p k hcel hok i hst.out _ (St.view hS)) ?_;clear hS;(try clear w');intro w' hS))
   (refine door_hit hS ?_;clear hS;(try clear w');intro w' hS;(try simp only [sE] at hS);refine ⟨_,by exact results2 (r1:=.tmp 2) (r2:=.cell 3 38) (by kernel_rfl) (by exact rs_tmp rfl) (by exact rs_1 hS rfl zd),?_⟩)
   exact ⟨_,rfl,hS.toKp,own_of hS (l:=[]) (j:=2) rfl⟩
 ·have hC:truthE k=([],beginE k []):=by unfold truthE;rw [if_neg hb]
  rw [hC]
  simp only
  have hb':(beginE k [] == 0)=false:=by rw [beq_eq_false_iff_ne];exact hb
  have hE:Go.RowKit.Hid (∃ e,beginE k []=e):=mkHid ⟨_,rfl⟩
  obtain ⟨e,he⟩:=hE.out
  rw [he] at hb' ⊢
  replace hC:=mkHid hC;replace he:=mkHid he
  go_enter_defers Tryd.func27,Tryd.ntmps27
  go_wp2_with (first | (first | ((first | ((with_reducible refine gL ?_);first | refine ql1 hS rfl rfl rfl ?_ | refine qln hS rfl rfl rfl ?_) | ((with_reducible refine gS ?_);refine qs1 hS rfl rfl rfl ?_));refine ⟨_,zd,?_⟩;clear hS;(try clear w');intro a' hp;(try simp only [fr] at hp);subst hp;intro w' hS;(try simp only [sE] at hS)) | ((with_reducible refine gA ?_);refine qallocd 3 rfl hS rfl rfl ?_;clear hS;(try clear w');intro b3;intro a' hp;(try simp only [fr] at hp);subst hp;intro w' hS) | (((with_reducible refine gB ?_);refine qbox hS rfl rfl rfl ?_;refine ⟨_,za,?_⟩);clear hS;(try clear w');intro _;intro a' hp;(try simp only [fr] at hp);subst hp;intro w' hS)) |
   (go_at_call 77;refine calls_begin_bad hS hk nilSl (by simp) hb ?_;rw [he.out];clear hS;(try clear w');intro w' hS))
  (refine held_start (S:=(St w [] V [.blk b3 38 [.int .i64 e]])) [false,false,false] rfl (by kernel_rfl) ?_;replace hS:=St.drew1 hS;(refine hxa 0 rfl ?_;intro a' l' hp hl;(try simp only [fr] at hp);(try simp only [sB] at hl);subst hp;subst hl);(refine he_pure 1 (by kernel_rfl) rfl rfl (St.subI hS) ?_;refine ⟨_,zp,?_⟩;intro a' l' hp hl;(try simp only [fr] at hp);(try simp only [sB] at hl);subst hp;subst hl);((refine he_s1 2 (by kernel_rfl) rfl hS rfl  rfl rfl ?_;refine ⟨_,zd,?_⟩);clear hS;(try clear w');intro a' l' hp hl;(try simp only [fr] at hp);(try simp only [sB] at hl);subst hp;subst hl;intro w' hS;(try simp only [sE] at hS);refine ⟨(St.subI hS),?_⟩);refine wpAnyH_done (by kernel_rfl) ?_ _)
  go_wp2_with (fail)
  (refine door_idle hS ?_;clear hS;(try clear w');intro w' hS;(try simp only [sE] at hS);refine ⟨_,by exact results2 (r1:=.tmp 2) (r2:=.cell 3 38) (by kernel_rfl) (by exact rs_tmp rfl) (by exact rs_1 hS rfl zd),?_⟩)
  exact ⟨_,rfl,hS.toKp,own_of hS (l:=[]) (j:=2) rfl⟩
end Go.Proofs.YtjjmefieegcddaaDoor
namespace Go.Proofs.YtjjmefieegcddaaDoor
open Go.RowKit Go.Wg Go.Mm
variable {w0 w:World} {X:List Nat} {V:View} {L:List Ent}
end Go.Proofs.YtjjmefieegcddaaDoor
namespace Go.Proofs.YtjjmefieegcddaaDoor
open Go.RowKit Go.Wg Go.Mm
variable {w:World} {V:View}
def beyondE (k:Wk) (v:Int):Int × Int :=
 if beginE k [v]=0 then (match beyondS k v.toNat with | some n=>((n:Int),0) | none=>(0,11)) else (0,beginE k [v])
set_option maxRecDepth 20000 in
set_option maxHeartbeats 2000000 in
theorem Beyond_ok (vv rv:Value) (k:Wk) (hk:WkIn V vv rv k) (hG:GV V) (hV:V.In w) (v:Int) :
  Calls Tryd.prog 51 #[.agg #[vv,rv],.int .i64 v] w fun r w'=>r=.returned (.tuple #[.int .i64 (beyondE k v).1,.int .i64 (beyondE k v).2])∧Kp w w':=by
 have hk0:=hk
 obtain ⟨va,vcap,rfl,hvc,hvm,hve⟩:=hk0.ves.is
 obtain ⟨ra,rcap,rfl,hrc,hrm,hre⟩:=hk0.rdg.is
 have hS:=St.start w V hV
 clear hk0 hve hre
 by_cases hb:beginE k [v]=0
 ·have hok:=beginE_check hb
  obtain ⟨hv0,hv1⟩:=beginE_one hb
  obtain ⟨vn,rfl⟩:∃ vn:Nat,v=(vn:Int):=⟨v.toNat,by omega⟩
  have hv6:vn < 6:=by have:=hok.le;omega
  have hhi:=nowS_hi k hok noneB vn
  have hlo0:0≤((nowS k noneB).losAt vn).2:=by
   have h1:=nowS_los k hok noneB vn
   rw [if_pos (by omega:vn < k.n)] at h1
   rw [h1]
   exact (hok.ves vn (by omega)).2.2.2.2.2.2.1
  have hcon:=fun V' p hcel hG' w' hV'=>beyond_ok V' p k hcel hok hG' vn hv6 hlo0 (Int.le_trans hhi (by decide)) w' hV'
  have hC:beyondE k vn=(match beyondS k vn with | some n=>((n:Int),0) | none=>(0,11)):=by unfold beyondE;rw [if_pos hb];rfl
  clear hhi hlo0
  cases hst:beyondS k vn with
  | none =>
   rw [hst] at hC hcon
   rw [hC]
   simp only
   unfold beyondV at hcon
   replace hC:=mkHid hC;replace hst:=mkHid hst;replace hb:=mkHid hb
   go_enter Tryd.func51,Tryd.ntmps51
   go_wp2_with (first | (first | (((with_reducible refine gL ?_);refine qln hS rfl rfl rfl ?_);refine ⟨_,zd,?_⟩;clear hS;(try clear w');intro a' hp;(try simp only [fr] at hp);subst hp;intro w' hS;(try simp only [sE] at hS)) | (((with_reducible refine gB ?_);refine qbox hS rfl rfl rfl ?_;refine ⟨_,za,?_⟩);clear hS;(try clear w');intro _;intro a' hp;(try simp only [fr] at hp);subst hp;intro w' hS)) | (((with_reducible refine gSl ?_);refine qbsl hS rfl rfl ?_;refine ⟨_,zq,zd,?_⟩;clear hS;(try clear w');intro _;intro a' hp;(try simp only [fr] at hp);subst hp;intro w' hS);obtain ⟨V1,hV1,hcell,hS'⟩:=pin hS;clear hS;have hS:=hS';clear hS';have hsl:=oneSl hcell;have hk1:=wkIn_mono hk hV1;clear hcell) |
    (go_at_call 77;refine calls_begin hS hk1 hsl (by simp) hb.out ?_;clear hS;(try clear w');intro p V' w' hVV hcel hS;have hG':GV V':=(hG.mono hV1).mono hVV) |
    (go_at_call 101;refine calls_by hS ⟨_,hcon V' p hcel hG' _ (St.view hS),?_⟩;clear hS;(try clear w');intro w' hS))
   ((try simp only [Exit.inBlock,Exit.then]);(try refine bodyPost_norm ?_);refine ret_by ⟨_,by exact results2 (r1:=.tmp 4) (r2:=.tmp 5) (by kernel_rfl) (by exact rs_tmp rfl) (by exact rs_tmp rfl),?_⟩ rfl)
   exact ⟨rfl,hS.toKp⟩
  | some n =>
   rw [hst] at hC hcon
   rw [hC]
   simp only
   unfold beyondV at hcon
   replace hC:=mkHid hC;replace hst:=mkHid hst;replace hb:=mkHid hb
   go_enter Tryd.func51,Tryd.ntmps51
   go_wp2_with (first | (first | (((with_reducible refine gL ?_);refine qln hS rfl rfl rfl ?_);refine ⟨_,zd,?_⟩;clear hS;(try clear w');intro a' hp;(try simp only [fr] at hp);subst hp;intro w' hS;(try simp only [sE] at hS)) | (((with_reducible refine gB ?_);refine qbox hS rfl rfl rfl ?_;refine ⟨_,za,?_⟩);clear hS;(try clear w');intro _;intro a' hp;(try simp only [fr] at hp);subst hp;intro w' hS)) | (((with_reducible refine gSl ?_);refine qbsl hS rfl rfl ?_;refine ⟨_,zq,zd,?_⟩;clear hS;(try clear w');intro _;intro a' hp;(try simp only [fr] at hp);subst hp;intro w' hS);obtain ⟨V1,hV1,hcell,hS'⟩:=pin hS;clear hS;have hS:=hS';clear hS';have hsl:=oneSl hcell;have hk1:=wkIn_mono hk hV1;clear hcell) |
    (go_at_call 77;refine calls_begin hS hk1 hsl (by simp) hb.out ?_;clear hS;(try clear w');intro p V' w' hVV hcel hS;have hG':GV V':=(hG.mono hV1).mono hVV) |
    (go_at_call 101;refine calls_by hS ⟨_,hcon V' p hcel hG' _ (St.view hS),?_⟩;clear hS;(try clear w');intro w' hS))
   ((try simp only [Exit.inBlock,Exit.then]);(try refine bodyPost_norm ?_);refine ret_by ⟨_,by exact results2 (r1:=.tmp 4) (r2:=.tmp 5) (by kernel_rfl) (by exact rs_tmp rfl) (by exact rs_tmp rfl),?_⟩ rfl)
   exact ⟨rfl,hS.toKp⟩
 ·have hC:beyondE k v=(0,beginE k [v]):=by unfold beyondE;rw [if_neg hb]
  rw [hC]
  simp only
  have hb':(beginE k [v] == 0)=false:=by rw [beq_eq_false_iff_ne];exact hb
  have hE:Go.RowKit.Hid (∃ e,beginE k [v]=e):=mkHid ⟨_,rfl⟩
  obtain ⟨e,he⟩:=hE.out
  rw [he] at hb' ⊢
  replace hC:=mkHid hC;replace he:=mkHid he
  go_enter Tryd.func51,Tryd.ntmps51
  go_wp2_with (first | (first | (((with_reducible refine gL ?_);refine qln hS rfl rfl rfl ?_);refine ⟨_,zd,?_⟩;clear hS;(try clear w');intro a' hp;(try simp only [fr] at hp);subst hp;intro w' hS;(try simp only [sE] at hS)) | (((with_reducible refine gB ?_);refine qbox hS rfl rfl rfl ?_;refine ⟨_,za,?_⟩);clear hS;(try clear w');intro _;intro a' hp;(try simp only [fr] at hp);subst hp;intro w' hS)) | (((with_reducible refine gSl ?_);refine qbsl hS rfl rfl ?_;refine ⟨_,zq,zd,?_⟩;clear hS;(try clear w');intro _;intro a' hp;(try simp only [fr] at hp);subst hp;intro w' hS);obtain ⟨V1,hV1,hcell,hS'⟩:=pin hS;clear hS;have hS:=hS';clear hS';have hsl:=oneSl hcell;have hk1:=wkIn_mono hk hV1;clear hcell) |
   (go_at_call 77;refine calls_begin_bad hS hk1 hsl (by simp) hb ?_;rw [he.out];clear hS;(try clear w');intro w' hS))
  ((try simp only [Exit.inBlock,Exit.then]);(try refine bodyPost_norm ?_);refine ret_by ⟨_,by exact results2 (r1:=.tmp 4) (r2:=.tmp 5) (by kernel_rfl) (by exact rs_tmp rfl) (by exact rs_tmp rfl),?_⟩ rfl)
  exact ⟨rfl,hS.toKp⟩
end Go.Proofs.YtjjmefieegcddaaDoor
namespace Go.Proofs.YtjjmefieegcddaaDoor
open Go.RowKit Go.Wg Go.Mm
variable {w:World} {V:View}
end Go.Proofs.YtjjmefieegcddaaDoor
namespace Go.Proofs.YtjjmefieegcddaaDoor
open Go.RowKit Go.Wg Go.Mm
variable {w:World} {V:View}
end Go.Proofs.YtjjmefieegcddaaDoor
namespace Go.Proofs.YtjjmefieegcddaaDoor
open Go.RowKit Go.Wg Go.Mm
variable {w:World} {V:View}
end Go.Proofs.YtjjmefieegcddaaDoor
namespace Go.Proofs.YtjjmefieegcddaaDoor
open Go.RowKit Go.Wg Go.Mm
variable {w:World} {V:View}
set_option maxHeartbeats 1000000 in
theorem reading_ok (r:Rdg) (w:World):Calls Tryd.prog 42 #[.int .i64 r.vessel,.int .i64 r.scale,.int .i64 r.shown,.int .i64 r.err] w fun e w'=>e=.returned (.agg r.cells.toArray)∧Kp w w':=by
 have hS:=St.start w (fun _=>none) (fun k o h=>by cases h)
 unfold Rdg.cells
 go_enter Tryd.func42,Tryd.ntmps42
 go_wp2_with (first | (((with_reducible refine gS ?_);refine qsall hS rfl rfl rfl ?_);refine ⟨_,zd,?_⟩;clear hS;(try clear w');intro a' hp;(try simp only [fr] at hp);subst hp;intro w' hS;(try simp only [sE] at hS)) | (((with_reducible refine gA ?_);refine qalloc hS rfl rfl ?_);clear hS;(try clear w');intro _;intro a' hp;(try simp only [fr] at hp);subst hp;intro w' hS))
 ((try simp only [Exit.inBlock,Exit.then]);(try refine bodyPost_norm ?_);refine ret_by ⟨_,by exact results1 (r1:=.cell 8 59) (by kernel_rfl) (by exact rs_n hS rfl zd),?_⟩ rfl)
 exact ⟨rfl,hS.toKp⟩
set_option maxHeartbeats 1000000 in
theorem vessel_ok (v:Ves) (w:World):Calls Tryd.prog 76 #[.int .i64 v.from_,.int .i64 v.room,.int .i64 v.lo,.int .i64 v.hi] w fun e w'=>e=.returned (.agg v.cells.toArray)∧Kp w w':=by
 have hS:=St.start w (fun _=>none) (fun k o h=>by cases h)
 unfold Ves.cells
 go_enter Tryd.func76,Tryd.ntmps76
 go_wp2_with (first | (((with_reducible refine gS ?_);refine qsall hS rfl rfl rfl ?_);refine ⟨_,zd,?_⟩;clear hS;(try clear w');intro a' hp;(try simp only [fr] at hp);subst hp;intro w' hS;(try simp only [sE] at hS)) | (((with_reducible refine gA ?_);refine qalloc hS rfl rfl ?_);clear hS;(try clear w');intro _;intro a' hp;(try simp only [fr] at hp);subst hp;intro w' hS))
 ((try simp only [Exit.inBlock,Exit.then]);(try refine bodyPost_norm ?_);refine ret_by ⟨_,by exact results1 (r1:=.cell 8 29) (by kernel_rfl) (by exact rs_n hS rfl zd),?_⟩ rfl)
 exact ⟨rfl,hS.toKp⟩
theorem run_bs23_3 {o:Oper} {ρ:Operand→Value} {x y z:Operand} {a b c:Rdg} (ho:o.op=.buildSlice 23 3 #[(0,x),(1,y),(2,z)]) (hx:ρ x=.agg a.cells.toArray) (hy:ρ y=.agg b.cells.toArray) (hz:ρ z=.agg c.cells.toArray) (w:World) :
  (execOp ρ o).run Tryd.prog w=.ok (.value (.slice (some ⟨w.heap.size,0,none⟩) 3 3)) (w.alloc (.cells (rdgC [a,b,c]).toArray 59)):=by
 unfold execOp
 simp only [ho,List.map_toArray,List.map_cons,List.map_nil,hx,hy,hz]
 kernel_rfl
theorem run_bs23_1 {o:Oper} {ρ:Operand→Value} {x:Operand} {a:Rdg} (ho:o.op=.buildSlice 23 1 #[(0,x)]) (hx:ρ x=.agg a.cells.toArray) (w:World) :
  (execOp ρ o).run Tryd.prog w=.ok (.value (.slice (some ⟨w.heap.size,0,none⟩) 1 1)) (w.alloc (.cells (rdgC [a]).toArray 59)):=by
 unfold execOp
 simp only [ho,List.map_toArray,List.map_cons,List.map_nil,hx]
 kernel_rfl
theorem run_bs22_4 {o:Oper} {ρ:Operand→Value} {x y z u:Operand} {a b c d:Ves} (ho:o.op=.buildSlice 22 4 #[(0,x),(1,y),(2,z),(3,u)]) (hx:ρ x=.agg a.cells.toArray) (hy:ρ y=.agg b.cells.toArray) (hz:ρ z=.agg c.cells.toArray) (hu:ρ u=.agg d.cells.toArray) (w:World) :
  (execOp ρ o).run Tryd.prog w=.ok (.value (.slice (some ⟨w.heap.size,0,none⟩) 4 4)) (w.alloc (.cells (vesC [a,b,c,d]).toArray 29)):=by
 unfold execOp
 simp only [ho,List.map_toArray,List.map_cons,List.map_nil,hx,hy,hz,hu]
 kernel_rfl
theorem run_bs22_1 {o:Oper} {ρ:Operand→Value} {x:Operand} {a:Ves} (ho:o.op=.buildSlice 22 1 #[(0,x)]) (hx:ρ x=.agg a.cells.toArray) (w:World) :
  (execOp ρ o).run Tryd.prog w=.ok (.value (.slice (some ⟨w.heap.size,0,none⟩) 1 1)) (w.alloc (.cells (vesC [a]).toArray 29)):=by
 unfold execOp
 simp only [ho,List.map_toArray,List.map_cons,List.map_nil,hx]
 kernel_rfl
theorem run_apnil {o:Oper} {ρ:Operand→Value} {x y:Operand} {g:Nat} (ho:o.op=.call { callee:=.builtin .append,args:=#[x,y],argTypes:=#[23,23] }) (hx:ρ x=.slice (some ⟨g,0,none⟩) 3 3) (hy:ρ y=.slice none 0 0) (w:World) :
  (execOp ρ o).run Tryd.prog w=.ok (.value (.slice (some ⟨g,0,none⟩) 3 3)) w:=by
 unfold execOp
 simp only [ho,List.map_toArray,List.map_cons,List.map_nil,hx,hy,resolve]
 kernel_rfl
end Go.Proofs.YtjjmefieegcddaaDoor
namespace Go.Proofs.YtjjmefieegcddaaDoor
open Go.RowKit Go.Wg Go.Mm
variable {w:World} {V:View}
theorem qraw {w0:World} {X:List Nat} {L:List Ent} {ops:Array Oper} {o:Oper} {rest:List Oper} {a:Act} {Q:Exit→Act→World→Prop} (hS:St w0 X V L w) (hgd:Region.wanted o (yielded ops a.tmps)=true) {n:Nat} {e:TypeId} {vs:List Value}
  (hr:∀ w,(execOp a.eval o).run Tryd.prog w=.ok (.value (.slice (some ⟨w.heap.size,0,none⟩) n n)) (w.alloc (.cells vs.toArray e)))
  (h:∀ b a',a.put o.dst (.slice (some ⟨b,0,none⟩) n n)=a'→∀ w',St w0 X V (.blk b e vs :: L) w'→wpList Tryd.prog ops Q rest a' w'):wpList Tryd.prog ops Q (o :: rest) a w :=
 wpl_value hgd (hr w) (h _ _ rfl _ (hS.alloc e vs))
theorem qpure {ops:Array Oper} {o:Oper} {rest:List Oper} {a:Act} {Q:Exit→Act→World→Prop} (hgd:Region.wanted o (yielded ops a.tmps)=true) {v:Value} (hr:∀ w,(execOp a.eval o).run Tryd.prog w=.ok (.value v) w)
  (h:∀ a',a.put o.dst v=a'→wpList Tryd.prog ops Q rest a' w):wpList Tryd.prog ops Q (o :: rest) a w :=
 wpl_value hgd (hr w) (h _ rfl)
theorem st_row {w0:World} {X:List Nat} {L:List Ent} {g s n:Nat} {e:TypeId} {cs:List Value} (h:St w0 X V (.blk g e cs :: L) w) (hl:cs.length=n * s) (hn:n≤maxLen):St w0 X V (.row (.slice (some ⟨g,0,none⟩) n n) e s n cs :: L) w:=by
 have hb:w.heap[g]? = some (.cells cs.toArray e (0,0)):=h.has _ (List.mem_cons_self ..)
 refine ⟨h.os,h.output,h.size,h.old,h.view,fun f hf=>?_,fun f hf b hb'=>?_,fun f hf b hb'=>?_,?_⟩
 ·rcases List.mem_cons.1 hf with rfl | hf
  ·refine ⟨⟨hl,.inr ⟨g,n,cs.toArray,rfl,Nat.zero_le _,hb,Nat.le_refl _,hn,by simpa using hl,by rw [List.take_of_length_le (by simp [hl])]⟩⟩,fun g' hg' cur t fr hcur i c hi hc=>?_⟩
   have:g'=g:=by simpa [Value.ownBlock] using hg'.symm
   subst this
   rw [hb] at hcur
   cases hcur
   have:=(Array.getElem?_eq_some_iff.1 hc).1
   simp [hl] at this
   omega
  ·exact h.has f (List.mem_cons_of_mem _ hf)
 ·rcases List.mem_cons.1 hf with rfl | hf
  ·exact h.new (.blk g e cs) (List.mem_cons_self ..) b hb'
  ·exact h.new f (List.mem_cons_of_mem _ hf) b hb'
 ·rcases List.mem_cons.1 hf with rfl | hf
  ·exact h.off (.blk g e cs) (List.mem_cons_self ..) b hb'
  ·exact h.off f (List.mem_cons_of_mem _ hf) b hb'
 ·exact h.nd
theorem run_append_v {P:Program} {w0:World} {X:List Nat} {L:List Ent} (hS:St w0 X V L w) {o:Oper} {ρ:Operand→Value} {sl x:Operand} {t e:TypeId} {size:Nat} (ho:o.op=.call { callee:=.builtin .append,args:=#[sl,x],argTypes:=#[t,t] })
  (ht:slB P t e size=true) {j n:Nat} {v:Value} {xs:List Value} (hj:L[j]? = some (.row v e size n xs)) (hv:ρ sl=v)
  {b m c:Nat} {news:List Value} (hjb:V.Range b 0 news) (hx:ρ x=.slice (some ⟨b,0,none⟩) m c) (hm:news.length=m * size) (h1:∀ u∈news,u.oneCell'=true) (hn:n+m≤1000) :
  ∃ v' w',(execOp ρ o).run P w=.ok (.value v') w'∧St w0 X V (L.set j (.row v' e size (n+m) (xs ++ news))) w':=by
 have hcell:∀ i u,news[i]? = some u→w.cell? ⟨b,i,none⟩=some u:=fun i u hi=>by
  have:=(hjb i u hi).cell hS.view
  rwa [Nat.zero_add] at this
 unfold slB at ht
 simp only [Bool.and_eq_true] at ht
 obtain ⟨⟨ht1,ht2⟩,ht3⟩:=ht
 have hu:P.underlying t=some (.slice e):=by
  cases hd:P.underlying t with
  | none=>rw [hd] at ht1;cases ht1
  | some d=>rw [hd] at ht1;cases d <;> simp_all
 cases hq:P.info? e with
 | none=>rw [hq] at ht2;cases ht2
 | some q =>
  rw [hq] at ht2
  simp only [Option.any_some,Bool.and_eq_true,beq_iff_eq,decide_eq_true_eq] at ht2
  obtain ⟨⟨hqs,hqz⟩,hqb⟩:=ht2
  cases hz:q.zero with
  | none=>rw [hz] at hqz;cases hqz
  | some z =>
   rw [hz] at hqz
   simp only [Option.any_some,Bool.and_eq_true,beq_iff_eq] at hqz
   obtain ⟨hqz,hqf⟩:=hqz
   have hsz:0 < size:=by simpa using ht3
   obtain ⟨v',w',hr,h2,h3,_,h5⟩:=run_append_own_at (P:=P) w 0 t o.type e q z size q.bytes hu hq hz hqs rfl hqz hsz v n xs (hS.atRow hj) ⟨b,0,none⟩ m c news hm
    (fun i u hi=>by rw [Addr.add_mid];simpa using hcell i u hi) h1 (by unfold maxLen;omega) (by
     have:(n+m) * q.bytes≤1000 * 1000:=Nat.mul_le_mul hn hqb
     omega) (Nat.zero_le _)
   refine ⟨v',w',?_,hS.grow hj h3 h2 (hqs ▸ append_pad (P:=P) hu hq hz hqf (hqs ▸ hS.atRow hj) (hqs ▸ hS.atPad hj) (a:=⟨b,0,none⟩) (hqs ▸ hm) (fun i u hi=>by rw [Addr.add_mid];simpa using hcell i u hi) h1 (by unfold maxLen;omega) (by
     have:(n+m) * q.bytes≤1000 * 1000:=Nat.mul_le_mul hn hqb
     omega) hr) h5⟩
   unfold execOp
   simp only [ho,resolve,invoke,builtin,Sem.run_bind,Sem.run_pure,Result.andThen_ok,List.map_toArray,List.map_cons,List.map_nil,hv,hx,hr]
theorem qapone {w0:World} {X:List Nat} {L:List Ent} {e1:Ent} {ops:Array Oper} {o:Oper} {rest:List Oper} {a:Act} {Q:Exit→Act→World→Prop} {g bm n m:Nat} {cs news:List Value} (hS:St w0 X V (e1 :: .blk g 59 cs :: L) w) (hgd:Region.wanted o (yielded ops a.tmps)=true)
  {x y:Operand} (ho:o.op=.call { callee:=.builtin .append,args:=#[x,y],argTypes:=#[23,23] }) (hx:a.eval x=.slice (some ⟨g,0,none⟩) n n) (hy:a.eval y=.slice (some ⟨bm,0,none⟩) m m) (hl:cs.length=n * 4) (hm:V.Range bm 0 news) (hlm:news.length=m * 4) (h1:∀ u∈news,u.oneCell'=true) (hn:n+m≤1000) (hm0:0 < m)
  (h:∀ g' cap a',a.put o.dst (.slice (some ⟨g',0,none⟩) (n+m:Nat) cap)=a'→∀ w',St w0 X V (.row (.slice (some ⟨g',0,none⟩) (n+m:Nat) cap) 59 4 (n+m) (cs ++ news) :: e1 :: L) w'→wpList Tryd.prog ops Q rest a' w'):wpList Tryd.prog ops Q (o :: rest) a w:=by
 have hS1:=st_row (hS.perm (List.Perm.swap _ _ _)) hl (by unfold maxLen;omega)
 obtain ⟨v',w',hr,hS2⟩:=run_append_v (P:=Tryd.prog) hS1 ho (by kernel_rfl) (j:=0) rfl hx hm hy hlm h1 hn
 rw [List.set_cons_zero] at hS2
 have hrow:=(hS2.has _ (List.mem_cons_self ..)).1
 rcases hrow.2 with ⟨_,h0⟩ | ⟨g',cap,cur,rfl,_⟩
 ·omega
 ·exact wpl_value hgd hr (h g' cap _ rfl w' hS2)
theorem reading4 (a b c d:Int) (w:World):Calls Tryd.prog 42 #[.int .i64 a,.int .i64 b,.int .i64 c,.int .i64 d] w fun e w'=>e=.returned (.agg (Rdg.cells ⟨a,b,c,d⟩).toArray)∧Kp w w':=reading_ok ⟨a,b,c,d⟩ w
theorem vessel4 (a b c d:Int) (w:World):Calls Tryd.prog 76 #[.int .i64 a,.int .i64 b,.int .i64 c,.int .i64 d] w fun e w'=>e=.returned (.agg (Ves.cells ⟨a,b,c,d⟩).toArray)∧Kp w w':=vessel_ok ⟨a,b,c,d⟩ w
def MeltR (V:View) (w:World) (k:Wk) (e:Ending) (w':World):Prop :=
 ∃ (V':View) (vv rv:Value),e=.returned (.agg #[vv,rv])∧Kp w w'∧(∀ i,i < w.heap.size→V' i=V i)∧V'.In w'∧WkIn V' vv rv k
set_option maxRecDepth 20000 in
set_option maxHeartbeats 4000000 in
theorem melt_nil (hB:Bs V) (hV:V.In w):Calls Tryd.prog 75 #[.slice none 0 0] w (MeltR V w (meltK [])):=by
 have hS:=St.start w V hV
 go_enter Tryd.func75,Tryd.ntmps75
 go_wp2_with (first | (first | (((with_reducible refine gS ?_);refine qsall hS rfl rfl rfl ?_);refine ⟨_,zd,?_⟩;clear hS;(try clear w');intro a' hp;(try simp only [fr] at hp);subst hp;intro w' hS;(try simp only [sE] at hS)) | (((with_reducible refine gA ?_);refine qalloc hS rfl rfl ?_);clear hS;(try clear w');intro _;intro a' hp;(try simp only [fr] at hp);subst hp;intro w' hS)) |
  (go_at_call 42;refine calls_by hS ⟨_,reading4 _ _ _ _ _,?_⟩;clear hS;(try clear w');intro w' hS) |
  (go_at_call 76;refine calls_by hS ⟨_,vessel4 _ _ _ _ _,?_⟩;clear hS;(try clear w');intro w' hS) |
  ((with_reducible refine gSl ?_);refine qraw hS rfl (run_bs23_3 (a:=⟨0,0,30,1⟩) (b:=⟨2,1,12,1⟩) (c:=⟨3,1,15,0⟩) rfl rfl rfl rfl) ?_;clear hS;(try clear w');intro bR a' hp;(try simp only [fr] at hp);subst hp;intro w' hS) |
  ((with_reducible refine gSl ?_);refine qraw hS rfl (run_bs22_4 (a:=⟨-1,40,1,4⟩) (b:=⟨0,20,0,2⟩) (c:=⟨0,20,0,0⟩) (d:=⟨1,20,0,0⟩) rfl rfl rfl rfl rfl) ?_;clear hS;(try clear w');intro bV a' hp;(try simp only [fr] at hp);subst hp;intro w' hS) |
  ((with_reducible refine gAp ?_);refine qpure rfl (run_apnil rfl rfl rfl) ?_;intro a' hp;(try simp only [fr] at hp);subst hp))
 ((try simp only [Exit.inBlock,Exit.then]);(try refine bodyPost_norm ?_);refine ret_by ⟨_,by exact results1 (r1:=.cell 2 25) (by kernel_rfl) (by exact rs_n hS rfl zd),?_⟩ rfl)
 have h1:=hS.has1 (b:=bV)
 have h2:=hS.has1 (b:=bR)
 obtain ⟨V',h3,h4,h5⟩:=wk_of (k:=meltK []) hB hV hS.toKp (by decide) (hS.newAt (b:=bV)) (hS.newAt (b:=bR)) h1 h2 (Nat.le_refl _) (by decide) (by rfl) (fun i c hi hc=>by
  have:=(Array.getElem?_eq_some_iff.1 hc).1
  have e:(rdgC [⟨0,0,30,1⟩,⟨2,1,12,1⟩,⟨3,1,15,0⟩]).toArray.size=12:=rfl
  have e2:(meltK []).rdg.length=3:=rfl
  omega)
 exact ⟨V',_,_,rfl,hS.toKp,h3,h4,h5⟩
set_option maxRecDepth 20000 in
set_option maxHeartbeats 4000000 in
theorem melt_one (hB:Bs V) (hV:V.In w) {bm:Nat} (r:Rdg) (hm:V.Range bm 0 (rdgC [r])):Calls Tryd.prog 75 #[.slice (some ⟨bm,0,none⟩) 1 1] w (MeltR V w (meltK [r])):=by
 have hS:=St.start w V hV
 have hro:∀ u∈rdgC [r],u.oneCell'=true:=fun u hu=>by
  simp [rdgC,Rdg.cells] at hu
  rcases hu with rfl | rfl | rfl | rfl <;> rfl
 go_enter Tryd.func75,Tryd.ntmps75
 go_wp2_with (first | (first | (((with_reducible refine gS ?_);refine qsall hS rfl rfl rfl ?_);refine ⟨_,zd,?_⟩;clear hS;(try clear w');intro a' hp;(try simp only [fr] at hp);subst hp;intro w' hS;(try simp only [sE] at hS)) | (((with_reducible refine gA ?_);refine qalloc hS rfl rfl ?_);clear hS;(try clear w');intro _;intro a' hp;(try simp only [fr] at hp);subst hp;intro w' hS)) |
  (go_at_call 42;refine calls_by hS ⟨_,reading4 _ _ _ _ _,?_⟩;clear hS;(try clear w');intro w' hS) |
  (go_at_call 76;refine calls_by hS ⟨_,vessel4 _ _ _ _ _,?_⟩;clear hS;(try clear w');intro w' hS) |
  ((with_reducible refine gSl ?_);refine qraw hS rfl (run_bs23_3 (a:=⟨0,0,30,1⟩) (b:=⟨2,1,12,1⟩) (c:=⟨3,1,15,0⟩) rfl rfl rfl rfl) ?_;clear hS;(try clear w');intro bR a' hp;(try simp only [fr] at hp);subst hp;intro w' hS) |
  ((with_reducible refine gSl ?_);refine qraw hS rfl (run_bs22_4 (a:=⟨-1,40,1,4⟩) (b:=⟨0,20,0,2⟩) (c:=⟨0,20,0,0⟩) (d:=⟨1,20,0,0⟩) rfl rfl rfl rfl rfl) ?_;clear hS;(try clear w');intro bV a' hp;(try simp only [fr] at hp);subst hp;intro w' hS) |
  ((with_reducible refine gAp ?_);refine qapone hS rfl rfl rfl rfl rfl hm rfl hro (by decide) (by decide) ?_;clear hS;(try clear w');intro gR cap a' hp;(try simp only [fr] at hp);subst hp;intro w' hS))
 ((try simp only [Exit.inBlock,Exit.then]);(try refine bodyPost_norm ?_);refine ret_by ⟨_,by exact results1 (r1:=.cell 2 25) (by kernel_rfl) (by exact rs_n hS rfl zd),?_⟩ rfl)
 have h1:=hS.has1 (b:=bV)
 obtain ⟨hrw,hpd⟩:=hS.has _ (List.mem_cons_self ..)
 have hnew:=(hS.new _ (List.mem_cons_self ..) gR rfl).elim id (fun h=>nomatch h)
 rcases hrw.2 with ⟨h0,_⟩ | ⟨g',cap',cur,he,_,h2,hc1,hc2,hcs,hct⟩
 ·cases h0
 ·cases he
  obtain ⟨V',h3,h4,h5⟩:=wk_of (k:=meltK [r]) hB hV hS.toKp ⟨by show (4:Nat)≤100;decide,by show (4:Nat)≤100;decide⟩ (hS.newAt (b:=bV)) hnew h1 h2 hc1 hc2 hct (fun i c hi hc=>hpd gR rfl cur 59 (0,0) h2 i c hi hc)
  exact ⟨V',_,_,rfl,hS.toKp,h3,h4,h5⟩
end Go.Proofs.YtjjmefieegcddaaDoor
namespace Go.Wk
open Go
variable {P:Program}
def Reach (P:Program) (ops:Array Oper) (l:List Nat) (S:Act→World→Prop) (c:Code) (a:Act) (w:World):Prop :=
 ∀ (b:Frame) (cs:List Frame),∃ a' w',S a' w'∧Steps P (lone (b.at a [.code c]) cs w) (lone (b.at a' [.inRegion ops l]) cs w')
def ReachI (P:Program) (ops:Array Oper) (l:List Nat) (S:Act→World→Prop) (l0:List Nat) (a:Act) (w:World):Prop :=
 ∀ (b:Frame) (cs:List Frame),∃ a' w',S a' w'∧Steps P (lone (b.at a [.inRegion ops l0]) cs w) (lone (b.at a' [.inRegion ops l]) cs w')
variable {ops:Array Oper} {l:List Nat} {S:Act→World→Prop} {a:Act} {w:World}
theorem reach_seq {x y:Code} (h:x.wp P (fun e a' w'=>e=.normal∧Reach P ops l S y a' w') a w):Reach P ops l S (.seq x y) a w:=by
 intro b cs
 obtain ⟨e,a₁,w₁,⟨rfl,hR⟩,harr⟩:=h b [.code y] cs
 obtain ⟨a',w',hs,hst⟩:=hR b cs
 exact ⟨a',w',hs,.head step_seq (Steps.trans harr hst)⟩
theorem reach_region {id:Nat} (h:ReachI P ops l S (List.range ops.size) a w):Reach P ops l S (.region id ops false) a w:=by
 intro b cs
 obtain ⟨a',w',hs,hst⟩:=h b cs
 exact ⟨a',w',hs,.head step_region hst⟩
theorem reachI_here (h:S a w):ReachI P ops l S l a w:=fun _ _=>⟨a,w,h,.refl _ _⟩
theorem reachI_op {i:Nat} {rest:List Nat} {o:Oper} {v:Value} {w':World} (ho:ops[i]? = some o) (hw:Region.wanted o (yielded ops a.tmps)=true) (hr:(execOp a.eval o).run P w=.ok (.value v) w')
  (h:ReachI P ops l S rest (a.put o.dst v) w'):ReachI P ops l S (i :: rest) a w:=by
 intro b cs
 obtain ⟨a',w'',hs,hst⟩:=h b cs
 have hg:=stepG_op (P:=P) (b:=b) (k:=[]) (cs:=cs) (w:=w) (rest:=rest) ho hw
 have hfin:(b.at a (.inRegion ops (i :: rest) :: [])).finish v=b.at (a.put o.dst v) (.inRegion ops rest :: []):=by rw [Frame.finish_at,ho];rfl
 refine ⟨a',w'',hs,.head (step_lone_go ?_) hst⟩
 rw [hg,← hfin]
 simp [stepG.apply,hr]
theorem reach_enter {f:FuncId} {fn:Func} {c:Code} {args:Array Value} (hf:P.funcs[f]? = some fn) (hb:fn.body=some c) (h:Reach P ops l S c { tmps:=args ++ Array.replicate (fn.ntmps - args.size) undef,defers:=[] } w) (cs:List Frame) :
  ∃ a' w',S a' w'∧Steps P (lone (Frame.enter P f args .normal) cs w) (lone ((Frame.enter P f args .normal).at a' [.inRegion ops l]) cs w'):=by
 obtain ⟨a',w',hs,hst⟩:=h (Frame.enter P f args .normal) cs
 refine ⟨a',w',hs,?_⟩
 have e:(Frame.enter P f args .normal).at { tmps:=args ++ Array.replicate (fn.ntmps - args.size) undef,defers:=[] } [.code c]=Frame.enter P f args .normal:=by
  simp [Frame.at,Frame.enter,hf,hb]
 rw [e] at hst
 exact hst
end Go.Wk
namespace Go.Proofs.YtjjmefieegcddaaDoor
open Go.RowKit Go.Wg Go.Mm Go.Wk
variable {w:World} {V:View}
noncomputable def sendOps:Array Oper:=match Tryd.f123.body with
 | some (.seq _ (.seq _ (.seq _ (.seq _ (.region _ ops _)))))=>ops
 | _=>#[]
set_option maxRecDepth 20000 in
set_option maxHeartbeats 4000000 in
theorem found_reach (p:Nat) (k:Wk) (ts:List Nat) (vv rv:Value) (hC:Cel V p k ts vv rv) (hok:k.Ok) (s:SS) (hs:s.WF) (hlo:∀ i,0≤(s.losAt i).1) (hhi:∀ i,(s.losAt i).2≤1000) (st:Bool) (i:Nat) (hi:i < k.n)
  (bt bs bst bf c:Nat) (h1:V.Cell bt 0 (ptr (ts.getD i 0))) (h2:V.Range bs 0 (stC s)) (h3:V.Cell bst 0 (.bool st)) (h4:V.Cell bf 0 (.chan (some c))) (hV:V.In w) (cs:List Frame) :
  ∃ a' w',(a'.defers=[]∧a'.tmps.toList[40]? = some (.chan (some c))∧a'.tmps.toList[41]? = some (spanV (foundS k s st i))∧Kp w w') ∧
   Steps Tryd.prog (lone (Frame.enter Tryd.prog 123 #[ptr bt,ptr bs,ptr bst,ptr bf] .normal) cs w) (lone ((Frame.enter Tryd.prog 123 #[ptr bt,ptr bs,ptr bst,ptr bf] .normal).at a' [.inRegion sendOps [2]]) cs w'):=by
 have hn6:=hC.le
 have hlen:(stC s).length=18:=stC_len hs
 have hsp:=spread_ok V p k ts vv rv hC hok s hs hlo hhi st (k.n - i) i (by omega) hi (Nat.le_refl _)
 have hgw:=spreadF_wf k s st hlo (k.n - i) i
 have hF:foundS k s st i=(foundTo (spreadF k s st (k.n - i) i) 41).getD (0,0):=rfl
 rw [hF]
 generalize spreadF k s st (k.n - i) i=G at hsp hgw
 have hS:=St.start w V hV
 clear hC hlo hhi hF hi
 unfold ptr at *
 generalize ts.getD i 0=ti at h1 hsp
 refine reach_enter Tryd.func123 rfl ?_ cs
 simp only [Tryd.ntmps123,List.size_toArray,List.length_cons,List.length_nil,Nat.reduceAdd,Nat.reduceSub,Array.replicate_succ,Array.replicate_zero,List.push_toArray,List.append_toArray,List.nil_append,List.cons_append]
 refine reach_seq ?_
 go_wp2_with (first | (((with_reducible refine gL ?_);first | refine qv1 hS rfl rfl rfl ?_ | refine qvn hS rfl rfl rfl ?_);refine ⟨_,zd,?_⟩;clear hS;(try clear w');intro a' hp;(try simp only [fr] at hp);subst hp;intro w' hS;(try simp only [sE] at hS)) | (go_at_call 124;refine calls_new hS ⟨_,_,hsp _ (St.view hS),?_⟩;clear hS;(try clear w');intro g w' hS))
 refine reach_seq ?_
 go_wp2_with ((with_reducible refine gA ?_);refine qallocd 5 rfl hS rfl rfl ?_;clear hS;(try clear w');intro b5;intro a' hp;(try simp only [fr] at hp);subst hp;intro w' hS)
 refine reach_seq ?_
 go_wp2_with (fail)
 refine reach_seq ?_
 go_wp2_with (fail)
 have hha:=grC_has hgw
 have hsa:=hgw.small
 go_loopw [6,12] (fun sv mv wr=>∃ m:Nat,m≤41∧sv=.bool (foundTo G m).isSome∧mv=.int .i64 (m:Int)∧St w [] V [.blk b5 27 [.int .i64 ((foundTo G m).getD (0,0)).1,.int .i64 ((foundTo G m).getD (0,0)).2],.blk g 170 (grC G)] wr) (fun _ mv _=>41 - (intOf mv).toNat)
 case atStart=>exact ⟨0,by omega,rfl,rfl,hS⟩
 case round =>
  clear hS
  obtain ⟨m,hm,rfl,rfl,hS⟩:=hrel
  by_cases hm4:m < 41
  ·have hm0:(0:Int)≤m:=by omega
   have hm1:(m:Int) < 41:=by omega
   have hga:=grC_at hgw hm4
   have HR:foundTo G (m+1)=if G.has.testBit m then some (match foundTo G m with | none=>G.get m | some r=>widerS r (G.get m)) else foundTo G m:=rfl
   cases hb:G.has.testBit m
   ·rw [hb] at HR
    replace HR:=mkHid HR
    generalize foundTo G m=fo at hS HR
    go_wp2_with (first | (((with_reducible refine gL ?_);refine ql1 hS rfl rfl rfl ?_);refine ⟨_,zd,?_⟩;clear hS;(try clear w');intro a' hp;(try simp only [fr] at hp);subst hp;intro w' hS;(try simp only [sE] at hS)) | (go_at_call 125;refine (has_ok G.has m (by omega) (by omega) _).mono ?_;rw [hb];rintro _ w' ⟨rfl,rfl⟩))
    go_roundw
    case rel=>exact ⟨m+1,by omega,by rw [HR.out];rfl,by go_num,by rw [HR.out];exact hS⟩
    case measure=>simp only [intOf];omega
   ·rw [hb] at HR
    cases hfo:foundTo G m with
    | none =>
     rw [hfo] at HR hS
     replace HR:=mkHid HR;replace hfo:=mkHid hfo
     go_wp2_with (first | ((first | ((with_reducible refine gL ?_);first | refine ql1 hS rfl rfl rfl ?_ | refine qln hS rfl rfl rfl ?_) | ((with_reducible refine gS ?_);refine qsall hS rfl rfl rfl ?_));refine ⟨_,zd,?_⟩;clear hS;(try clear w');intro a' hp;(try simp only [fr] at hp);subst hp;intro w' hS;(try simp only [sE] at hS)) | (go_at_call 125;refine (has_ok G.has m (by omega) (by omega) _).mono ?_;rw [hb];rintro _ w' ⟨rfl,rfl⟩))
     go_roundw
     case rel=>exact ⟨m+1,by omega,by rw [HR.out];rfl,by go_num,by rw [HR.out];exact hS⟩
     case measure=>simp only [intOf];omega
    | some r =>
     rw [hfo] at HR hS
     have hwid:=fun w=>wider_ok r (G.get m) w
     unfold spanV at hwid
     simp only at HR
     generalize widerS r (G.get m)=u at hwid HR
     replace HR:=mkHid HR;replace hfo:=mkHid hfo
     go_wp2_with (first | (((with_reducible refine gL ?_);refine ql1 hS rfl rfl rfl ?_);refine ⟨_,zd,?_⟩;clear hS;(try clear w');intro a' hp;(try simp only [fr] at hp);subst hp;intro w' hS;(try simp only [sE] at hS)) | (go_at_call 125;refine (has_ok G.has m (by omega) (by omega) _).mono ?_;rw [hb];rintro _ w' ⟨rfl,rfl⟩))
     (refine wp_region_quiet_tail 8 (by kernel_rfl) (by kernel_rfl) (St.drew1 hS) ?_;simp only [List.take_succ_cons,List.take_zero,List.drop_succ_cons,List.drop_zero];clear hS;(repeat ((go_big_quiet_want;(first | ((with_reducible refine gqM ?_);refine quiet_mv rfl rfl ?_;intro a' hp;(try simp only [fr] at hp);subst hp) | ((with_reducible refine gqL ?_);(refine quiet_ln rfl rfl ?_);refine ⟨_,zd,?_⟩;intro a' hp;(try simp only [fr] at hp);subst hp) | ((with_reducible refine gqV ?_);refine quiet_con ?_;refine ⟨_,_,by (intro _;go_simp;exact ⟨rfl,rfl⟩),?_⟩;refine ⟨_,by (intro w' hS;(exact hwid _)),?_⟩;intro a' hp;(try simp only [fr] at hp);subst hp) | (refine quiet_pure ?_;refine ⟨_,zp,?_⟩;intro a' hp;(try simp only [fr] at hp);subst hp));go_big_quiet_on)));refine wpQuiet_nil ?_;(try clear w');intro w' hS)
     go_wp2_with (((with_reducible refine gS ?_);refine qsall hS rfl rfl rfl ?_);refine ⟨_,zd,?_⟩;clear hS;(try clear w');intro a' hp;(try simp only [fr] at hp);subst hp;intro w' hS;(try simp only [sE] at hS))
     go_roundw
     case rel=>exact ⟨m+1,by omega,by rw [HR.out];rfl,by go_num,by rw [HR.out];exact hS⟩
     case measure=>simp only [intOf];omega
  ·obtain rfl:m=41:=by omega
   go_wp2_with (fail)
   have hc4:=h4.cell hS.view
   have hr5:=range_at (o:=0) (n:=2) (vs:=[.int .i64 ((foundTo G 41).getD (0,0)).1,.int .i64 ((foundTo G 41).getD (0,0)).2]) (hS.has1 (b:=b5)) rfl
   refine reach_region ?_
   show ReachI Tryd.prog sendOps [2] _ [0,1,2] _ _
   refine reachI_op rfl rfl (run_load1 rfl rfl OneT.ok hc4) ?_
   refine reachI_op rfl rfl (run_loadn (n:=2) rfl rfl RowT.ok rfl hr5) ?_
   exact reachI_here ⟨rfl,rfl,rfl,hS.toKp⟩
end Go.Proofs.YtjjmefieegcddaaDoor
namespace Go.Tm
open Go
open Go.Conc (G solo stepT_solo)
def floor (P:Program):Frame:={ fn:=P.funcs.size,tmps:=#[],todo:=[.call default false "fmt's door" #[]],defers:=[],mode:=.run,kind:=.normal }
section
variable {P:Program} {S:FuncId→Prop} {f0:FuncId}
def Gone (P:Program) (m:Machine):Prop:=∀ fr mine w,¬ Steps P m (lone fr (mine ++ [floor P]) w)
theorem next_door:Extern.next "fmt's door" = none:=by kernel_rfl
theorem steps_size' {m m':Machine} (h:Steps P m m'):m.gs.size≤m'.gs.size:=steps_size (stepsIn_wide.2 h)
theorem dying_gone {g:Goroutine} {w:World} (h:g.dyingOn P):Gone P (oneG g w):=by
 intro fr mine w1 hs
 have hs:=stepsIn_wide.2 hs
 have key:∀ m m',StepsIn (Machine.fenced P Fence.wide) P m m'→∀ g w,m=oneG g w→g.dyingOn P→∃ g' w',m'=oneG g' w'∧g'.dyingOn P:=by
  intro m m' h
  induction h with
  | refl=>exact fun g w e h=>⟨g,w,e,h⟩
  | head _ hst _ ih =>
   intro g w e h
   subst e
   rcases step_dyingOn (w:=w) h with ⟨g',w',h1,h2⟩ | ⟨o,w',h1,_⟩
   ·rw [h1] at hst
    cases hst
    exact ih g' w' rfl h2
   ·rw [h1] at hst
    cases hst
 obtain ⟨g',w',e,h2⟩:=key _ _ hs g w rfl h
 obtain ⟨_,d,hd,_⟩:=h2
 simp only [lone,oneG,Machine.mk.injEq,Array.mk.injEq,List.cons.injEq,and_true] at e
 rw [← e.2] at hd
 cases hd
theorem stuck_gone {m:Machine} (h:∀ m',step P m≠.next m') (hne:∀ fr mine w,m≠lone fr (mine ++ [floor P]) w):Gone P m:=by
 intro fr mine w hs
 have hs:=stepsIn_wide.2 hs
 cases hs with
 | refl=>exact hne _ _ _ rfl
 | head _ hst _=>exact h _ hst
theorem gone_of_bad {fr:Frame} {cs:List Frame} {w:World} (h:GBad (stepG P true (G fr cs) w)) {m1:Machine} (hs:step P (lone fr cs w)=.next m1):Gone P m1:=by
 cases hg:stepG P true (G fr cs) w with
 | ended o w' es=>rw [step_ended hg] at hs;cases hs
 | go g w' es =>
  rw [hg] at h
  rw [step_go hg] at hs
  cases hs
  obtain ⟨h0,d,hd,hc,ht⟩:=h
  exact dying_gone (g:=g) (w:=w') ⟨.inl h0,d,hd,hc,by rw [ht];exact NoEnter.nil P⟩
 | spawn g ch w' es =>
  have hs':(stepT P (solo (G fr cs) w)).1=.next m1:=hs
  rw [stepT_solo rfl] at hs'
  have e0:solo (G fr cs) w=Go.Conc.crowd #[G fr cs] w none:=rfl
  rw [e0,Go.Conc.runT_crowd_spawn (i:=0) (g:=G fr cs) rfl (show stepG P (0 == 0) (G fr cs) w=_ from hg)] at hs'
  cases hs'
  intro fr' mine' w2 hst
  have:=steps_size' hst
  simp [Go.Conc.crowd,lone] at this
 | comm g cases b sh w' es =>
  rw [hg] at h
  obtain ⟨⟨rfl,c,rfl⟩,hw⟩:=h
  obtain ⟨a,ha,rfl⟩:=send_blocks hg hw hs
  refine stuck_gone (blocked_ends ha) fun fr' cs' w2 e=>?_
  have e2:a=G fr' (cs' ++ [floor P]):=by
   simp only [solo,lone,Machine.mk.injEq,Array.mk.injEq,List.cons.injEq,and_true] at e
   exact e.2
  rw [e2] at ha
  cases ha
 | _=>rw [hg] at h;exact h.elim
theorem nil_ne {mine:List Frame} {c:Frame}:([]:List Frame)≠mine ++ [c]:=by cases mine <;> simp
theorem floor_gone (fr:Frame) (w:World) (h:(∃ v,fr=(floor P).finish v)∨∃ ch,fr=(floor P).raise ch):Gone P (lone fr [] w):=by
 refine stuck_gone (fun m' hs=>?_) fun fr' mine w' e=>?_
 ·rcases h with ⟨v,rfl⟩ | ⟨ch,rfl⟩
  ·have hst:∃ o w' es,stepG P true (G ((floor P).finish v) []) w=.ended o w' es:=by
    refine ⟨.stuck "no extern row fmt's door" (((floor P).finish v).pos P),w,#[],?_⟩
    simp only [stepG,G,floor,Frame.finish,stepG.exec,next_door,Option.elim_none]
    rfl
   obtain ⟨o,w1,es,hst⟩:=hst
   rw [step_ended hst] at hs
   cases hs
  ·have hcat:((floor P).raise ch).catches P=true:=by
    unfold Frame.catches floor Frame.raise
    have:P.funcs[P.funcs.size]? = none:=by simp
    simp only [this]
    have hst:("fmt's door".startsWith "fmt's door")=true:=by kernel_rfl
    exact hst
   have hst:∃ o w' es,stepG P true (G ((floor P).raise ch) []) w=.ended o w' es:=by
    refine ⟨.unsupported (.noEntry "a panic or Goexit out of a method that fmt calls behind a cut's door") (((floor P).raise ch).pos P),w,#[],?_⟩
    have hm:((floor P).raise ch).mode=.panicking ch:=rfl
    have hd:((floor P).raise ch).defers=[]:=rfl
    have h2:stepG P true (G ((floor P).raise ch) []) w=unwind P true ((floor P).raise ch) [] none w:=by simp only [stepG,G,hm]
    rw [h2]
    unfold unwind
    simp only [hd,hm,hcat,if_true]
   obtain ⟨o,w1,es,hst⟩:=hst
   rw [step_ended hst] at hs
   cases hs
 ·simp only [lone,Machine.mk.injEq,Array.mk.injEq,List.cons.injEq,Goroutine.mk.injEq,and_true] at e
  exact nil_ne e.2.2
theorem base_gone {fr:Frame} {w:World} (hst:Stk f0 fr []) (hm:fr.mode≠.run) (hd:fr.defers=[]) {m1:Machine} (hs:step P (lone fr [floor P] w)=.next m1):Gone P m1:=by
 obtain ⟨hk,hro,hkind,hfn⟩:=hst
 have hcat:fr.catches P=false:=by
  unfold Frame.catches
  split
  ·rename_i d wr resume sv k h1 h2
   exact (mem_todo hk h2).1.elim
  ·rfl
 have h2:stepG P true (G fr [floor P]) w=unwind P true fr [floor P] none w:=by
  cases hmm:fr.mode with
  | run=>exact (hm hmm).elim
  | _=>simp only [stepG,G,hmm]
 cases hmm:fr.mode with
 | run=>exact (hm hmm).elim
 | panicking chain =>
  have h3:stepG P true (G fr [floor P]) w=.go (G ((floor P).raise chain) []) w #[]:=by
   rw [h2]
   unfold unwind
   simp only [hd,hmm,hcat,Bool.false_eq_true,if_false,G]
  rw [step_go h3] at hs
  cases hs
  exact floor_gone _ _ (.inr ⟨chain,rfl⟩)
 | returning =>
  cases hf:P.funcs[fr.fn]? with
  | none =>
   have h3:stepG P true (G fr [floor P]) w=.go (G ((floor P).finish (fr.tmps.getD 0 undef)) []) w #[]:=by
    rw [h2]
    unfold unwind
    simp only [hd,hmm,hf,doReturn,hkind,G]
   rw [step_go h3] at hs
   cases hs
   exact floor_gone _ _ (.inl ⟨_,rfl⟩)
  | some fn =>
   cases hr:(results fn fr.tmps).run P w with
   | ok v w1 =>
    have h3:stepG P true (G fr [floor P]) w=.go (G ((floor P).finish v) []) w1 (seen P fr.fn ((results fn fr.tmps).events P w #[])):=by
     rw [h2]
     unfold unwind
     simp only [hd,hmm,hf,Sem.runT_eq,hr,doReturn,hkind,GStep.after,Array.append_empty,G]
    rw [step_go h3] at hs
    cases hs
    exact floor_gone _ _ (.inl ⟨_,rfl⟩)
   | halt hh w1 =>
    have h3:∃ o w' es,stepG P true (G fr [floor P]) w=.ended o w' es:=by
     rw [h2]
     unfold unwind
     simp only [hd,hmm,hf,Sem.runT_eq,hr]
     cases hh <;> exact ⟨_,_,_,rfl⟩
    obtain ⟨o,w',es,h3⟩:=h3
    rw [step_ended h3] at hs
    cases hs
structure CfgV (P:Program) (f0:FuncId) (Stop:Frame→List Frame→World→Prop) (T:Nat→Question→Nat) where
 fr:Frame
 mine:List Frame
 w:World
 stk:Stk f0 fr mine
 heap:HeapOk OC w
 not:¬ Term P Stop fr mine w
 tape:w.tape=T
def NxV (P:Program) (f0:FuncId) {Stop:Frame→List Frame→World→Prop} {T:Nat→Question→Nat} (c:CfgV P f0 Stop T) (d j:Nat):Option (CfgV P f0 Stop T)→Prop
 | some c'=>∀ τ p,(∀ i,i < j→∀ q,τ (p+i) q=T (d+i) q)→step P (lone c.fr (c.mine ++ [floor P]) (c.w.re τ p))=.next (lone c'.fr (c'.mine ++ [floor P]) (c'.w.re τ (p+j)))
 | none=>∀ τ p,(∀ i,i < j→∀ q,τ (p+i) q=T (d+i) q)→∀ m1,step P (lone c.fr (c.mine ++ [floor P]) (c.w.re τ p))=.next m1→Gone P m1
theorem nextV (hS:Sok P fun _=>True) {Stop:Frame→List Frame→World→Prop} {T:Nat→Question→Nat} (c:CfgV P f0 Stop T):∃ d j o,NxV P f0 c d j o:=by
 obtain ⟨fr,mine,w,hst,hw,hn,htp⟩:=c
 have h1:∃ d,∀ fr' mine' w' es,(∀ e∈es,ND e)→w.heap.size≤w'.heap.size→(∀ main cs,stepG P main (G fr (mine ++ cs)) (w.at d)=.go (G fr' (mine' ++ cs)) w' es)→¬ Term P Stop fr' mine' w':=by
  apply Classical.byContradiction
  intro hc
  refine hn (.step' fun d=>?_)
  apply Classical.byContradiction
  intro hd
  exact hc ⟨d,fun fr' mine' w' es a b c' t=>hd ⟨fr',mine',w',es,a,b,c',t⟩⟩
 obtain ⟨d,hd⟩:=h1
 refine ⟨d,?_⟩
 have hag:∀ {j τ p},(∀ i,i < j→∀ q,τ (p+i) q=T (d+i) q)→Agree (w.at d) j τ p:=fun h i hi q=>by
  rw [h i hi q,← htp]
  rfl
 by_cases hb:mine=[]∧fr.mode≠.run∧fr.defers=[]
 ·obtain ⟨rfl,hm,hds⟩:=hb
  exact ⟨0,none,fun τ p _ m1 hs=>base_gone hst hm hds hs⟩
 obtain ⟨j,hm⟩:=moves (S:=fun _=>True) hS hst (w:=w.at d) hw (fun h=>by
   by_cases hm:fr.mode=.run
   ·exact .inl hm
   ·exact .inr fun hds=>hb ⟨h,hm,hds⟩) (fun _ _=>trivial)
 rcases hm with ⟨fr',mine',w',es,h1,h2,h3,h4,h5,h6,h7⟩ | hbad
 ·have hstep:∀ main cs,stepG P main (G fr (mine ++ cs)) (w.at d)=.go (G fr' (mine' ++ cs)) w' es:=by
   intro main cs
   have:=h7 main cs (w.at d).tape (w.at d).drawn (fun i hi q=>rfl)
   rw [re_self] at this
   exact this.trans (by rw [← h5,← h6,re_self])
  refine ⟨j,some ⟨fr',mine',w',h1,h2,hd fr' mine' w' es h3 h4 hstep,h6.trans htp⟩,fun τ p ha=>?_⟩
  exact step_go (h7 true [floor P] τ p (hag ha))
 ·refine ⟨j,none,fun τ p ha m1 hs=>?_⟩
  exact gone_of_bad (hbad [floor P] τ p (hag ha)) hs
theorem term_of_plain (hS:Sok P fun _=>True) {Stop:Frame→List Frame→World→Prop} (hstop:∀ fr mine w τ d,HeapOk OC w→Stop fr mine w→Stop fr mine (w.re τ d))
  {fr:Frame} {mine:List Frame} {w:World} (hst:Stk f0 fr mine) (hw:HeapOk OC w)
  (hrun:∀ τ d,∃ fr' mine' w',Stop fr' mine' w'∧Steps P (lone fr (mine ++ [floor P]) (w.re τ d)) (lone fr' (mine' ++ [floor P]) w')):Term P (SH f0 Stop) fr mine w:=by
 apply Classical.byContradiction
 intro hn
 let T:=w.tape
 let c0:CfgV P f0 (SH f0 Stop) T:=⟨fr,mine,w,hst,hw,hn,rfl⟩
 let D:CfgV P f0 (SH f0 Stop) T→Nat:=fun c=>Classical.choose (nextV hS c)
 let J:CfgV P f0 (SH f0 Stop) T→Nat:=fun c=>Classical.choose (Classical.choose_spec (nextV hS c))
 let O:CfgV P f0 (SH f0 Stop) T→Option (CfgV P f0 (SH f0 Stop) T):=fun c=>Classical.choose (Classical.choose_spec (Classical.choose_spec (nextV hS c)))
 have hO:∀ c,NxV P f0 c (D c) (J c) (O c):=fun c=>Classical.choose_spec (Classical.choose_spec (Classical.choose_spec (nextV hS c)))
 let seq:Nat→CfgV P f0 (SH f0 Stop) T:=fun n=>Nat.rec c0 (fun _ c=>(O c).getD c) n
 let pos:Nat→Nat:=fun n=>Nat.rec 0 (fun n p=>p+J (seq n)) n
 have hseq:∀ n,seq (n+1)=(O (seq n)).getD (seq n):=fun n=>rfl
 have hpos:∀ n,pos (n+1)=pos n+J (seq n):=fun n=>rfl
 have hmono:∀ n k,pos n≤pos (n+k):=by
  intro n k
  induction k with
  | zero=>exact Nat.le_refl _
  | succ k ih=>rw [← Nat.add_assoc,hpos];omega
 have huniq:∀ n m k,pos n≤k→k < pos n+J (seq n)→pos m≤k→k < pos m+J (seq m)→n=m:=by
  intro n m k h1 h2 h3 h4
  rcases Nat.lt_trichotomy n m with h | h | h
  ·have:=hmono (n+1) (m - (n+1))
   rw [show n+1+(m - (n+1))=m from by omega,hpos] at this
   omega
  ·exact h
  ·have:=hmono (m+1) (n - (m+1))
   rw [show m+1+(n - (m+1))=n from by omega,hpos] at this
   omega
 let τ:Nat→Question→Nat:=fun k q =>
  open Classical in if h:∃ n,pos n≤k∧k < pos n+J (seq n) then T (D (seq (Classical.choose h))+(k - pos (Classical.choose h))) q else 0
 have hτ:∀ n i,i < J (seq n)→∀ q,τ (pos n+i) q=T (D (seq n)+i) q:=by
  intro n i hi q
  have hex:∃ m,pos m≤pos n+i∧pos n+i < pos m+J (seq m):=⟨n,by omega,by omega⟩
  have hch:=Classical.choose_spec hex
  have he:Classical.choose hex=n:=huniq _ _ _ hch.1 hch.2 (by omega) (by omega)
  show (open Classical in if h:∃ m,pos m≤pos n+i∧pos n+i < pos m+J (seq m) then _ else _)=_
  rw [dif_pos hex,he,show pos n+i - pos n=i from by omega]
 obtain ⟨fr',mine',w',hS',hsteps⟩:=hrun τ 0
 have hsteps:=stepsIn_wide.2 hsteps
 have key:∀ m,StepsIn (Machine.fenced P Fence.wide) P m (lone fr' (mine' ++ [floor P]) w')→∀ n,m=lone (seq n).fr ((seq n).mine ++ [floor P]) ((seq n).w.re τ (pos n))→False:=by
  intro m hm
  generalize hend:lone fr' (mine' ++ [floor P]) w'=mend at hm
  induction hm with
  | refl =>
   intro n hn
   subst hend
   simp only [lone,Machine.mk.injEq,Array.mk.injEq,List.cons.injEq,Goroutine.mk.injEq,and_true] at hn
   obtain ⟨hw,hf,hc⟩:=hn
   have hc':=List.append_cancel_right hc
   subst hw hf hc'
   have:=hstop _ _ _ (seq n).w.tape (seq n).w.drawn (show HeapOk OC ((seq n).w.re τ (pos n)) from (seq n).heap) hS'
   rw [re_re,re_self] at this
   exact (seq n).not (.stop ⟨this,(seq n).heap,(seq n).stk⟩)
  | head hI hst' hrest ih =>
   intro n hn
   subst hn
   have hx:=hO (seq n)
   cases ho:O (seq n) with
   | none =>
    rw [ho] at hx
    refine hx τ (pos n) (hτ n) _ hst' fr' mine' w' ?_
    rw [hend];exact stepsIn_wide.1 hrest
   | some c' =>
    rw [ho] at hx
    have h1:=hx τ (pos n) (hτ n)
    rw [h1] at hst'
    cases hst'
    refine ih hend (n+1) ?_
    rw [hseq,ho,hpos]
    rfl
 exact key _ hsteps 0 rfl
end
end Go.Tm
namespace Go.Sr
open Go
open Go.Tm
open Go.Conc (G solo)
section
variable {P:Program} {K:CallKind} {D:Nat→Prop} {R:BR} {csl:List Frame}
theorem sim_ret [Fns] {R1:BR} {wl wa wl1 wa1:World} {fr fr' c c':Frame} {rest rest':List Frame} {v v':Value} (h:StkR P K R1 c rest c' rest') (hv:VR R1 v v') (hk:fr.kind=.normal) (hk':fr'.kind=.normal)
  (hw:WR P.globals.size R1 D wl1 wa1) (hg:Grow R R1 D wl wa) (hgu:Guar R D wa wa1) (hs:wl.heap.size≤wl1.heap.size) {fl:GStep} {fa:Bool→List Frame→GStep} {es es':Array Event}
  (hev:∀ e∈es',EvR R1 D e)
  (hl:fl=GStep.after es (doReturn P true fr (c :: (rest ++ csl)) none v wl1)) (ha:∀ main cs,fa main cs=GStep.after es' (doReturn P main fr' (c' :: (rest' ++ cs)) none v' wa1)):Sim P K csl D R wl wa fl fa:=by
 have hf:=frR_finish h.top hv
 refine .inl ⟨c.finish v,rest,wl1,es,c'.finish v',rest',wa1,es',R1,?_,fun main cs=>?_,h.set hf.1 hf.2,hw,hg,hgu,hev,hs⟩
 ·rw [hl]
  simp only [doReturn,hk,GStep.after,Array.append_empty,G]
 ·rw [ha]
  simp only [doReturn,hk',GStep.after,Array.append_empty,G]
theorem sim_unwind [Fns] {wl wa:World} {fr fr' c c':Frame} {rest rest':List Frame} (h:StkR P K R fr (c :: rest) fr' (c' :: rest')) (hw:WR P.globals.size R D wl wa) (hm:fr.mode=.returning) :
  Sim P K csl D R wl wa (stepG P true (G fr ((c :: rest) ++ csl)) wl) (fun main cs=>stepG P main (G fr' ((c' :: rest') ++ cs)) wa):=by
 obtain ⟨ht,⟨hk,hk'⟩,hr⟩:=h
 have hm':fr'.mode=.returning:=ht.mode.trans hm
 have e1:stepG P true (G fr ((c :: rest) ++ csl)) wl=unwind P true fr (c :: (rest ++ csl)) none wl:=by simp only [stepG,G,hm,List.cons_append]
 have e2:∀ main cs,stepG P main (G fr' ((c' :: rest') ++ cs)) wa=unwind P main fr' (c' :: (rest' ++ cs)) none wa:=fun main cs=>by simp only [stepG,G,hm',List.cons_append]
 rw [e1]
 simp only [e2]
 cases hf:P.funcs[fr.fn]? with
 | none =>
  have hf':P.funcs[fr'.fn]? = none:=by rw [ht.fn];exact hf
  refine sim_ret (es:=#[]) (es':=#[]) hr (ht.tmps.get (d:=undef) (.of_flat rfl) 0) hk hk' hw ⟨le_refl R,fun _ _ h=>.inl h⟩ (.refl R D wa) (Nat.le_refl _) (by simp) ?_ fun main cs=>?_
  ·unfold unwind
   simp only [ht.defers,hm,hf]
   simp only [doReturn,hk,GStep.after,Array.append_empty]
  ·unfold unwind
   simp only [ht.defers',hm',hf']
   simp only [doReturn,hk',GStep.after,Array.append_empty]
 | some fn =>
  have hf':P.funcs[fr'.fn]? = some fn:=by rw [ht.fn];exact hf
  have hres:=RunR.results (P:=P) (D:=D) (R:=R) (ht.res fn hf) ht.tmps
  cases hrun:(results fn fr.tmps).run P wl with
  | ok v w1 =>
   obtain ⟨v',wa1,es',R1,k1,k2,k3,k4,k5,k6,k7⟩:=hres wl wa #[] hw v w1 hrun
   have hev:∀ e∈seen P fr'.fn es',EvR R1 D e:=fun e he=>(k2 e (mem_seen he)).elim (fun h=>by simp at h) id
   refine sim_ret (es:=seen P fr.fn ((results fn fr.tmps).events P wl #[])) (es':=seen P fr'.fn es') (hr.mono k4.le) k7 hk hk' k3 k4 k5 k6 hev ?_ fun main cs=>?_
   ·unfold unwind
    simp only [ht.defers,hm,hf,Sem.runT_eq,hrun]
   ·unfold unwind
    simp only [ht.defers',hm',hf',k1]
  | halt hh w1 =>
   refine .inr (.inl ?_)
   unfold unwind
   simp only [ht.defers,hm,hf,Sem.runT_eq,hrun]
   cases hh <;> exact bad_after trivial
theorem sim [Fns] (hS:SokC P) (hT:Sok P fun _=>True) {wl wa:World} {fr fr':Frame} {mine mine':List Frame} (h:StkR P K R fr mine fr' mine') (hw:WR P.globals.size R D wl wa) (hh:HeapOk OC wl)
  (hb:mine=[]→fr.mode=.run):Sim P K csl D R wl wa (stepG P true (G fr (mine ++ csl)) wl) (fun main cs=>stepG P main (G fr' (mine' ++ cs)) wa):=by
 rcases h.top.runs with hm | hm
 ·exact sim_exec hS hT h hw hh hm
 ·cases mine with
  | nil=>rw [hb rfl] at hm;cases hm
  | cons c rest =>
   cases mine' with
   | nil=>exact h.elim
   | cons c' rest'=>exact sim_unwind h hw hm
theorem raise_panicking (fr:Frame) (l:List PanicEntry):(∃ ch,(fr.raise l).mode=.panicking ch)∧(fr.raise l).defers=fr.defers∧(fr.raise l).todo=fr.todo:=by
 unfold Frame.raise
 split
 ·exact ⟨⟨_,rfl⟩,rfl,rfl⟩
 ·exact ⟨⟨_,rfl⟩,rfl,rfl⟩
def GoneM (P:Program) (m:Machine):Prop:=∀ fr mine w,(fr.mode=.run∨fr.mode=.returning)→¬ Steps P m (lone fr (mine ++ [floor P]) w)
theorem GoneM.of {m:Machine} (h:Gone P m):GoneM P m:=fun fr mine w _=>h fr mine w
theorem panicking_gone [Fns]:∀ (cs:List Frame) (fr:Frame) (w:World),(∃ ch,fr.mode=.panicking ch)→(∀ c∈fr :: cs,c.defers=[]∧∀ x∈c.todo,ItemW P x)→GoneM P (lone fr (cs ++ [floor P]) w):=by
 intro cs
 have hcat:∀ {fr:Frame},(∀ x∈fr.todo,ItemW P x)→fr.catches P=false:=by
  intro fr hi
  unfold Frame.catches
  split
  ·rename_i d wr resume sv k h1 h2
   have:ItemW P (.call d wr resume sv):=hi (.call d wr resume sv) (by rw [h2];exact List.mem_cons_self)
   exact this.elim
  ·rfl
 induction cs with
 | nil =>
  rintro fr w ⟨ch,hm⟩ hall fr' mine' w' hm' hs
  obtain ⟨hd,hi⟩:=hall fr (by simp)
  have hs:=stepsIn_wide.2 hs
  generalize hend:lone fr' (mine' ++ [floor P]) w'=mend at hs
  generalize hst:lone fr ([] ++ [floor P]) w=mst at hs
  cases hs with
  | refl =>
   subst hst
   simp only [lone,Machine.mk.injEq,Array.mk.injEq,List.cons.injEq,Goroutine.mk.injEq,and_true] at hend
   obtain ⟨_,hf,_⟩:=hend
   subst hf
   rcases hm' with h | h <;> rw [h] at hm <;> cases hm
  | head hI h h' =>
   subst hst
   subst hend
   have h2:stepG P true (G fr [floor P]) w=.go (G ((floor P).raise ch) []) w #[]:=by
    simp only [stepG,G,hm]
    unfold unwind
    simp only [hd,hm,hcat hi,Bool.false_eq_true,if_false]
   rw [show ([]:List Frame) ++ [floor P]=[floor P] from rfl,step_go h2] at h
   cases h
   exact floor_gone _ _ (.inr ⟨ch,rfl⟩) fr' mine' w' (stepsIn_wide.1 h')
 | cons c cs ih =>
  rintro fr w ⟨ch,hm⟩ hall fr' mine' w' hm' hs
  obtain ⟨hd,hi⟩:=hall fr (by simp)
  have hs:=stepsIn_wide.2 hs
  generalize hend:lone fr' (mine' ++ [floor P]) w'=mend at hs
  generalize hst:lone fr (c :: cs ++ [floor P]) w=mst at hs
  cases hs with
  | refl =>
   subst hst
   simp only [lone,Machine.mk.injEq,Array.mk.injEq,List.cons.injEq,Goroutine.mk.injEq,and_true] at hend
   obtain ⟨_,hf,_⟩:=hend
   subst hf
   rcases hm' with h | h <;> rw [h] at hm <;> cases hm
  | head hI h h' =>
   subst hst
   subst hend
   have h2:stepG P true (G fr (c :: cs ++ [floor P])) w=.go (G (c.raise ch) (cs ++ [floor P])) w #[]:=by
    simp only [stepG,G,hm]
    unfold unwind
    simp only [hd,hm,hcat hi,Bool.false_eq_true,if_false,List.cons_append]
   rw [step_go h2] at h
   cases h
   obtain ⟨hp,hpd,hpt⟩:=raise_panicking c ch
   refine ih (c.raise ch) w hp (fun x hx=>?_) fr' mine' w' hm' (stepsIn_wide.1 h')
   rcases List.mem_cons.1 hx with rfl | hx
   ·rw [hpd,hpt];exact hall c (by simp)
   ·exact hall x (by simp [hx])
end
end Go.Sr
