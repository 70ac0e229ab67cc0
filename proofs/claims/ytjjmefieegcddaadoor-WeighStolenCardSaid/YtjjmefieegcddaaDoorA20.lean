/- A part of the proof: S18, S19, S20, W20, W21, W22, W23, Q6, W24. -/
import Derived.Test.YtjjmefieegcddaaDoorA14
import Derived.Test.YtjjmefieegcddaaDoorA19
import Derived.Defers
import Derived.Recover
import Derived.Test.YtjjmefieegcddaaDoorA16
set_option linter.unusedVariables false
set_option linter.unusedSimpArgs false
namespace Go.Wg
open Go Go.Mm
def brF (k:Wk):Nat→Nat→List Nat
 | 0,_=>[]
 | f+1,i=>i :: (k.fills i).flatMap (brF k f)
def knotB (k:Wk) (l:List Nat) (i:Nat):Bool:=(l.getD i 0 == 0) && (k.fills i).all fun x=>l.getD x 0 != 0
def knC (k:Wk) (l:List Nat) (pre:List Nat):List Value:=(List.range k.n).map fun i=>.bool (pre.contains i && knotB k l i)
def knotsTo (k:Wk) (l:List Nat) (m:Nat):List Int:=((List.range m).filter (knotB k l)).map fun i:Nat=>(i:Int)
def knotsE (k:Wk):List Int × Int:=if beginE k []=0 then (knotsTo k (up k (nowS k noneB)) k.n,0) else ([],beginE k [])
theorem knotsTo_succ (k:Wk) (l:List Nat) (m:Nat):knotsTo k l (m+1)=if knotB k l m then knotsTo k l m ++ [(m:Int)] else knotsTo k l m:=by
 unfold knotsTo
 rw [List.range_succ,List.filter_append,List.map_append]
 by_cases h:knotB k l m=true
 ·simp [h]
 ·simp [h]
theorem knotsTo_len (k:Wk) (l:List Nat) (m:Nat):(knotsTo k l m).length≤m:=by
 unfold knotsTo
 rw [List.length_map]
 have:=List.length_filter_le (knotB k l) (List.range m)
 rwa [List.length_range] at this
theorem knC_len (k:Wk) (l:List Nat) (pre:List Nat):(knC k l pre).length=k.n:=by simp [knC]
theorem knC_at (k:Wk) (l:List Nat) (pre:List Nat) {i:Nat} (hi:i < k.n):(knC k l pre)[i]? = some (.bool (pre.contains i && knotB k l i)):=by
 simp [knC,hi]
theorem knC_nil (k:Wk) (l:List Nat):knC k l []=List.replicate k.n (.bool false):=by
 refine List.ext_getElem? fun i=>?_
 by_cases hi:i < k.n
 ·rw [knC_at k l [] hi];simp [hi]
 ·rw [List.getElem?_eq_none (by rw [knC_len];omega),List.getElem?_eq_none (by simp;omega)]
theorem knC_hit (k:Wk) (l:List Nat) (pre:List Nat) {i:Nat} (hi:i < k.n) (h:knotB k l i=true):(knC k l pre).set i (.bool true)=knC k l (pre ++ [i]):=by
 refine List.ext_getElem? fun j=>?_
 by_cases hj:j < k.n
 ·rw [knC_at k l _ hj,List.getElem?_set]
  by_cases e:i=j
  ·subst e
   simp [knC_len,hi,h]
  ·rw [if_neg e,knC_at k l _ hj]
   have:(pre ++ [i]).contains j=pre.contains j:=by
    simp [List.contains_iff_mem,Ne.symm e,Bool.eq_iff_iff]
   rw [this]
 ·rw [List.getElem?_eq_none (by simp [knC_len];omega),List.getElem?_eq_none (by rw [knC_len];omega)]
theorem knC_miss (k:Wk) (l:List Nat) (pre:List Nat) {i:Nat} (h:knotB k l i=false):knC k l pre=knC k l (pre ++ [i]):=by
 unfold knC
 refine List.map_congr_left fun j _=>?_
 by_cases e:j=i
 ·subst e;simp [h]
 ·have:(pre ++ [i]).contains j=pre.contains j:=by
   simp [List.contains_iff_mem,e,Bool.eq_iff_iff]
  rw [this]
theorem brF_down {k:Wk} (hok:k.Ok) {j i:Nat} (hi:i∈k.fills j):∀ (f s:Nat),s < k.n→k.n - s≤f→j∈brF k f s→i∈brF k f s
 | 0,_,_,_,hj=>nomatch hj
 | f+1,s,hs,hf,hj=>by
  rw [brF] at hj ⊢
  have hgt:=Go.Proofs.YtjjmefieegcddaaDoor.fills_gt hok hi
  refine List.mem_cons_of_mem _ ?_
  rcases List.mem_cons.1 hj with rfl | hj
  ·refine List.mem_flatMap.2 ⟨i,hi,?_⟩
   obtain ⟨g,rfl⟩:∃ g,f=g+1:=⟨f - 1,by omega⟩
   rw [brF]
   exact List.mem_cons_self ..
  ·obtain ⟨y,hy,hjy⟩:=List.mem_flatMap.1 hj
   have hyy:=Go.Proofs.YtjjmefieegcddaaDoor.fills_gt hok hy
   exact List.mem_flatMap.2 ⟨y,hy,brF_down hok hi f y hyy.2 (by omega) hjy⟩
theorem brF_all {k:Wk} (hok:k.Ok):∀ (i:Nat),i < k.n→∃ s∈k.sources,i∈brF k (k.n - s) s:=by
 intro i
 induction i using Nat.strongRecOn with
 | ind i ih =>
  intro hi
  have hv:=hok.ves i hi
  by_cases h:(k.v i).from_ < 0
  ·refine ⟨i,List.mem_filter.2 ⟨List.mem_range.2 hi,by simpa using h⟩,?_⟩
   obtain ⟨g,hg⟩:∃ g,k.n - i=g+1:=⟨k.n - i - 1,by omega⟩
   rw [hg,brF]
   exact List.mem_cons_self ..
  ·obtain ⟨j,hj⟩:∃ j:Nat,(k.v i).from_=(j:Int):=⟨(k.v i).from_.toNat,by omega⟩
   have h2:=hv.2.1
   have hji:j < i:=by omega
   obtain ⟨s,hs,hjs⟩:=ih j hji (by omega)
   have hsn:s < k.n:=List.mem_range.1 (List.mem_filter.1 hs).1
   exact ⟨s,hs,brF_down hok (List.mem_filter.2 ⟨List.mem_range.2 hi,by simpa using hj⟩) _ s hsn (Nat.le_refl _) hjs⟩
def brTo (k:Wk) (m:Nat):List Nat:=(k.sources.take m).flatMap fun s=>brF k (k.n - s) s
theorem brTo_succ (k:Wk) {m:Nat} (hm:m < k.sources.length):brTo k (m+1)=brTo k m ++ brF k (k.n - k.sources.getD m 0) (k.sources.getD m 0):=by
 unfold brTo
 rw [List.take_add_one,List.getElem?_eq_getElem hm,List.flatMap_append]
 simp [List.getD_eq_getElem?_getD,List.getElem?_eq_getElem hm]
theorem knC_all {k:Wk} (hok:k.Ok) (l:List Nat):knC k l (brTo k k.sources.length)=(List.range k.n).map fun i=>.bool (knotB k l i):=by
 unfold knC
 refine List.map_congr_left fun i hi=>?_
 have hm:i∈brTo k k.sources.length:=by
  obtain ⟨s,hs,h⟩:=brF_all hok i (List.mem_range.1 hi)
  unfold brTo
  rw [List.take_length]
  exact List.mem_flatMap.2 ⟨s,hs,h⟩
 have:(brTo k k.sources.length).contains i=true:=by simpa [List.contains_iff_mem] using hm
 rw [this,Bool.true_and]
end Go.Wg
namespace Go.Wg
open Go Go.Mm
def thievesTo (k:Wk):Nat→List Int
 | 0=>[]
 | i+1=>match beyondS k i with
  | some n=>if 0 < n then thievesTo k i ++ [(i:Int)] else thievesTo k i
  | none=>thievesTo k i
def thievesE (k:Wk):List Int × Int:=if beginE k []=0 then (thievesTo k k.n,0) else ([],beginE k [])
theorem thievesTo_len (k:Wk) (i:Nat):(thievesTo k i).length≤i:=by
 induction i with
 | zero=>simp [thievesTo]
 | succ i ih =>
  rw [thievesTo]
  split
  ·split
   ·simp;omega
   ·omega
  ·omega
end Go.Wg
namespace Go.Wg
open Go Go.Mm Go.Proofs.YtjjmefieegcddaaDoor
def meltK (more:List Rdg):Wk:=⟨[⟨-1,40,1,4⟩,⟨0,20,0,2⟩,⟨0,20,0,0⟩,⟨1,20,0,0⟩],[⟨0,0,30,1⟩,⟨2,1,12,1⟩,⟨3,1,15,0⟩] ++ more⟩
def vesC (l:List Ves):List Value:=l.flatMap Ves.cells
def rdgC (l:List Rdg):List Value:=l.flatMap Rdg.cells
theorem flat4 {α:Type} (f:α→List Value) (hf:∀ x,(f x).length=4):∀ (l:List α) (i:Nat) (x:α),l[i]? = some x→∀ j,j < 4→(l.flatMap f)[i * 4+j]? = (f x)[j]?
 | [],i,x,h,_,_=>by simp at h
 | y :: l,0,x,h,j,hj=>by
  simp at h
  subst h
  rw [List.flatMap_cons,Nat.zero_mul,Nat.zero_add,List.getElem?_append_left (by rw [hf];exact hj)]
 | y :: l,i+1,x,h,j,hj=>by
  rw [List.flatMap_cons,List.getElem?_append_right (by rw [hf];omega),hf,show (i+1) * 4+j - 4=i * 4+j by omega]
  exact flat4 f hf l i x (by simpa using h) j hj
theorem flat4_len {α:Type} (f:α→List Value) (hf:∀ x,(f x).length=4) (l:List α):(l.flatMap f).length=l.length * 4:=by
 induction l with
 | nil=>rfl
 | cons y l ih =>
  rw [List.flatMap_cons,List.length_append,hf,ih,List.length_cons]
  omega
theorem vesC_flat (l:List Ves):∀ c∈vesC l,flat0 c=true:=by
 intro c hc
 obtain ⟨v,_,hv⟩:=List.mem_flatMap.1 hc
 simp [Ves.cells] at hv
 rcases hv with rfl | rfl | rfl | rfl <;> rfl
theorem rdgC_flat (l:List Rdg):∀ c∈rdgC l,flat0 c=true:=by
 intro c hc
 obtain ⟨v,_,hv⟩:=List.mem_flatMap.1 hc
 simp [Rdg.cells] at hv
 rcases hv with rfl | rfl | rfl | rfl <;> rfl
structure Bs (V:View):Prop where
 gv:V.Cell 0 0 errT
 last:∃ o,V (gN - 1)=some o
theorem Bs.mono {V V':View} (h:Bs V) (hV:∀ j o,V j=some o→V' j=some o):Bs V':=⟨h.gv.mono hV,by obtain ⟨o,ho⟩:=h.last;exact ⟨o,hV _ _ ho⟩⟩
theorem wk_of {V:View} {w w':World} {k:Wk} {bV gR cap:Nat} {cur:Array Value} (hB:Bs V) (hV:V.In w) (hk:Kp w w') (hn:k.n≤100∧k.rdg.length≤100) (l1:w.heap.size≤bV) (l2:w.heap.size≤gR)
  (h1:w'.heap[bV]? = some (.cells (vesC k.ves).toArray 29 (0,0))) (h2:w'.heap[gR]? = some (.cells cur 59 (0,0))) (hcap:k.rdg.length≤cap) (hmax:cap≤maxLen) (hcur:cur.toList.take (k.rdg.length * 4)=rdgC k.rdg)
  (hpad:∀ i c,k.rdg.length * 4≤i→cur[i]? = some c→flat0 c=true) :
  ∃ V':View,(∀ i,i < w.heap.size→V' i=V i)∧V'.In w'∧WkIn V' (.slice (some ⟨bV,0,none⟩) k.n k.n) (.slice (some ⟨gR,0,none⟩) k.rdg.length cap) k:=by
 have hne:bV≠gR:=by
  rintro rfl
  rw [h1] at h2
  cases h2
 let V':View:=fun j=>if j=bV then some (.cells (vesC k.ves).toArray 29 (0,0)) else if j=gR then some (.cells cur 59 (0,0)) else V j
 have e1:V' bV=some (.cells (vesC k.ves).toArray 29 (0,0)):=by simp [V']
 have e2:V' gR=some (.cells cur 59 (0,0)):=by simp [V',Ne.symm hne]
 have e3:∀ i,i < w.heap.size→V' i=V i:=fun i hi=>by
  have:i≠bV:=by omega
  have:i≠gR:=by omega
  simp [V', *]
 obtain ⟨o,ho⟩:=hB.last
 have hgl:gN - 1 < w.heap.size:=lt_of_heap (hV _ _ ho)
 have hv4:∀ v:Ves,v.cells.length=4:=fun _=>rfl
 have hr4:∀ r:Rdg,r.cells.length=4:=fun _=>rfl
 refine ⟨V',e3,fun j u hj=>?_,⟨⟨_,k.n,rfl,Nat.le_refl _,by unfold maxLen;omega,fun _=>⟨bV,0,rfl,fun i hi j v hj=>?_⟩⟩,⟨_,cap,rfl,hcap,hmax,fun _=>⟨gR,0,rfl,fun i hi j v hj=>?_⟩⟩,hn,?_⟩⟩
 ·by_cases c1:j=bV
  ·subst c1
   rw [e1] at hj
   cases hj
   exact h1
  ·by_cases c2:j=gR
   ·subst c2
    rw [e2] at hj
    cases hj
    exact h2
   ·have:V' j=V j:=by simp [V',c1,c2]
    rw [this] at hj
    have:=hV j u hj
    rw [hk.old j (lt_of_heap this)]
    exact this
 ·have hj4:j < 4:=by
   have:=(List.getElem?_eq_some_iff.1 hj).1
   simpa [Ves.cells] using this
  refine ⟨_,_,_,e1,?_⟩
  have hl:k.ves[i]? = some (k.v i):=by
   unfold Wk.n at hi
   simp [Wk.v,List.getD_eq_getElem?_getD,List.getElem?_eq_getElem hi]
  have:=flat4 Ves.cells hv4 k.ves i (k.v i) hl j hj4
  rw [hj] at this
  rw [List.getElem?_toArray,Nat.zero_add]
  exact this
 ·have hj4:j < 4:=by
   have:=(List.getElem?_eq_some_iff.1 hj).1
   simpa [Rdg.cells] using this
  refine ⟨_,_,_,e2,?_⟩
  have hl:k.rdg[i]? = some (k.rdg.getD i default):=by simp [List.getD_eq_getElem?_getD,List.getElem?_eq_getElem hi]
  have:=flat4 Rdg.cells hr4 k.rdg i _ hl j hj4
  rw [hj] at this
  have h3:(cur.toList.take (k.rdg.length * 4))[i * 4+j]? = some v:=by rw [hcur];exact this
  rw [List.getElem?_take,if_pos (by omega)] at h3
  rw [Nat.zero_add]
  simpa using h3
 ·refine ⟨[bV,gR],⟨fun b hb=>?_,fun b hb=>?_,⟨o,by rw [e3 _ hgl];exact ho⟩⟩,.inr (.inr ⟨bV,0,_,_,rfl,by simp⟩),.inr (.inr ⟨gR,0,_,_,rfl,by simp⟩)⟩
  ·rcases List.mem_cons.1 hb with rfl | hb
   ·exact ⟨_,_,e1,fun v hv=>.inl (vesC_flat _ v (by simpa using hv))⟩
   ·obtain rfl:b=gR:=by simpa using hb
    refine ⟨_,_,e2,fun v hv=>.inl ?_⟩
    obtain ⟨i,hi,hiv⟩:=Array.mem_iff_getElem.1 hv
    rcases Nat.lt_or_ge i (k.rdg.length * 4) with h | h
    ·refine rdgC_flat k.rdg v ?_
     rw [← hcur]
     have:(cur.toList.take (k.rdg.length * 4))[i]? = some v:=by
      rw [List.getElem?_take,if_pos h]
      simp [hi,hiv]
     exact List.mem_of_getElem? this
    ·exact hpad i v h (by rw [Array.getElem?_eq_getElem hi,hiv])
  ·have:b=bV∨b=gR:=by simpa using hb
   rcases this with rfl | rfl <;> omega
end Go.Wg
namespace Go.Proofs.YtjjmefieegcddaaDoor
open Go.RowKit Go.Wg Go.Mm
def srcTo (k:Wk) (i:Nat):List Nat:=(List.range i).filter fun x=>decide ((k.v x).from_ < 0)
theorem srcTo_len (k:Wk) (i:Nat):(srcTo k i).length≤i:=by
 unfold srcTo
 have:=List.length_filter_le (fun x=>decide ((k.v x).from_ < 0)) (List.range i)
 rwa [List.length_range] at this
set_option maxRecDepth 20000 in
set_option maxHeartbeats 2000000 in
theorem sources_ok (V:View) (p:Nat) (k:Wk) (ts:List Nat) (vv rv:Value) (hC:Cel V p k ts vv rv) (w:World) (hV:V.In w) :
  Calls Tryd.prog 93 #[ptr p] w fun r w'=>∃ v,r=.returned v∧Kp w w'∧(Ent.row v 124 1 k.sources.length (k.sources.map fun x=>ptr (ts.getD x 0))).Holds w'∧∀ b,v.ownBlock=some b→w.heap.size≤b:=by
 obtain ⟨cg,ccap,hc2,hcc⟩:=hC.c2
 have hn6:=hC.le
 have htun:=hC.tun
 have hS:=(St.start w V hV).nilRow 124 1
 clear hC
 unfold ptr at hcc ⊢
 go_enter Tryd.func93,Tryd.ntmps93
 go_wp2_with (((with_reducible refine gL ?_);refine qv1 hS rfl rfl rfl ?_);refine ⟨_,zd,?_⟩;clear hS;(try clear w');intro a' hp;(try simp only [fr] at hp);subst hp;intro w' hS;(try simp only [sE] at hS))
 go_loopw [3,11] (fun sv iv wr=>∃ (i:Nat),i≤k.n∧iv=.int .i64 (i:Int)∧sv.oneCell'=true∧St w [] V [.row sv 124 1 (srcTo k i).length ((srcTo k i).map fun x=>ptr (ts.getD x 0))] wr) (fun _ iv _=>k.n - (intOf iv).toNat)
 case atStart=>exact ⟨0,by omega,rfl,rfl,hS⟩
 case round =>
  clear hS
  obtain ⟨i,hi,rfl,hone,hS⟩:=hrel
  by_cases hlt:i < k.n
  ·have h0:(0:Int)≤i:=by omega
   have h1:(i:Int) < k.n:=by omega
   have hpx:=hcc i hlt
   have hfr:=htun i hlt 0 _ rfl
   have hsl:=srcTo_len k i
   simp only [Nat.zero_add] at hfr
   have HE:srcTo k (i+1)=if (k.v i).from_ < 0 then srcTo k i ++ [i] else srcTo k i:=by
    unfold srcTo
    rw [List.range_succ,List.filter_append]
    by_cases h:(k.v i).from_ < 0 <;> simp [h]
   clear hcc htun
   generalize hti:ts.getD i 0=ti at hpx hfr
   replace hti:=mkHid hti
   by_cases hneg:(k.v i).from_ < 0
   ·rw [if_pos hneg] at HE
    replace HE:=mkHid HE
    go_wp2_with (first | (((with_reducible refine gL ?_);refine qv1 hS rfl rfl rfl ?_);refine ⟨_,zd,?_⟩;clear hS;(try clear w');intro a' hp;(try simp only [fr] at hp);subst hp;intro w' hS;(try simp only [sE] at hS)) | ((with_reducible refine gSl ?_);refine qbsl hS rfl rfl ?_;refine ⟨_,zq,zd,?_⟩;clear hS;(try clear w');intro _;intro a' hp;(try simp only [fr] at hp);subst hp;intro w' hS) | ((with_reducible refine gAp ?_);refine qap rfl rfl ?_;refine ⟨_,_,_,_,by exact rfl,by exact rfl,?_⟩;refine appG_of hS zd ?_;clear hS;(try clear w');intro va w' hS;intro a' hp;(try simp only [fr] at hp);subst hp;(try simp only [sE] at hS);have hva:=rowOne hS va))
    go_roundw
    case rel =>
     refine ⟨i+1,by omega,by go_num,hva,?_⟩
     rw [HE.out,List.map_append,List.length_append]
     simp only [List.map_cons,List.map_nil,List.length_cons,List.length_nil,ptr]
     rw [hti.out]
     exact hS.drop
    case measure=>simp only [intOf];omega
   ·rw [if_neg hneg] at HE
    replace HE:=mkHid HE
    go_wp2_with (((with_reducible refine gL ?_);refine qv1 hS rfl rfl rfl ?_);refine ⟨_,zd,?_⟩;clear hS;(try clear w');intro a' hp;(try simp only [fr] at hp);subst hp;intro w' hS;(try simp only [sE] at hS))
    go_roundw
    case rel =>
     refine ⟨i+1,by omega,by go_num,hone,?_⟩
     rw [HE.out]
     exact hS
    case measure=>simp only [intOf];omega
  ·obtain rfl:i=k.n:=by omega
   go_wp2_with (fail)
   ((try simp only [Exit.inBlock,Exit.then]);(try refine bodyPost_norm ?_);refine ret_by ⟨_,by exact results1 (r1:=.tmp 2) (by kernel_rfl) (by exact rs_tmp rfl),?_⟩ rfl)
   refine ⟨_,rfl,hS.toKp,hS.has _ (List.mem_cons_self ..),fun b hb=>?_⟩
   rcases hS.new _ (List.mem_cons_self ..) b hb with h | h
   ·exact h
   ·cases h
end Go.Proofs.YtjjmefieegcddaaDoor
namespace Go.Proofs.YtjjmefieegcddaaDoor
open Go.RowKit Go.Wg Go.Mm
theorem cellar_mono {V V':View} {p:Nat} {k:Wk} (h:Cellar V p k) (hV:∀ i o,V i=some o→V' i=some o):Cellar V' p k:=by
 obtain ⟨ts,vv,rv,hC⟩:=h
 exact ⟨ts,vv,rv,hC.mono hV⟩
theorem newV_mono {V:View} {w w1 w':World} (hV:V.In w) (hk:w.heap.size≤w1.heap.size):∀ i o,newV V w1 w' i=some o→newV V w w' i=some o:=fun i o h=>by
 unfold newV at h ⊢
 split at h
 ·rename_i h1
  have:=lt_of_heap (hV i o h)
  simp [this,h]
 ·rename_i h1
  rw [if_neg (by omega)];exact h
structure BegR (V:View) (w w':World) (k:Wk) (ns:List Int) (c:Value):Prop where
 kp:Kp w w'
 bad:beginE k ns≠0→c=.pointer none
 good:beginE k ns=0→∃ p,c=.pointer (some ⟨p,0,none⟩)∧(newV V w w').In w'∧Cellar (newV V w w') p k∧∃ D,Closed (newV V w w') D∧p∈D
set_option maxRecDepth 20000 in
set_option maxHeartbeats 2000000 in
theorem begin_ok (V:View) (vv rv:Value) (k:Wk) (hk:WkIn V vv rv k) (sl:Value) (ns:List Int) (hsl:VSl V sl ns.length 1 fun j=>[.int .i64 (ns.getD j 0)]) (hlen:ns.length≤100) (w:World) (hV:V.In w) :
  Calls Tryd.prog 77 #[.agg #[vv,rv],sl] w fun r w'=>∃ c,r=.returned (.tuple #[c,.int .i64 (beginE k ns)])∧BegR V w w' k ns c:=by
 have hopen:=fun hok w1 hV1=>open_ok V vv rv k hk hok w1 hV1
 have hcheck:=fun w1 hV1=>check_ok V vv rv k hk w1 hV1
 obtain ⟨va,vcap,rfl,hvc,hvm,hve⟩:=hk.ves.is
 obtain ⟨ra,rcap,rfl,hrc,hrm,hre⟩:=hk.rdg.is
 obtain ⟨na,ncap,rfl,hnc,hnm,hne⟩:=hsl.is
 have hn100:=hk.small.1
 have hS:=St.start w V hV
 clear hk hsl hve hre
 by_cases hck:checkE k=0
 ·have hok:=ok_of_check hck
  have hpos:=hok.pos
  have hn6:=hok.le
  have hB:beginE k ns=if ns.all (fun n=>!outB n 0 (k.n - 1)) then 0 else 3:=by unfold beginE;rw [if_neg (by simp [hck])]
  have hopen:=hopen hok
  rw [hck] at hcheck
  replace hck:=mkHid hck
  replace hB:=mkHid hB
  go_enter Tryd.func77,Tryd.ntmps77
  go_wp2_with (first | (first | (((with_reducible refine gL ?_);refine qln hS rfl rfl rfl ?_);refine ⟨_,zd,?_⟩;clear hS;(try clear w');intro a' hp;(try simp only [fr] at hp);subst hp;intro w' hS;(try simp only [sE] at hS)) | ((with_reducible refine gB ?_);refine qboxd 2 rfl hS rfl rfl rfl ?_;refine ⟨_,za,?_⟩;clear hS;(try clear w');intro b2;intro a' hp;(try simp only [fr] at hp);subst hp;intro w' hS)) | (go_at_call 29;refine calls_by hS ⟨_,hcheck _ (St.view hS),?_⟩;clear hS;(try clear w');intro w' hS))
  go_loopw [16] (fun iv wr=>∃ i:Nat,i≤ns.length∧iv=.int .i64 (i:Int)∧(ns.take i).all (fun n=>!outB n 0 (k.n - 1))=true∧St w [] V [.blk b2 25 [.slice va k.n vcap,.slice ra k.rdg.length rcap]] wr) (fun iv _=>ns.length - (intOf iv).toNat)
  case atStart=>exact ⟨0,by omega,rfl,rfl,hS⟩
  case round =>
   clear hS
   obtain ⟨i,hi,rfl,hall,hS⟩:=hrel
   by_cases hlt:i < ns.length
   ·have h0:(0:Int)≤i:=by omega
    have h1:(i:Int) < ns.length:=by omega
    obtain ⟨ng,no,rfl,hnr⟩:=hne (by omega)
    have hc:=hnr i hlt 0 _ rfl
    simp only [Nat.mul_one,Nat.add_zero] at hc
    have hT:(ns.take (i+1)).all (fun n=>!outB n 0 (k.n - 1))=!outB (ns.getD i 0) 0 (k.n - 1):=by
     rw [List.take_succ_eq_append_getElem hlt,List.all_append,hall]
     simp [List.getD_eq_getElem?_getD,List.getElem?_eq_getElem hlt]
    have hA:outB (ns.getD i 0) 0 (k.n - 1)=true→ns.all (fun n=>!outB n 0 (k.n - 1))=false:=fun h=>by
     rw [List.all_eq_false]
     exact ⟨ns.getD i 0,by rw [List.getD_eq_getElem?_getD,List.getElem?_eq_getElem hlt];exact List.getElem_mem _,by rw [h];decide⟩
    clear hne hnr hall
    generalize ns.getD i 0=n at hc hT hA
    cases ho:outB n 0 (k.n - 1)
    ·rw [ho] at hT
     replace hT:=mkHid hT
     clear hA
     go_wp2_with (first | (((with_reducible refine gL ?_);first | refine ql1 hS rfl rfl rfl ?_ | refine qv1 hS rfl rfl rfl ?_);refine ⟨_,zd,?_⟩;clear hS;(try clear w');intro a' hp;(try simp only [fr] at hp);subst hp;intro w' hS;(try simp only [sE] at hS)) | (go_at_call 88;refine calls_by hS ⟨_,outside_ok' _ _ _ _,?_⟩;rw [ho];clear hS;(try clear w');intro w' hS))
     go_roundw
     case rel=>exact ⟨i+1,by omega,by go_num,hT.out,hS⟩
     case measure=>simp only [intOf];omega
    ·have hA:=hA ho
     replace hA:=mkHid hA
     clear hT
     go_wp2_with (first | (((with_reducible refine gL ?_);first | refine ql1 hS rfl rfl rfl ?_ | refine qv1 hS rfl rfl rfl ?_);refine ⟨_,zd,?_⟩;clear hS;(try clear w');intro a' hp;(try simp only [fr] at hp);subst hp;intro w' hS;(try simp only [sE] at hS)) | (go_at_call 88;refine calls_by hS ⟨_,outside_ok' _ _ _ _,?_⟩;rw [ho];clear hS;(try clear w');intro w' hS))
     ((try simp only [Exit.inBlock,Exit.then]);(try refine bodyPost_norm ?_);refine ret_by ⟨_,by exact results2 (r1:=.tmp 4) (r2:=.tmp 5) (by kernel_rfl) (by exact rs_tmp rfl) (by exact rs_tmp rfl),?_⟩ rfl)
     have hB3:beginE k ns=3:=by rw [hB.out,hA.out];rfl
     refine ⟨_,by rw [hB3],hS.toKp,fun _=>rfl,fun h=>?_⟩
     rw [hB3] at h;cases h
   ·obtain rfl:i=ns.length:=by omega
    rw [List.take_length] at hall
    have hB0:beginE k ns=0:=by rw [hB.out,hall];rfl
    replace hall:=mkHid hall
    replace hB0:=mkHid hB0
    go_wp2_with (first | (((with_reducible refine gL ?_);refine qln hS rfl rfl rfl ?_);refine ⟨_,zd,?_⟩;clear hS;(try clear w');intro a' hp;(try simp only [fr] at hp);subst hp;intro w' hS;(try simp only [sE] at hS)) | (go_at_call 114;refine (hopen _ (St.view hS)).mono ?_;rintro _ w2 ⟨p,rfl,hkp,hin,hcel,D,hD,hpD⟩))
    ((try simp only [Exit.inBlock,Exit.then]);(try refine bodyPost_norm ?_);refine ret_by ⟨_,by exact results2 (r1:=.tmp 4) (r2:=.tmp 5) (by kernel_rfl) (by exact rs_tmp rfl) (by exact rs_tmp rfl),?_⟩ rfl)
    refine ⟨_,by rw [hB0.out],hS.toKp.trans hkp,fun h=>absurd hB0.out h,fun _=>⟨p,rfl,newV_in (hS.view.kp hkp),cellar_mono hcel (newV_mono hV hS.size),D,closed_mono hD (newV_mono hV hS.size),hpD⟩⟩
 ·have hB:beginE k ns=checkE k:=by unfold beginE;rw [if_pos hck]
  have hck':(checkE k == 0)=false:=by rw [beq_eq_false_iff_ne];exact hck
  replace hB:=mkHid hB
  generalize checkE k=e at hcheck hck hck' hB
  clear hopen
  go_enter Tryd.func77,Tryd.ntmps77
  go_wp2_with (first | (first | (((with_reducible refine gL ?_);refine qln hS rfl rfl rfl ?_);refine ⟨_,zd,?_⟩;clear hS;(try clear w');intro a' hp;(try simp only [fr] at hp);subst hp;intro w' hS;(try simp only [sE] at hS)) | ((with_reducible refine gB ?_);refine qboxd 2 rfl hS rfl rfl rfl ?_;refine ⟨_,za,?_⟩;clear hS;(try clear w');intro b2;intro a' hp;(try simp only [fr] at hp);subst hp;intro w' hS)) | (go_at_call 29;refine calls_by hS ⟨_,hcheck _ (St.view hS),?_⟩;clear hS;(try clear w');intro w' hS))
  ((try simp only [Exit.inBlock,Exit.then]);(try refine bodyPost_norm ?_);refine ret_by ⟨_,by exact results2 (r1:=.tmp 4) (r2:=.tmp 5) (by kernel_rfl) (by exact rs_tmp rfl) (by exact rs_tmp rfl),?_⟩ rfl)
  refine ⟨_,by rw [hB.out],hS.toKp,fun _=>rfl,fun h=>?_⟩
  exact absurd (hB.out.symm.trans h) hck
end Go.Proofs.YtjjmefieegcddaaDoor
namespace Go.Proofs.YtjjmefieegcddaaDoor
open Go.RowKit Go.Wg Go.Mm
theorem kp_alloc (w:World) (t:TypeId) (v:Value):Kp w (w.alloc (.cells #[v] t)) :=
 ⟨rfl,rfl,by show _≤(w.heap.push _).size;simp,fun k hk=>heap_alloc_old w _ hk⟩
theorem ta_nil (w:World):(Instr.typeAssert .nilIface 20 152 true).run Tryd.prog w=.ok (.tuple #[.agg #[.int .i64 0],.bool false]) w:=by kernel_rfl
theorem ta_hit (i:Int) (w:World):(Instr.typeAssert (.iface 152 (.agg #[.int .i64 i])) 20 152 true).run Tryd.prog w=.ok (.tuple #[.agg #[.int .i64 i],.bool true]) w:=by kernel_rfl
set_option maxRecDepth 20000 in
theorem caught_idle (p:Addr) (w:World) :
  CallsD Tryd.prog 82 #[.pointer (some p)] .returning w fun e u' w'=>e=.returned (.tuple #[])∧u'=.returning∧Kp w w':=by
 have hta:=ta_nil
 refine callsD_of_wpS Tryd.func82 rfl fun c₀ cs hu=>?_
 apply wpS_seq
 apply wpS_region
 simp [wpOpsS,go_sem,recoverD,hu,Tryd.ntmps82,Exit.thenS,hta]
 apply wpS_seq
 apply wpS_region
 simp [wpOpsS,go_sem,hu,Exit.thenS]
 refine wpS_cond (t:=false) (by simp [Act.eval,Array.replicate]) ?_
 simp only [Bool.false_eq_true,if_false]
 refine wpS_of_wp (wp_skip ?_)
 have hk:=kp_alloc w 152 (.int .i64 0)
 cases c₀
 simp_all [bodyPostS,results,Tryd.results82]
set_option maxRecDepth 20000 in
set_option maxHeartbeats 1000000 in
theorem caught_hit (b:Nat) (x:Value) (i:Int) (older:List PanicEntry) (w:World) (hb:w.heap[b]? = some (.cells #[x] 38 (0,0))) :
  CallsD Tryd.prog 82 #[.pointer (some ⟨b,0,none⟩)] (.panicking ({ v:=.iface 152 (.agg #[.int .i64 i]),recovered:=false } :: older)) w fun e u' w' =>
   e=.returned (.tuple #[])∧u'=.panicking ({ v:=.iface 152 (.agg #[.int .i64 i]),recovered:=true } :: older)∧KpBut b w w'∧w'.heap[b]? = some (.cells #[.int .i64 9] 38 (0,0)):=by
 have hta:=ta_hit i
 have hlt:=lt_of_heap hb
 refine callsD_of_wpS Tryd.func82 rfl fun c₀ cs hu=>?_
 apply wpS_seq
 apply wpS_region
 simp [wpOpsS,go_sem,recoverD,hu,Tryd.ntmps82,Exit.thenS,hta]
 apply wpS_seq
 apply wpS_region
 simp [wpOpsS,go_sem,hu,Exit.thenS]
 refine wpS_cond (t:=true) (by simp [Act.eval,Array.replicate]) ?_
 simp only [if_true]
 apply wpS_region
 have hh:(w.alloc (.cells #[.int .i64 i] 152)).heap[b]? = some (.cells [x].toArray 38 (0,0)):=by rw [heap_alloc_old w _ hlt];exact hb
 have hc:=cell_at (o:=0) (v:=x) hh rfl
 have hz:=frozen_of_row _ b 0 _ _ hh
 have hk:=kp_alloc w 152 (.int .i64 i)
 have hend:KpBut b w ((w.alloc (.cells #[.int .i64 i] 152)).setCell ⟨b,0,none⟩ (.int .i64 9))∧((w.alloc (.cells #[.int .i64 i] 152)).setCell ⟨b,0,none⟩ (.int .i64 9)).heap[b]? = some (.cells #[.int .i64 9] 38 (0,0)):=by
  refine ⟨⟨hk.os,hk.output,?_,fun k hk1 hk2=>?_⟩,?_⟩
  ·have:=hk.size
   have e:((w.alloc (.cells #[.int .i64 i] 152)).setCell ⟨b,0,none⟩ (.int .i64 9)).heap.size=(w.alloc (.cells #[.int .i64 i] 152)).heap.size:=by simp [World.setCell]
   omega
  ·rw [setCell_other _ _ _ _ hk2];exact hk.old k hk1
  ·rw [heap_setCell_same _ b 0 _ 38 _ hh];simp
 generalize w.alloc (.cells #[.int .i64 i] 152)=W at hc hz hend ⊢
 simp [wpOpsS,go_sem,hc,hz,bodyPostS,results,Tryd.results82]
 exact hend
end Go.Proofs.YtjjmefieegcddaaDoor
namespace Go.Proofs.YtjjmefieegcddaaDoor
open Go.RowKit Go.Wg Go.Mm
variable {w0 w:World} {X:List Nat} {V:View} {L:List Ent}
theorem calls_begin_bad {vv rv sl:Value} {k:Wk} {ns:List Int} {R:Ending→World→Prop} (hS:St w0 X V L w) (hk:WkIn V vv rv k) (hsl:VSl V sl ns.length 1 fun j=>[.int .i64 (ns.getD j 0)]) (hlen:ns.length≤100) (hb:beginE k ns≠0)
  (h:∀ w',St w0 X V L w'→R (.returned (.tuple #[.pointer none,.int .i64 (beginE k ns)])) w'):Calls Tryd.prog 77 #[.agg #[vv,rv],sl] w R :=
 (begin_ok V vv rv k hk sl ns hsl hlen w hS.view).mono fun e w' ⟨c,he,hr⟩=>by
  subst he
  rw [hr.bad hb]
  exact h w' (hS.kp hr.kp)
theorem calls_begin {vv rv sl:Value} {k:Wk} {ns:List Int} {R:Ending→World→Prop} (hS:St w0 X V L w) (hk:WkIn V vv rv k) (hsl:VSl V sl ns.length 1 fun j=>[.int .i64 (ns.getD j 0)]) (hlen:ns.length≤100) (hb:beginE k ns=0)
  (h:∀ p V' w',(∀ j o,V j=some o→V' j=some o)→Cellar V' p k→St w0 X V' L w'→R (.returned (.tuple #[.pointer (some ⟨p,0,none⟩),.int .i64 0])) w'):Calls Tryd.prog 77 #[.agg #[vv,rv],sl] w R :=
 (begin_ok V vv rv k hk sl ns hsl hlen w hS.view).mono fun e w' ⟨c,he,hr⟩=>by
  subst he
  obtain ⟨p,rfl,hin,hcel,_⟩:=hr.good hb
  rw [hb]
  exact h p _ w' (newV_sub hS.view) hcel (hS.call hr.kp hin newV_old)
theorem calls_beginD {vv rv sl:Value} {k:Wk} {ns:List Int} {R:Ending→World→Prop} (hS:St w0 X V L w) (hk:WkIn V vv rv k) (hsl:VSl V sl ns.length 1 fun j=>[.int .i64 (ns.getD j 0)]) (hlen:ns.length≤100) (hb:beginE k ns=0)
  (h:∀ p V' w' D,(∀ j o,V j=some o→V' j=some o)→Cellar V' p k→Closed V' D→p∈D→St w0 X V' L w'→R (.returned (.tuple #[.pointer (some ⟨p,0,none⟩),.int .i64 0])) w'):Calls Tryd.prog 77 #[.agg #[vv,rv],sl] w R :=
 (begin_ok V vv rv k hk sl ns hsl hlen w hS.view).mono fun e w' ⟨c,he,hr⟩=>by
  subst he
  obtain ⟨p,rfl,hin,hcel,D,hD,hpD⟩:=hr.good hb
  rw [hb]
  exact h p _ w' D (newV_sub hS.view) hcel hD hpD (hS.call hr.kp hin newV_old)
theorem nilSl {V:View} {get:Nat→List Value}:VSl V (.slice none 0 0) 0 1 get:=⟨⟨none,0,rfl,by omega,by omega,fun h=>absurd h (by omega)⟩⟩
theorem beginE_check {k:Wk} {ns:List Int} (h:beginE k ns=0):k.Ok:=by
 unfold beginE at h
 split at h
 ·rename_i h1;exact absurd h h1
 ·rename_i h1;exact ok_of_check (by simpa using h1)
def canE (k:Wk):Bool × Int:=if beginE k []=0 then (can k (nowS k noneB),0) else (false,beginE k [])
set_option maxRecDepth 20000 in
set_option maxHeartbeats 1000000 in
theorem Can_ok (vv rv:Value) (k:Wk) (hk:WkIn V vv rv k) (hG:GV V) (hV:V.In w) :
  Calls Tryd.prog 25 #[.agg #[vv,rv]] w fun r w'=>r=.returned (.tuple #[.bool (canE k).1,.int .i64 (canE k).2])∧Kp w w':=by
 have hbad:=fun (w1:World) (R:Ending→World→Prop) (L:List Ent) (h1:St w [] V L w1)=>calls_begin_bad (R:=R) h1 hk nilSl (ns:=[]) (by simp)
 have hgood:=fun (w1:World) (R:Ending→World→Prop) (L:List Ent) (h1:St w [] V L w1)=>calls_begin (R:=R) h1 hk nilSl (ns:=[]) (by simp)
 obtain ⟨va,vcap,rfl,hvc,hvm,hve⟩:=hk.ves.is
 obtain ⟨ra,rcap,rfl,hrc,hrm,hre⟩:=hk.rdg.is
 have hS:=St.start w V hV
 clear hk hve hre
 by_cases hb:beginE k []=0
 ·have hok:=beginE_check hb
  have hC:canE k=(can k (nowS k noneB),0):=by unfold canE;rw [if_pos hb]
  rw [hC]
  simp only
  have hgood:=fun w1 R L h1=>hgood w1 R L h1 hb
  clear hbad
  replace hb:=mkHid hb;replace hC:=mkHid hC
  go_enter Tryd.func25,Tryd.ntmps25
  go_wp2_with (first | (first | (((with_reducible refine gL ?_);refine qln hS rfl rfl rfl ?_);refine ⟨_,zd,?_⟩;clear hS;(try clear w');intro a' hp;(try simp only [fr] at hp);subst hp;intro w' hS;(try simp only [sE] at hS)) | (((with_reducible refine gB ?_);refine qbox hS rfl rfl rfl ?_;refine ⟨_,za,?_⟩);clear hS;(try clear w');intro _;intro a' hp;(try simp only [fr] at hp);subst hp;intro w' hS)) | (go_at_call 77;refine hgood _ _ _ hS ?_;clear hS;(try clear w');intro p V' w' hVV hcel hS;have hG':GV V':=hG.mono hVV) | (go_at_call 79;refine calls_by hS ⟨_,now_none V' p k hcel hok _ rfl _ (St.view hS),?_⟩;clear hS;(try clear w');intro w' hS) | (go_at_call 78;refine calls_by hS ⟨_,can_ok V' p k hcel hG' _ (nowS_wf _ _) _ (St.view hS),?_⟩;clear hS;(try clear w');intro w' hS))
  ((try simp only [Exit.inBlock,Exit.then]);(try refine bodyPost_norm ?_);refine ret_by ⟨_,by exact results2 (r1:=.tmp 2) (r2:=.tmp 3) (by kernel_rfl) (by exact rs_tmp rfl) (by exact rs_tmp rfl),?_⟩ rfl)
  exact ⟨rfl,hS.toKp⟩
 ·have hC:canE k=(false,beginE k []):=by unfold canE;rw [if_neg hb]
  rw [hC]
  simp only
  have hbad:=fun w1 R L h1=>hbad w1 R L h1 hb
  have hb':(beginE k [] == 0)=false:=by rw [beq_eq_false_iff_ne];exact hb
  clear hgood
  generalize beginE k []=e at hb hb' hbad ⊢
  replace hC:=mkHid hC
  go_enter Tryd.func25,Tryd.ntmps25
  go_wp2_with (first | (first | (((with_reducible refine gL ?_);refine qln hS rfl rfl rfl ?_);refine ⟨_,zd,?_⟩;clear hS;(try clear w');intro a' hp;(try simp only [fr] at hp);subst hp;intro w' hS;(try simp only [sE] at hS)) | (((with_reducible refine gB ?_);refine qbox hS rfl rfl rfl ?_;refine ⟨_,za,?_⟩);clear hS;(try clear w');intro _;intro a' hp;(try simp only [fr] at hp);subst hp;intro w' hS)) | (go_at_call 77;refine hbad _ _ _ hS ?_;clear hS;(try clear w');intro w' hS))
  ((try simp only [Exit.inBlock,Exit.then]);(try refine bodyPost_norm ?_);refine ret_by ⟨_,by exact results2 (r1:=.tmp 2) (r2:=.tmp 3) (by kernel_rfl) (by exact rs_tmp rfl) (by exact rs_tmp rfl),?_⟩ rfl)
  exact ⟨rfl,hS.toKp⟩
end Go.Proofs.YtjjmefieegcddaaDoor
namespace Go.Mm
open Go
variable {P:Program}
def resFree1 (d:Nat):ResultVar→Bool
 | .tmp t=>t != d
 | .cell t _=>t != d
theorem resSem_put {tmps:Array Value} {d:Nat} {v:Value} {r:ResultVar} (h:resFree1 d r=true):resSem (tmps.setIfInBounds d v) r=resSem tmps r:=by
 cases r with
 | tmp t =>
  have h':¬ d=t:=fun e=>by subst e;simp [resFree1] at h
  simp [resSem,Array.getElem?_setIfInBounds,h']
 | cell t ty =>
  have h':¬ d=t:=fun e=>by subst e;simp [resFree1] at h
  simp [resSem,Array.getElem?_setIfInBounds,h']
def resFree (d:Nat) (rs:Array ResultVar):Bool:=decide (rs.toList.length≤3) && rs.toList.all (resFree1 d)
theorem results_put {fn:Func} {d:Nat} (h:resFree d fn.results=true) (tmps:Array Value) (v:Value) (w:World):(results fn (tmps.setIfInBounds d v)).run P w=(results fn tmps).run P w:=by
 rw [results_eq,results_eq]
 unfold resFree at h
 generalize fn.results=rs at h ⊢
 obtain ⟨l,rfl⟩:∃ l:List ResultVar,rs=l.toArray:=⟨rs.toList,by simp⟩
 simp only [Bool.and_eq_true,decide_eq_true_eq] at h
 obtain ⟨h1,h3⟩:=h
 have h2:∀ r∈l,resFree1 d r=true:=List.all_eq_true.1 h3
 clear h3
 match l,h1,h2 with
 | [],_,_=>simp
 | [a],_,h2=>simp [resSem_put (h2 a (by simp))]
 | [a,b],_,h2=>simp [resSem_put (h2 a (by simp)),resSem_put (h2 b (by simp))]
 | [a,b,c],_,h2=>simp [resSem_put (h2 a (by simp)),resSem_put (h2 b (by simp)),resSem_put (h2 c (by simp))]
 | _ :: _ :: _ :: _ :: _,h1,_=>simp at h1
theorem leaves_put {fn:Func} {d:Nat} {R:Ending→World→Prop} (h:resFree d fn.results=true) {tmps:Array Value} {v:Value}:∀ (ds:List Deferred) (u:FrameMode) (w:World),
  Leaves P fn (tmps.setIfInBounds d v) R ds u w→Leaves P fn tmps R ds u w
 | [],.returning,w,hl=>by
  obtain ⟨x,h1,h2⟩:=hl
  rw [results_put (P:=P) h] at h1
  exact ⟨x,h1,h2⟩
 | [],.panicking _,_,hl=>hl
 | [],.run,_,hl=>hl
 | e :: ds,u,w,⟨h1,fv,cap,f,args,h2,h3,h4⟩=>by
  refine ⟨h1,fv,cap,f,args,h2,h3,h4.mono ?_⟩
  intro e u' w' hk
  cases e with
  | returned _=>exact leaves_put h ds _ _ hk
  | panicked _=>exact leaves_put h ds _ _ hk
  | outgrown=>exact hk
theorem panicD {fn:Func} {d:Nat} {R:Ending→World→Prop} {c:List PanicEntry} {a:Act} {v:Value} {w:World} (h:resFree d fn.results=true) (hl:bodyPostD P fn R (.panic c) (a.put (some d) v) w):bodyPostD P fn R (.panic c) a w :=
 leaves_put h a.defers (.panicking c) w hl
section
variable {l:List Oper} {md:Region.Mode} {o:Oper} {a:Act} {Q:Exit→Act→World→Prop} {S:World→Prop} {fuel:Nat} {listed:Array Bool} {w:World}
theorem he_pure (i:Nat) (hr:Region.ready md l.toArray listed=[i]) (hi₀:l[i]? = some o) (hw:Region.wanted o (yielded l.toArray a.tmps)=true) (hS:S w)
  (h:∃ v,(∀ w,(execOp a.eval o).run P w=.ok (.value v) w)∧∀ a' l',a.put o.dst v=a'→listed.setIfInBounds i true=l'→wpAnyH P md l.toArray Q S fuel l' a' w):wpAnyH P md l.toArray Q S (fuel+1) listed a w:=by
 obtain ⟨v,hv,h⟩:=h
 exact he_one hr (wpo_value (hi_of hi₀) hw (hv w) ⟨hS,h _ _ rfl rfl⟩)
end
end Go.Mm
namespace Go.Proofs.YtjjmefieegcddaaDoor
open Go.RowKit Go.Wg Go.Mm
variable {w0 w:World} {X:List Nat} {V:View} {L:List Ent}
theorem pin {b:Nat} {t:TypeId} {cs:List Value} (h:St w0 X V (.blk b t cs :: L) w):∃ V',(∀ j o,V j=some o→V' j=some o)∧(∀ i v,cs[i]? = some v→V'.Cell b i v)∧St w0 X V' L w:=by
 refine ⟨_,fun j o hj=>?_,fun i v hi=>⟨cs.toArray,t,(0,0),by simp,by simpa using hi⟩,h.freeze⟩
 have hn:=h.off _ (List.mem_cons_self ..) b rfl
 have:j≠b:=by rintro rfl;rw [hn] at hj;cases hj
 simp [this,hj]
theorem VSl.mono {V V':View} {v:Value} {n sz:Nat} {get:Nat→List Value} (h:VSl V v n sz get) (hV:∀ i o,V i=some o→V' i=some o):VSl V' v n sz get:=by
 obtain ⟨a,cap,h1,h2,h3,h4⟩:=h
 exact ⟨a,cap,h1,h2,h3,fun hn=>by obtain ⟨g,off,h5,h6⟩:=h4 hn;exact ⟨g,off,h5,fun i hi=>(h6 i hi).mono hV⟩⟩
theorem wkIn_mono {V V':View} {vv rv:Value} {k:Wk} (h:WkIn V vv rv k) (hV:∀ i o,V i=some o→V' i=some o):WkIn V' vv rv k:=⟨VSl.mono h.ves hV,VSl.mono h.rdg hV,h.small,by obtain ⟨D0,h1,h2,h3⟩:=h.cl;exact ⟨D0,closed_mono h1 hV,h2,h3⟩⟩
theorem oneSl {V:View} {b:Nat} {v:Int} (h:∀ i u,[Value.int .i64 v][i]? = some u→V.Cell b i u):VSl V (.slice (some ⟨b,0,none⟩) 1 1) [v].length 1 fun j=>[.int .i64 ([v].getD j 0)]:=by
 refine ⟨⟨some ⟨b,0,none⟩,1,rfl,by simp,by decide,fun _=>⟨b,0,rfl,fun i hi=>?_⟩⟩⟩
 obtain rfl:i=0:=by simpa using hi
 intro j u hj
 cases j with
 | zero=>simp at hj;subst hj;exact h 0 _ rfl
 | succ j=>simp at hj
theorem beginE_one {k:Wk} {v:Int} (h:beginE k [v]=0):0≤v∧v < k.n:=by
 unfold beginE at h
 split at h
 ·rename_i h1;exact absurd h h1
 ·split at h
  ·rename_i h2
   simp only [List.all_cons,List.all_nil,Bool.and_true] at h2
   have:=outB_false h2
   omega
  ·cases h
theorem door_idle {fn:Func} {tmps:Array Value} {R:Ending→World→Prop} {q:Addr} (hS:St w0 X V L w) (h:∀ w',St w0 X V L w'→∃ v,(results fn tmps).run Tryd.prog w'=.ok v w'∧R (.returned v) w') :
  bodyPostD Tryd.prog fn R .ret ⟨tmps,[{ target:=.fn (.func 82) #[],args:=#[.pointer (some q)] }]⟩ w:=by
 show Leaves Tryd.prog fn tmps R [{ target:=.fn (.func 82) #[],args:=#[.pointer (some q)] }] .returning w
 refine leaves_cons (f:=82) (args:=#[.pointer (some q)]) (by simp) (by simp [go_sem]) ?_
 refine (caught_idle q w).mono ?_
 rintro e u' w' ⟨rfl,rfl,hk⟩
 exact h w' (hS.kp hk)
theorem door_hit {fn:Func} {tmps:Array Value} {R:Ending→World→Prop} {b j:Nat} {x:Value} {i:Int} (hS:St w0 X V L w) [hj:Hs L b j 38 [x]]
  (h:∀ w',St w0 X V (L.set j (.blk b 38 [.int .i64 9])) w'→∃ v,(results fn tmps).run Tryd.prog w'=.ok v w'∧R (.returned v) w') :
  bodyPostD Tryd.prog fn R (.panic [{ v:=.iface 152 (.agg #[.int .i64 i]),recovered:=false }]) ⟨tmps,[{ target:=.fn (.func 82) #[],args:=#[.pointer (some ⟨b,0,none⟩)] }]⟩ w:=by
 show Leaves Tryd.prog fn tmps R [{ target:=.fn (.func 82) #[],args:=#[.pointer (some ⟨b,0,none⟩)] }] (.panicking [{ v:=.iface 152 (.agg #[.int .i64 i]),recovered:=false }]) w
 refine leaves_cons (f:=82) (args:=#[.pointer (some ⟨b,0,none⟩)]) (by simp) (by simp [go_sem]) ?_
 refine (caught_hit b x i [] w (hS.at hj.ok)).mono ?_
 rintro e u' w' ⟨rfl,rfl,hk,hb⟩
 exact h w' (hS.mut hj.ok hk hb rfl)
theorem calls_panic {f:FuncId} {args:Array Value} {R:Ending→World→Prop} {c:List PanicEntry} (hS:St w0 X V L w) (hc:Calls Tryd.prog f args w fun r w'=>r=.panicked c∧Kp w w') (h:∀ w',St w0 X V L w'→R (.panicked c) w'):Calls Tryd.prog f args w R :=
 hc.mono fun e w' ⟨he,hk⟩=>by subst he;exact h w' (hS.kp hk)
def weightE (k:Wk) (v:Int):(Int × Int) × Int :=
 if beginE k [v]=0 then (if (Go.Wg.settle k (nowS k noneB)).isNone then (weightS k (nowS k noneB) v.toNat,0) else ((0,0),9)) else ((0,0),beginE k [v])
set_option maxRecDepth 20000 in
set_option maxHeartbeats 2000000 in
theorem Weight_ok (vv rv:Value) (k:Wk) (hk:WkIn V vv rv k) (hG:GV V) (hV:V.In w) (v:Int) :
  Calls Tryd.prog 54 #[.agg #[vv,rv],.int .i64 v] w fun r w'=>r=.returned (.tuple #[spanV (weightE k v).1,.int .i64 (weightE k v).2])∧Kp w w':=by
 have hk0:=hk
 obtain ⟨va,vcap,rfl,hvc,hvm,hve⟩:=hk0.ves.is
 obtain ⟨ra,rcap,rfl,hrc,hrm,hre⟩:=hk0.rdg.is
 have hS:=St.start w V hV
 clear hk0 hve hre
 by_cases hb:beginE k [v]=0
 ·have hok:=beginE_check hb
  obtain ⟨hv0,hv1⟩:=beginE_one hb
  obtain ⟨vn,rfl⟩:∃ vn:Nat,v=(vn:Int):=⟨v.toNat,by omega⟩
  have hv6:vn < 6:=by have:=hok.le;omega
  cases hst:Go.Wg.settle k (nowS k noneB) with
  | none =>
   have hcan:can k (nowS k noneB)=true:=by unfold can;rw [hst];rfl
   have hC:weightE k vn=(weightS k (nowS k noneB) vn,0):=by unfold weightE;rw [if_pos hb,hst];rfl
   rw [hC]
   simp only
   replace hC:=mkHid hC;replace hst:=mkHid hst;replace hcan:=mkHid hcan;replace hb:=mkHid hb
   go_enter_defers Tryd.func54,Tryd.ntmps54
   go_wp2_with (first | (first | ((first | ((with_reducible refine gL ?_);first | refine ql1 hS rfl rfl rfl ?_ | refine qln hS rfl rfl rfl ?_) | ((with_reducible refine gS ?_);first | refine qs1 hS rfl rfl rfl ?_ | refine qsall hS rfl rfl rfl ?_));refine ⟨_,zd,?_⟩;clear hS;(try clear w');intro a' hp;(try simp only [fr] at hp);subst hp;intro w' hS;(try simp only [sE] at hS)) | ((with_reducible refine gA ?_);refine qallocd 5 rfl hS rfl rfl ?_;clear hS;(try clear w');intro b5;intro a' hp;(try simp only [fr] at hp);subst hp;intro w' hS) | ((first | ((with_reducible refine gA ?_);refine qalloc hS rfl rfl ?_) | ((with_reducible refine gB ?_);refine qbox hS rfl rfl rfl ?_;refine ⟨_,za,?_⟩));clear hS;(try clear w');intro _;intro a' hp;(try simp only [fr] at hp);subst hp;intro w' hS)) | (((with_reducible refine gSl ?_);refine qbsl hS rfl rfl ?_;refine ⟨_,zq,zd,?_⟩;clear hS;(try clear w');intro _;intro a' hp;(try simp only [fr] at hp);subst hp;intro w' hS);obtain ⟨V1,hV1,hcell,hS'⟩:=pin hS;clear hS;have hS:=hS';clear hS';have hsl:=oneSl hcell;have hk1:=wkIn_mono hk hV1;clear hcell) |
    (go_at_call 77;refine calls_begin hS hk1 hsl (by simp) hb.out ?_;clear hS;(try clear w');intro p V' w' hVV hcel hS;have hG':GV V':=(hG.mono hV1).mono hVV) |
    (go_at_call 83;refine calls_by hS ⟨_,must_ok V' p k hcel hok hcan.out _ (St.view hS),?_⟩;clear hS;(try clear w');intro w' hS) |
    (go_at_call 99;refine calls_by hS ⟨_,weight_ok V' p k hcel hG' _ (nowS_wf _ _) vn hv6 _ (St.view hS),?_⟩;clear hS;(try clear w');intro w' hS))
   (refine door_idle hS ?_;clear hS;(try clear w');intro w' hS;(try simp only [sE] at hS);refine ⟨_,by exact results2 (r1:=.cell 4 27) (r2:=.cell 5 38) (by kernel_rfl) (by exact rs_n hS rfl zd) (by exact rs_1 hS rfl zd),?_⟩)
   exact ⟨rfl,hS.toKp⟩
  | some i =>
   have hC:weightE k vn=((0,0),9):=by unfold weightE;rw [if_pos hb,hst];rfl
   rw [hC]
   simp only
   replace hC:=mkHid hC;replace hst:=mkHid hst;replace hb:=mkHid hb
   go_enter_defers Tryd.func54,Tryd.ntmps54
   go_wp2_with (first | (first | ((first | ((with_reducible refine gL ?_);first | refine ql1 hS rfl rfl rfl ?_ | refine qln hS rfl rfl rfl ?_) | ((with_reducible refine gS ?_);refine qs1 hS rfl rfl rfl ?_));refine ⟨_,zd,?_⟩;clear hS;(try clear w');intro a' hp;(try simp only [fr] at hp);subst hp;intro w' hS;(try simp only [sE] at hS)) | ((with_reducible refine gA ?_);refine qallocd 5 rfl hS rfl rfl ?_;clear hS;(try clear w');intro b5;intro a' hp;(try simp only [fr] at hp);subst hp;intro w' hS) | ((first | ((with_reducible refine gA ?_);refine qalloc hS rfl rfl ?_) | ((with_reducible refine gB ?_);refine qbox hS rfl rfl rfl ?_;refine ⟨_,za,?_⟩));clear hS;(try clear w');intro _;intro a' hp;(try simp only [fr] at hp);subst hp;intro w' hS)) | (((with_reducible refine gSl ?_);refine qbsl hS rfl rfl ?_;refine ⟨_,zq,zd,?_⟩;clear hS;(try clear w');intro _;intro a' hp;(try simp only [fr] at hp);subst hp;intro w' hS);obtain ⟨V1,hV1,hcell,hS'⟩:=pin hS;clear hS;have hS:=hS';clear hS';have hsl:=oneSl hcell;have hk1:=wkIn_mono hk hV1;clear hcell) |
    (go_at_call 77;refine calls_begin hS hk1 hsl (by simp) hb.out ?_;clear hS;(try clear w');intro p V' w' hVV hcel hS;have hG':GV V':=(hG.mono hV1).mono hVV) |
    (go_at_call 83;refine calls_panic hS (must_no V' p k hcel hok i hst.out _ (St.view hS)) ?_;clear hS;(try clear w');intro w' hS))
   (refine door_hit hS ?_;clear hS;(try clear w');intro w' hS;(try simp only [sE] at hS);refine ⟨_,by exact results2 (r1:=.cell 4 27) (r2:=.cell 5 38) (by kernel_rfl) (by exact rs_n hS rfl zd) (by exact rs_1 hS rfl zd),?_⟩)
   exact ⟨rfl,hS.toKp⟩
 ·have hC:weightE k v=((0,0),beginE k [v]):=by unfold weightE;rw [if_neg hb]
  rw [hC]
  simp only
  have hb':(beginE k [v] == 0)=false:=by rw [beq_eq_false_iff_ne];exact hb
  have hE:Go.RowKit.Hid (∃ e,beginE k [v]=e):=mkHid ⟨_,rfl⟩
  obtain ⟨e,he⟩:=hE.out
  rw [he] at hb' ⊢
  replace hC:=mkHid hC;replace he:=mkHid he
  go_enter_defers Tryd.func54,Tryd.ntmps54
  go_wp2_with (first | (first | ((first | ((with_reducible refine gL ?_);first | refine ql1 hS rfl rfl rfl ?_ | refine qln hS rfl rfl rfl ?_) | ((with_reducible refine gS ?_);refine qs1 hS rfl rfl rfl ?_));refine ⟨_,zd,?_⟩;clear hS;(try clear w');intro a' hp;(try simp only [fr] at hp);subst hp;intro w' hS;(try simp only [sE] at hS)) | ((with_reducible refine gA ?_);refine qallocd 5 rfl hS rfl rfl ?_;clear hS;(try clear w');intro b5;intro a' hp;(try simp only [fr] at hp);subst hp;intro w' hS) | ((first | ((with_reducible refine gA ?_);refine qalloc hS rfl rfl ?_) | ((with_reducible refine gB ?_);refine qbox hS rfl rfl rfl ?_;refine ⟨_,za,?_⟩));clear hS;(try clear w');intro _;intro a' hp;(try simp only [fr] at hp);subst hp;intro w' hS)) | (((with_reducible refine gSl ?_);refine qbsl hS rfl rfl ?_;refine ⟨_,zq,zd,?_⟩;clear hS;(try clear w');intro _;intro a' hp;(try simp only [fr] at hp);subst hp;intro w' hS);obtain ⟨V1,hV1,hcell,hS'⟩:=pin hS;clear hS;have hS:=hS';clear hS';have hsl:=oneSl hcell;have hk1:=wkIn_mono hk hV1;clear hcell) |
   (go_at_call 77;refine calls_begin_bad hS hk1 hsl (by simp) hb ?_;rw [he.out];clear hS;(try clear w');intro w' hS))
  (refine held_start (S:=(St w [] V1 [.blk b5 38 [.int .i64 e]])) [false,false,false,false] rfl (by kernel_rfl) ?_;replace hS:=St.drew1 hS;(iterate 2 ((first | refine hxp 0 rfl ?_ | refine hxa 1 rfl ?_);intro a' l' hp hl;(try simp only [fr] at hp);(try simp only [sB] at hl);subst hp;subst hl));((refine he_sall 2 (by kernel_rfl) rfl hS rfl  rfl rfl ?_;refine ⟨_,zd,?_⟩);clear hS;(try clear w');intro a' l' hp hl;(try simp only [fr] at hp);(try simp only [sB] at hl);subst hp;subst hl;intro w' hS;(try simp only [sE] at hS);refine ⟨(St.subI hS),?_⟩);((refine he_s1 3 (by kernel_rfl) rfl hS rfl  rfl rfl ?_;refine ⟨_,zd,?_⟩);clear hS;(try clear w');intro a' l' hp hl;(try simp only [fr] at hp);(try simp only [sB] at hl);subst hp;subst hl;intro w' hS;(try simp only [sE] at hS);refine ⟨(St.subI hS),?_⟩);refine wpAnyH_done (by kernel_rfl) ?_ _)
  go_wp2_with (fail)
  (refine door_idle hS ?_;clear hS;(try clear w');intro w' hS;(try simp only [sE] at hS);refine ⟨_,by exact results2 (r1:=.cell 4 27) (r2:=.cell 5 38) (by kernel_rfl) (by exact rs_n hS rfl zd) (by exact rs_1 hS rfl zd),?_⟩)
  exact ⟨by rfl,(hS.toKp)⟩
end Go.Proofs.YtjjmefieegcddaaDoor
