/- A part of the proof: W77, W78, S26, W81, S27. -/
import Derived.Test.YtjjmefieegcddaaDoorC24
import Derived.Test.YtjjmefieegcddaaDoorC23
import Derived.Test.YtjjmefieegcddaaDoorC14
set_option linter.unusedVariables false
set_option linter.unusedSimpArgs false
set_option maxHeartbeats 8000000
namespace Go.Proofs.YtjjmefieegcddaaDoor
open Go.RowKit Go.Wg Go.Mm
variable {w:World} {V:View}
theorem qB {a b:Value} (h1:a.oneCell'=true) (h2:b.oneCell'=true):∀ v∈[a,b],v.oneCell'=true:=fun v hv=>by
 rcases List.mem_cons.1 hv with rfl | hv
 ·exact h1
 ·rw [List.mem_singleton] at hv;subst hv;exact h2
theorem F6 {P:Program} {w0:World} {X:List Nat} {L:List dF} (hS:St w0 X V L w) {o:Oper} {ρ:Operand→Value} {sl x:Operand} {t e:TypeId} {size:Nat} (ho:o.op=.call { callee:=.builtin .append,args:=#[sl,x],argTypes:=#[t,t] })
  (ht:Yv P t e size=true) {j n:Nat} {v:Value} {xs:List Value} (hj:L[j]? = some (.row v e size n xs)) (hv:ρ sl=v)
  {b off m c:Nat} {news:List Value} (hjb:V.Range b off news) (hx:ρ x=.slice (some ⟨b,off,none⟩) m c) (hm:news.length=m * size) (h1:∀ u∈news,u.oneCell'=true) (hn:n+m≤1000) :
  ∃ v' w',(execOp ρ o).run P w=.ok (.value v') w'∧St w0 X V (L.set j (.row v' e size (n+m) (xs ++ news))) w':=by
 have hcell:∀ i u,news[i]? = some u→w.cell? ⟨b,off+i,none⟩=some u:=fun i u hi=>(hjb i u hi).cell hS.view
 unfold Yv at ht
 simp only [Bool.and_eq_true] at ht
 obtain ⟨⟨ht1,ht2⟩,ht3⟩:=ht
 have hu:P.underlying t=some (.slice e):=by
  cases hd:P.underlying t with
  | none=>rw [hd] at ht1;cases ht1
  | some d=>rw [hd] at ht1;cases d <;> simp_all
 cases hq:P.info? e with
 | none=>rw [hq] at ht2;cases ht2
 | some q =>
  rw [hq] at ht2
  simp only [Option.any_some,Bool.and_eq_true,beq_iff_eq,decide_eq_true_eq] at ht2
  obtain ⟨⟨hqs,hqz⟩,hqb⟩:=ht2
  cases hz:q.zero with
  | none=>rw [hz] at hqz;cases hqz
  | some z =>
   rw [hz] at hqz
   simp only [Option.any_some,Bool.and_eq_true,beq_iff_eq] at hqz
   obtain ⟨hqz,hqf⟩:=hqz
   have hsz:0 < size:=by simpa using ht3
   obtain ⟨v',w',hr,h2,h3,_,h5⟩:=run_append_own_at (P:=P) w 0 t o.type e q z size q.bytes hu hq hz hqs rfl hqz hsz v n xs (hS.wu hj) ⟨b,off,none⟩ m c news hm
    (fun i u hi=>by rw [Addr.add_mid];exact hcell i u hi) h1 (by unfold maxLen;omega) (by
     have:(n+m) * q.bytes≤1000 * 1000:=Nat.mul_le_mul hn hqb
     omega) (Nat.zero_le _)
   refine ⟨v',w',?_,hS.grow hj h3 h2 (hqs ▸ yw (P:=P) hu hq hz hqf (hqs ▸ hS.wu hj) (hqs ▸ hS.Wj hj) (a:=⟨b,off,none⟩) (hqs ▸ hm) (fun i u hi=>by rw [Addr.add_mid];exact hcell i u hi) h1 (by unfold maxLen;omega) (by
     have:(n+m) * q.bytes≤1000 * 1000:=Nat.mul_le_mul hn hqb
     omega) hr) h5⟩
   unfold execOp
   simp only [ho,resolve,invoke,builtin,Sem.run_bind,Sem.run_pure,Result.andThen_ok,List.map_toArray,List.map_cons,List.map_nil,hv,hx,hr]
end Go.Proofs.YtjjmefieegcddaaDoor
namespace Go.Wg
open Go Go.Mm Go.Proofs.YtjjmefieegcddaaDoor
def LJ (k:Wk) (v:Nat):Nat→Nat→Bool
 | 0,_=>false
 | f+1,i=>i == v || (decide (0≤(k.v i).from_) && LJ k v f (k.v i).from_.toNat)
def inB (k:Wk) (v i:Nat):Bool:=LJ k v (i+1) i
def cB (k:Wk) (v i:Nat):Nat:=((List.range i).filter (inB k v)).length
def lq (k:Wk) (v i:Nat):Int:=if inB k v i then (cB k v i:Int) else -1
def DK (k:Wk) (v i:Nat):nN:=⟨if i=v then -1 else lq k v (k.v i).from_.toNat,(k.v i).room,(k.v i).lo,(k.v i).hi⟩
def Oj (k:Wk) (v:Nat) (r:je):je:=⟨lq k v r.vessel.toNat,r.scale,r.shown,r.err⟩
def rF (k:Wk) (v m:Nat):List nN:=((List.range m).filter (inB k v)).map (DK k v)
def kQ (k:Wk) (v m:Nat):List je:=((k.rdg.take m).filter fun r=>inB k v r.vessel.toNat).map (Oj k v)
def Wk.branch (k:Wk) (v:Nat):Wk:=⟨rF k v k.n,kQ k v k.rdg.length⟩
theorem RX {k:Wk} (hok:k.Ok) (v:Nat):∀ (f g i:Nat),i < f→i < g→i < k.n→LJ k v f i=LJ k v g i:=fun f=>by
 induction f with
 | zero=>exact fun g i h=>absurd h (by omega)
 | succ f ih =>
  intro g i hf hg hi
  obtain ⟨g,rfl⟩:∃ g',g=g'+1:=⟨g - 1,by omega⟩
  rw [LJ,LJ]
  by_cases h:0≤(k.v i).from_
  ·have h2:=(hok.ves i hi).2.1
   rw [ih g (k.v i).from_.toNat (by omega) (by omega) (by omega)]
  ·simp [h]
theorem kJ {k:Wk} (hok:k.Ok) (v:Nat) {i:Nat} (hi:i < k.n):inB k v i=(i == v || (decide (0≤(k.v i).from_) && inB k v (k.v i).from_.toNat)):=by
 unfold inB
 rw [LJ]
 by_cases h:0≤(k.v i).from_
 ·have h2:=(hok.ves i hi).2.1
  rw [RX hok v i ((k.v i).from_.toNat+1) (k.v i).from_.toNat (by omega) (by omega) (by omega)]
 ·simp [h]
theorem DN {k:Wk} (hok:k.Ok) (v:Nat) (i:Nat):i < k.n→inB k v i=true→v≤i:=by
 induction i using Nat.strongRecOn with
 | ind i ih =>
  intro hi h
  rw [kJ hok v hi,Bool.or_eq_true,Bool.and_eq_true,beq_iff_eq,decide_eq_true_eq] at h
  rcases h with h | ⟨h1,h2⟩
  ·omega
  ·have h3:=(hok.ves i hi).2.1
   have:=ih _ (by omega) (by omega) h2
   omega
theorem gq (k:Wk) (v:Nat):inB k v v=true:=by
 unfold inB
 rw [LJ]
 simp
theorem yZ (k:Wk) (v i:Nat):cB k v (i+1)=cB k v i+if inB k v i then 1 else 0:=by
 unfold cB
 rw [List.range_succ,List.filter_append,List.length_append]
 by_cases h:inB k v i=true <;> simp [h]
theorem XU (k:Wk) (v:Nat) {i j:Nat} (h:i≤j):cB k v i≤cB k v j:=by
 induction j with
 | zero =>
  obtain rfl:i=0:=by omega
  exact Nat.le_refl _
 | succ j ih =>
  rw [yZ]
  by_cases e:i=j+1
  ·subst e;rw [yZ];omega
  ·have:=ih (by omega);omega
theorem vH (k:Wk) (v:Nat) {i j:Nat} (h:i < j) (hi:inB k v i=true):cB k v i < cB k v j:=by
 have h1:=XU k v h
 rw [Nat.succ_eq_add_one,yZ,if_pos hi] at h1
 omega
theorem ZC (k:Wk) (v:Nat) {i j:Nat} (hi:inB k v i=true) (hj:inB k v j=true) (h:cB k v i=cB k v j):i=j:=by
 rcases Nat.lt_trichotomy i j with h1 | h1 | h1
 ·have:=vH k v h1 hi;omega
 ·exact h1
 ·have:=vH k v h1 hj;omega
theorem VQ (k:Wk) (v i:Nat):cB k v i≤i:=by
 have:=List.length_filter_le (inB k v) (List.range i)
 rwa [List.length_range] at this
theorem Ld (k:Wk) (v i:Nat):lq k v i < 0↔inB k v i=false:=by
 unfold lq
 by_cases h:inB k v i=true
 ·rw [if_pos h,h]
  exact ⟨fun h2=>by omega,fun h2=>nomatch h2⟩
 ·rw [if_neg h]
  exact ⟨fun _=>by simpa using h,fun _=>by decide⟩
theorem PO (k:Wk) (v m:Nat):rF k v (m+1)=if inB k v m then rF k v m ++ [DK k v m] else rF k v m:=by
 unfold rF
 rw [List.range_succ,List.filter_append,List.map_append]
 by_cases h:inB k v m=true <;> simp [h]
theorem Gp (k:Wk) (v m:Nat):(rF k v m).length=cB k v m:=by simp [rF,cB]
theorem NH (k:Wk) (v:Nat) {m:Nat} (hm:m < k.rdg.length):kQ k v (m+1)=if inB k v (k.rdg.getD m default).vessel.toNat then kQ k v m ++ [Oj k v (k.rdg.getD m default)] else kQ k v m:=by
 unfold kQ
 rw [List.take_add_one,List.getElem?_eq_getElem hm,List.filter_append,List.map_append]
 have e:k.rdg.getD m default=k.rdg[m]:=by simp [List.getD_eq_getElem?_getD,List.getElem?_eq_getElem hm]
 rw [e]
 by_cases h:inB k v (k.rdg[m]).vessel.toNat=true <;> simp [h]
theorem wG (k:Wk) (v m:Nat):(kQ k v m).length≤m:=by
 unfold kQ
 rw [List.length_map]
 have:=List.length_filter_le (fun r=>inB k v r.vessel.toNat) (k.rdg.take m)
 rw [List.length_take] at this
 omega
theorem jy (k:Wk) (v:Nat):(k.branch v).n=cB k v k.n:=Gp k v k.n
def gB (k:Wk) (v p:Nat):Nat:=((List.range k.n).filter (inB k v)).getD p 0
theorem Yt (k:Wk) (v:Nat) {i m:Nat} (hi:i < m) (hb:inB k v i=true):((List.range m).filter (inB k v))[cB k v i]? = some i:=by
 induction m with
 | zero=>omega
 | succ m ih =>
  rw [List.range_succ,List.filter_append]
  by_cases e:i=m
  ·subst e
   rw [List.getElem?_append_right (by unfold cB;omega)]
   simp [cB,hb]
  ·have h1:=ih (by omega)
   rw [List.getElem?_append_left (List.getElem?_eq_some_iff.1 h1).1]
   exact h1
theorem Lj (k:Wk) (v:Nat) {i:Nat} (hi:i < k.n) (hb:inB k v i=true):gB k v (cB k v i)=i:=by
 unfold gB
 rw [List.getD_eq_getElem?_getD,Yt k v hi hb]
 rfl
theorem uV (k:Wk) (v:Nat) {p:Nat} (hp:p < cB k v k.n):gB k v p < k.n∧inB k v (gB k v p)=true:=by
 have h:gB k v p∈(List.range k.n).filter (inB k v):=by
  unfold gB
  have hp':p < ((List.range k.n).filter (inB k v)).length:=hp
  rw [List.getD_eq_getElem?_getD,List.getElem?_eq_getElem hp']
  exact List.getElem_mem hp'
 obtain ⟨h1,h2⟩:=List.mem_filter.1 h
 exact ⟨List.mem_range.1 h1,h2⟩
theorem Qo (k:Wk) (v:Nat) {p:Nat} (hp:p < cB k v k.n):cB k v (gB k v p)=p:=by
 obtain ⟨h1,h2⟩:=uV k v hp
 have h3:=Yt k v h1 h2
 have hp':p < ((List.range k.n).filter (inB k v)).length:=hp
 have h4:((List.range k.n).filter (inB k v))[p]? = some (gB k v p):=by
  unfold gB
  rw [List.getD_eq_getElem?_getD,List.getElem?_eq_getElem hp']
  rfl
 have hpw:((List.range k.n).filter (inB k v)).Pairwise (· < ·):=List.pairwise_lt_range.filter _
 obtain ⟨q1,q2⟩:=List.getElem?_eq_some_iff.1 h3
 obtain ⟨q3,q4⟩:=List.getElem?_eq_some_iff.1 h4
 have hlt:=List.pairwise_iff_getElem.1 hpw
 rcases Nat.lt_trichotomy (cB k v (gB k v p)) p with h | h | h
 ·have:=hlt _ _ q1 q3 h
  omega
 ·exact h
 ·have:=hlt _ _ q3 q1 h
  omega
theorem zM (k:Wk) (v:Nat) {p:Nat} (hp:p < cB k v k.n):(k.branch v).v p=DK k v (gB k v p):=by
 have hp':p < ((List.range k.n).filter (inB k v)).length:=hp
 show (rF k v k.n).getD p default=_
 unfold rF gB
 simp [List.getD_eq_getElem?_getD,List.getElem?_map,List.getElem?_eq_getElem hp']
theorem Zc (k:Wk) (v:Nat):(List.range (cB k v k.n)).map (gB k v)=(List.range k.n).filter (inB k v):=by
 refine List.ext_getElem? fun p=>?_
 by_cases hp:p < cB k v k.n
 ·have hp':p < ((List.range k.n).filter (inB k v)).length:=hp
  simp [List.getElem?_map,hp,gB,List.getD_eq_getElem?_getD,List.getElem?_eq_getElem hp']
 ·rw [List.getElem?_eq_none (by simp;omega),List.getElem?_eq_none (by show cB k v k.n≤p;omega)]
theorem I7 {k:Wk} (hok:k.Ok) (v:Nat) {p:Nat} (hp:p < cB k v k.n):((k.branch v).fills p).map (gB k v)=k.fills (gB k v p):=by
 obtain ⟨g1,g2⟩:=uV k v hp
 have h1:(k.branch v).fills p=(List.range (cB k v k.n)).filter ((fun i=>(DK k v i).from_ == (p:Int)) ∘ gB k v):=by
  unfold Wk.fills
  rw [jy]
  refine List.filter_congr fun q hq=>?_
  rw [zM k v (List.mem_range.1 hq)]
  rfl
 rw [h1,← List.filter_map,Zc,List.filter_filter]
 unfold Wk.fills
 refine List.filter_congr fun i hi=>?_
 have hi:=List.mem_range.1 hi
 obtain ⟨o1,o2,_⟩:=hok.ves i hi
 rw [Bool.eq_iff_iff,Bool.and_eq_true,beq_iff_eq,beq_iff_eq]
 constructor
 ·rintro ⟨h2,h3⟩
  unfold DK at h2
  simp only at h2
  by_cases e:i=v
  ·rw [if_pos e] at h2;omega
  ·rw [if_neg e] at h2
   rw [kJ hok v hi,Bool.or_eq_true,Bool.and_eq_true,beq_iff_eq,decide_eq_true_eq] at h3
   rcases h3 with h3 | ⟨h3,h4⟩
   ·exact absurd h3 e
   ·unfold lq at h2
    rw [if_pos h4] at h2
    have h5:=Lj k v (i:=(k.v i).from_.toNat) (by omega) h4
    rw [show cB k v (k.v i).from_.toNat=p by omega] at h5
    omega
 ·intro h2
  have e2:(k.v i).from_.toNat=gB k v p:=by omega
  have h3:inB k v i=true:=by
   rw [kJ hok v hi,e2,g2]
   simp
   omega
  have hge:=DN hok v _ g1 g2
  refine ⟨?_,h3⟩
  unfold DK
  simp only
  rw [if_neg (by omega),e2]
  unfold lq
  rw [if_pos g2,Qo k v hp]
theorem J9 {k:Wk} (hok:k.Ok) (s:SS):∀ m,m≤k.n→∀ i,k.n - m≤i→i < k.n→(mJ k s m).getD i 0=(up k s).getD i 0:=by
 have key:∀ d m,m+d≤k.n→∀ i,k.n - m≤i→i < k.n→(mJ k s (m+d)).getD i 0=(mJ k s m).getD i 0:=fun d=>by
  induction d with
  | zero=>exact fun _ _ _ _ _=>rfl
  | succ d ih =>
   intro m hm i h1 h2
   have hl:=kZ k s (m+d)
   have h6:=hok.le
   rw [show m+(d+1)=(m+d)+1 by omega,mJ,fC _ _ _ _ _ (by omega),if_neg (by omega)]
   exact ih m (by omega) i h1 h2
 intro m hm i h1 h2
 have:=key (k.n - m) m (by omega) i h1 h2
 rw [show m+(k.n - m)=k.n by omega] at this
 exact this.symm
theorem OL {out out':List Nat} {f:List Nat} (h:∀ x∈f,out.getD x 0=out'.getD x 0):sums out f=sums out' f:=by
 have key:∀ (f:List Nat) (m:Nat),(∀ x∈f,out.getD x 0=out'.getD x 0)→f.foldl (fun m x=>nV m (out.getD x 0)) m=f.foldl (fun m x=>nV m (out'.getD x 0)) m:=fun f=>by
  induction f with
  | nil=>exact fun _ _=>rfl
  | cons x f ih =>
   intro m h
   rw [List.foldl_cons,List.foldl_cons,h x (by simp)]
   exact ih _ fun y hy=>h y (by simp [hy])
 exact key f 1 h
theorem aaT {k:Wk} (hok:k.Ok) (s:SS) {i:Nat} (hi:i < k.n):(up k s).getD i 0=if k.fills i=[] then s.aK i else s.aK i &&& nV (sums (up k s) (k.fills i)) (dO (s.aP i).1 (s.aP i).2):=by
 have h6:=hok.le
 have hl:=kZ k s (k.n - 1 - i)
 have h1:=J9 hok s (k.n - 1 - i+1) (by omega) i (by omega) hi
 rw [← h1,mJ,show k.n - 1 - (k.n - 1 - i)=i by omega,fC _ _ _ _ _ (by omega),if_pos rfl]
 unfold uX
 by_cases h:k.fills i=[]
 ·rw [if_pos h,if_pos h]
 ·rw [if_neg h,if_neg h]
  congr 2
  refine OL fun x hx=>?_
  have hx:=rV hok hx
  rw [fC _ _ _ _ _ (by omega),if_neg (by omega)]
  exact J9 hok s _ (by omega) x (by omega) hx.2
theorem kP {k:Wk} (hok:k.Ok) {v:Nat} (hv:v < k.n):(k.branch v).Ok:=by
 have h0:0 < cB k v k.n:=by
  have:=vH k v hv (gq k v)
  omega
 have h6:=hok.le
 have hcl:=VQ k v k.n
 refine ⟨by rw [jy];exact h0,by rw [jy];omega,fun p hp=>?_,?_,fun q hq=>?_⟩
 ·rw [jy] at hp
  obtain ⟨g1,g2⟩:=uV k v hp
  obtain ⟨o1,o2,o3⟩:=hok.ves _ g1
  rw [zM k v hp]
  refine ⟨?_,?_,o3⟩
  ·show -1≤(DK k v (gB k v p)).from_
   unfold DK lq
   simp only
   split
   ·omega
   ·split <;> omega
  ·show (DK k v (gB k v p)).from_ < p
   unfold DK
   simp only
   split
   ·omega
   ·next e =>
    rw [kJ hok v g1,Bool.or_eq_true,Bool.and_eq_true,beq_iff_eq,decide_eq_true_eq] at g2
    rcases g2 with g2 | ⟨g2,g3⟩
    ·exact absurd g2 e
    ·unfold lq
     rw [if_pos g3]
     have:=vH k v (i:=(k.v (gB k v p)).from_.toNat) (j:=gB k v p) (by omega) g3
     rw [Qo k v hp] at this
     omega
 ·have:=wG k v k.rdg.length
  have:=hok.rdl
  show (kQ k v k.rdg.length).length≤6
  omega
 ·rw [jy]
  have hq':q < (kQ k v k.rdg.length).length:=hq
  have hm:(k.branch v).rdg.getD q default∈kQ k v k.rdg.length:=by
   show (kQ k v k.rdg.length).getD q default∈_
   rw [List.getD_eq_getElem?_getD,List.getElem?_eq_getElem hq']
   exact List.getElem_mem hq'
  obtain ⟨r,hr,he⟩:=List.mem_map.1 hm
  obtain ⟨hr1,hr2⟩:=List.mem_filter.1 hr
  rw [List.take_length] at hr1
  obtain ⟨j,hj,hjr⟩:=List.getElem_of_mem hr1
  have hro:=hok.rdg j hj
  have e:k.rdg.getD j default=r:=by simp [List.getD_eq_getElem?_getD,List.getElem?_eq_getElem hj,hjr]
  rw [e] at hro
  obtain ⟨o1,o2,o3⟩:=hro
  rw [← he]
  refine ⟨?_,?_,o3⟩
  ·show 0≤lq k v r.vessel.toNat
   unfold lq
   rw [if_pos hr2]
   omega
  ·show lq k v r.vessel.toNat < _
   unfold lq
   rw [if_pos hr2]
   have:=vH k v (i:=r.vessel.toNat) (j:=k.n) (by omega) hr2
   omega
theorem Vm (k:Wk) (h6:k.n≤6) (m:Nat) (hm:m≤k.n) (i:Nat):(lS k m).aK i=if i < m then dO 0 (k.v i).room else 0:=by
 induction m with
 | zero =>
  show (List.replicate 6 0).getD i 0=_
  rw [List.getD_eq_getElem?_getD,List.getElem?_replicate]
  split <;> simp
 | succ m ih =>
  have hl:=(nX k m).lim
  show ((lS k m).lim.set m (dO 0 (k.v m).room)).getD i 0=_
  rw [fC _ _ _ _ _ (by omega)]
  have ih':(lS k m).lim.getD i 0=_:=ih (by omega)
  by_cases e:m=i
  ·subst e;simp
  ·rw [if_neg e,ih']
   by_cases h2:i < m
   ·rw [if_pos h2,if_pos (by omega)]
   ·rw [if_neg h2,if_neg (by omega)]
def BD (x:Nat) (l:List je):Nat:=l.foldl (fun m r=>m &&& dO (r.shown - r.err) (r.shown+r.err)) x
theorem Dh {k:Wk} (h6:k.n≤6) (hr:∀ r∈k.rdg,0≤r.vessel∧r.vessel < k.n) (b:je→Bool) {i:Nat} (hi:i < k.n):(aN k b).aK i=BD (dO 0 (k.v i).room) (k.rdg.filter fun r=>!b r && r.vessel.toNat == i):=by
 have key:∀ (l:List je) (s:SS),s.WF→(∀ r∈l,0≤r.vessel∧r.vessel < k.n)→(l.foldl (lU b) s).aK i=BD (s.aK i) (l.filter fun r=>!b r && r.vessel.toNat == i):=fun l=>by
  induction l with
  | nil=>exact fun _ _ _=>rfl
  | cons r l ih =>
   intro s hs hl
   have hl0:=hl r (by simp)
   have hsl:=hs.lim
   rw [List.foldl_cons,ih _ (J7 hs r) fun x hx=>hl x (by simp [hx])]
   unfold lU
   by_cases hb:b r=true
   ·simp [hb]
   ·rw [if_neg hb]
    have e1:(s.cu r.vessel.toNat (s.aK r.vessel.toNat &&& dO (r.shown - r.err) (r.shown+r.err))).aK i=if r.vessel.toNat=i then s.aK r.vessel.toNat &&& dO (r.shown - r.err) (r.shown+r.err) else s.aK i:=fC _ _ _ _ _ (by omega)
    rw [e1]
    by_cases e:r.vessel.toNat=i
    ·subst e
     simp [hb,BD]
    ·simp [e]
 unfold aN
 rw [key k.rdg _ (nX k _) hr,Vm k h6 k.n (Nat.le_refl _),if_pos hi]
theorem yF {k:Wk} (hok:k.Ok):∀ r∈k.rdg,0≤r.vessel∧r.vessel < k.n:=fun r hr=>by
 obtain ⟨j,hj,hjr⟩:=List.getElem_of_mem hr
 have hro:=hok.rdg j hj
 have e:k.rdg.getD j default=r:=by simp [List.getD_eq_getElem?_getD,List.getElem?_eq_getElem hj,hjr]
 rw [e] at hro
 exact ⟨hro.1,hro.2.1⟩
theorem RZ (x:Nat) (l:List je) (f:je→je) (h:∀ r,(f r).shown=r.shown∧(f r).err=r.err):BD x (l.map f)=BD x l:=by
 unfold BD
 rw [List.foldl_map]
 congr 1
 funext m r
 rw [(h r).1,(h r).2]
theorem NW {k:Wk} (hok:k.Ok) {v:Nat} (hv:v < k.n) {p:Nat} (hp:p < cB k v k.n):(aN (k.branch v) aC).aK p=(aN k aC).aK (gB k v p):=by
 have hb:=kP hok hv
 obtain ⟨g1,g2⟩:=uV k v hp
 rw [Dh hb.le (yF hb) aC (by rw [jy];exact hp),Dh hok.le (yF hok) aC g1,zM k v hp]
 have e:(k.branch v).rdg.filter (fun r=>!aC r && r.vessel.toNat == p)=(k.rdg.filter fun r=>!aC r && r.vessel.toNat == gB k v p).map (Oj k v):=by
  show (kQ k v k.rdg.length).filter _=_
  unfold kQ
  rw [List.take_length,List.filter_map,List.filter_filter]
  congr 1
  refine List.filter_congr fun r hr=>?_
  obtain ⟨r1,r2⟩:=yF hok r hr
  rw [Bool.eq_iff_iff]
  simp only [aC,Bool.not_false,Bool.true_and,Function.comp,Bool.and_eq_true,beq_iff_eq]
  constructor
  ·rintro ⟨h1,h2⟩
   unfold Oj lq at h1
   simp only at h1
   rw [if_pos h2] at h1
   have:=Lj k v (i:=r.vessel.toNat) (by omega) h2
   rw [← this]
   congr 1
  ·intro h1
   rw [h1]
   refine ⟨?_,g2⟩
   unfold Oj lq
   simp only
   rw [h1,if_pos g2,Qo k v hp]
   omega
 rw [e,RZ _ _ (Oj k v) fun r=>⟨rfl,rfl⟩]
 rfl
theorem Oz {k:Wk} (hok:k.Ok) {v:Nat} (hv:v < k.n) {p:Nat} (hp:p < cB k v k.n):(aN (k.branch v) aC).aP p=(aN k aC).aP (gB k v p):=by
 have hb:=kP hok hv
 obtain ⟨g1,_⟩:=uV k v hp
 rw [rW _ hb,rW _ hok,if_pos (by rw [jy];exact hp),if_pos g1,zM k v hp]
 rfl
end Go.Wg
namespace Go.Proofs.YtjjmefieegcddaaDoor
open Go.RowKit Go.Wg Go.Mm
variable {w:World} {V:View}
theorem TV {w0:World} {X:List Nat} {L:List dF} {v:Value} {t:TypeId} {s n:Nat} {xs:List Value} (h:St w0 X V (.row v t s n xs :: L) w):∃ a cap,v=.slice a n cap:=by
 rcases rO h with ⟨rfl,h0⟩ | ⟨g,cap,_,rfl,_⟩
 ·exact ⟨none,0,by rw [h0]⟩
 ·exact ⟨_,_,rfl⟩
theorem X4 {k:Wk} {v i:Nat} {N:List Int} (hN:N.length=k.n) (hi:i < k.n) (h:∀ j,j < i→N.getD j 0=lq k v j) {x:Int} (hx:x=lq k v i):∀ j,j < i+1→((N.set i (-1)).set i x).getD j 0=lq k v j:=fun j hj=>by
 rw [List.set_set,fC _ _ _ _ _ (by omega)]
 by_cases e:i=j
 ·subst e;rw [if_pos rfl,hx]
 ·rw [if_neg e];exact h j (by omega)
theorem VU {k:Wk} {v i:Nat} {N:List Int} (hN:N.length=k.n) (hi:i < k.n) (h:∀ j,j < i→N.getD j 0=lq k v j) (hx:inB k v i=false):∀ j,j < i+1→(N.set i (-1)).getD j 0=lq k v j:=fun j hj=>by
 rw [fC _ _ _ _ _ (by omega)]
 by_cases e:i=j
 ·subst e;rw [if_pos rfl];unfold lq;rw [hx];rfl
 ·rw [if_neg e];exact h j (by omega)
theorem XO {k:Wk} {v i:Nat} (h:inB k v i=true):lq k v i=(cB k v i:Int):=by
 unfold lq
 rw [if_pos h]
set_option maxRecDepth 40000 in
theorem Rq {vv rv:Value} {k:Wk} (hk:iJ V vv rv k) (hok:k.Ok) {v:Nat} (hv:v < k.n) (hV:V.In w) :
  Calls Tryd.prog 35 #[.agg #[vv,rv],.int .i64 (v:Int)] w fun e w'=>∃ vv' rv',e=.returned (.agg #[vv',rv']) ∧
   St w [] V [.row vv' 29 4 (k.branch v).n (fD (k.branch v).ves),.row rv' 59 4 (k.branch v).rdg.length (fH (k.branch v).rdg)] w':=by
 obtain ⟨va,vcap,rfl,hvc,hvm,hve⟩:=hk.ves.is
 obtain ⟨ra,rcap,rfl,hrc,hrm,hre⟩:=hk.rdg.is
 obtain ⟨vg,vo,rfl,hvr⟩:=hve (by omega)
 have hn6:=hok.le
 have hr6:=hok.rdl
 have hS:=St.start w V hV
 clear hk hve
 go_enter Tryd.func35,Tryd.ntmps35
 go_wp2_with (first | (first | (((with_reducible refine gL ?_);refine gY hS rfl rfl rfl ?_);refine ⟨_,zd,?_⟩;clear hS;(try clear w');intro a' hp;(try simp only [fr] at hp);subst hp;intro w' hS;(try simp only [sE] at hS)) | ((with_reducible refine gB ?_);refine iK 2 rfl hS rfl rfl rfl ?_;refine ⟨_,za,?_⟩;clear hS;(try clear w');intro b2;intro a' hp;(try simp only [fr] at hp);subst hp;intro w' hS) | ((with_reducible refine gA ?_);refine aT 4 rfl hS rfl rfl ?_;clear hS;(try clear w');intro b4;intro a' hp;(try simp only [fr] at hp);subst hp;intro w' hS) | ((with_reducible refine gA ?_);refine aT 6 rfl hS rfl rfl ?_;clear hS;(try clear w');intro b6;intro a' hp;(try simp only [fr] at hp);subst hp;intro w' hS)) | ((with_reducible refine gMk ?_);refine U6 14 rfl hS rfl rfl rfl rfl (by omega) ?_;clear hS;(try clear w');intro b14;intro a' hp;(try simp only [fr] at hp);subst hp;intro w' hS))
 replace hS:=hS.nilRow 29 4
 have hN0:(List.replicate k.n (0:Int)).length=k.n:=List.length_replicate
 go_loopw [7] (fun iv wr=>∃ (i:Nat) (va:Value) (N:List Int),iv=.int .i64 (i:Int)∧i≤k.n∧N.length=k.n∧(∀ j,j < i→N.getD j 0=lq k v j) ∧
  St w [] V [.row va 29 4 (cB k v i) (fD (rF k v i)),.blk b6 25 [va,.slice none 0 0],.blk b14 3 (aV N),.blk b4 25 [.slice none 0 0,.slice none 0 0],.blk b2 25 [.slice (some ⟨vg,vo,none⟩) k.n vcap,.slice ra k.rdg.length rcap]] wr) (fun iv _=>k.n - (intOf iv).toNat)
 case atStart=>exact ⟨0,.slice none 0 0,_,rfl,by omega,hN0,(fun j hj=>absurd hj (by omega)),hS⟩
 case round =>
  clear hS hN0
  obtain ⟨i,va,N,rfl,hi,hNl,hN,hS⟩:=hrel
  by_cases hlt:i < k.n
  ·have h0:(0:Int)≤i:=by omega
   have h1:(i:Int) < k.n:=by omega
   have hcell:=hvr i hlt
   have hcl:(k.v i).cells.length=4:=rfl
   have hvi:=hok.ves i hlt
   have hfi:=hvi.2.1
   have hin:=kJ hok v hlt
   have hlN:(aV N).length=k.n:=by rw [iD,hNl]
   have hlN1:(aV (N.set i (-1))).length=k.n:=Fe hlN
   have hcB:=yZ k v i
   have hvB:=PO k v i
   have hle:=VQ k v i
   have hnh:=fun x hx=>X4 (x:=x) hNl hlt hN hx
   have hnm:=VU hNl hlt hN
   have hnum:=XO (k:=k) (v:=v) (i:=i)
   have hvl:=Gp k v i
   have hNf:∀ f,f < i→(aV (N.set i (-1)))[f]? = some (.int .i64 (lq k v f)):=fun f hf=>by
    rw [nI rfl (by rw [List.length_set];omega),fC _ _ _ _ _ (by omega),if_neg (by omega),hN f hf]
   have hneg:=fun f=>Ld k v f
   have hve':DK k v i=⟨if i=v then -1 else lq k v (k.v i).from_.toNat,(k.v i).room,(k.v i).lo,(k.v i).hi⟩:=rfl
   have hf0:=hvi.1
   unfold nN.cells at hcell
   obtain ⟨a0,cp,rfl⟩:=TV hS
   generalize rF k v i=O at hS hvB hvl
   generalize hc:cB k v i=c at hS hcB hle hnum hvl
   have hol:(fD O).length=c * 4:=by rw [fD,jK _ (fun _=>rfl),hvl]
   clear hvi hN
   generalize (k.v i).from_=f at hcell hfi hin hve' hf0
   generalize (k.v i).room=ro at hcell hve'
   generalize (k.v i).lo=lo at hcell hve'
   generalize (k.v i).hi=hi' at hcell hve'
   by_cases hiv:i=v
   ·subst hiv
    have hb:inB k i i=true:=gq k i
    rw [if_pos hb] at hcB hvB
    rw [if_pos rfl] at hve'
    rw [hve'] at hvB
    have hnn:=hnh _ (hnum hb).symm
    replace hcB:=aj hcB;replace hvB:=aj hvB;replace hnn:=aj hnn;replace hc:=aj hc
    clear hnh hnm hnum hNf hneg hve' hin hb hfi hf0
    go_wp2_with (first | ((first | ((first | ((with_reducible refine gL ?_);first | refine gY hS rfl rfl rfl ?_ | refine lW hS rfl rfl rfl ?_ | refine zQ hS rfl rfl rfl ?_) | ((with_reducible refine gS ?_);first | refine pX hS rfl rfl rfl ?_ | refine bQ hS rfl rfl rfl ?_));refine ⟨_,zd,?_⟩;clear hS;(try clear w');intro a' hp;(try simp only [fr] at hp);subst hp;intro w' hS;(try simp only [sE] at hS)) | (((with_reducible refine gA ?_);refine dM hS rfl rfl ?_);clear hS;(try clear w');intro _;intro a' hp;(try simp only [fr] at hp);subst hp;intro w' hS));try (simp only [jJ] at hS)) | ((with_reducible refine uP ?_);refine zU hS rfl (pK (a:=⟨_,_,_,_⟩) rfl rfl) ?_;clear hS;(try clear w');intro _ a' hp;(try simp only [fr] at hp);subst hp;intro w' hS) | ((with_reducible refine Q5 ?_);refine Ui rfl rfl ?_;refine ⟨_,_,_,_,by exact rfl,by exact rfl,?_⟩;refine eH hS zd ?_;clear hS;(try clear w');intro va w' hS;intro a' hp;(try simp only [fr] at hp);subst hp;(try simp only [sE] at hS);have hva:=dY hS va))
    go_roundw
    case rel =>
     rw [uO] at hS
     refine ⟨i+1,va,_,by go_num,by omega,by simp [hNl],hnn.out,?_⟩
     rw [hcB.out,hvB.out]
     exact hS.aG
    case measure=>simp only [intOf];omega
   ·have hiv':¬ ((i:Int)=(v:Int)):=by omega
    rw [if_neg hiv] at hve'
    by_cases hfr:f < 0
    ·have hb:inB k v i=false:=by rw [hin];simp [hiv];omega
     rw [hb,if_neg (by decide),Nat.add_zero] at hcB
     rw [hb,if_neg (by decide)] at hvB
     have hnn:=hnm hb
     replace hcB:=aj hcB;replace hvB:=aj hvB;replace hnn:=aj hnn;replace hc:=aj hc
     clear hnh hnm hnum hNf hneg hve' hin hb hfi hf0
     go_wp2_with ((first | ((first | ((with_reducible refine gL ?_);first | refine gY hS rfl rfl rfl ?_ | refine zQ hS rfl rfl rfl ?_) | ((with_reducible refine gS ?_);first | refine pX hS rfl rfl rfl ?_ | refine bQ hS rfl rfl rfl ?_));refine ⟨_,zd,?_⟩;clear hS;(try clear w');intro a' hp;(try simp only [fr] at hp);subst hp;intro w' hS;(try simp only [sE] at hS)) | (((with_reducible refine gA ?_);refine dM hS rfl rfl ?_);clear hS;(try clear w');intro _;intro a' hp;(try simp only [fr] at hp);subst hp;intro w' hS));try (simp only [jJ] at hS))
     go_roundw
     case rel =>
      refine ⟨i+1,.slice a0 c cp,N.set i (-1),by go_num,by omega,by simp [hNl],hnn.out,?_⟩
      rw [hcB.out,hvB.out]
      exact hS.aG
     case measure=>simp only [intOf];omega
    ·obtain ⟨fn,rfl⟩:∃ fn:Nat,f=(fn:Int):=⟨f.toNat,by omega⟩
     have hfi':fn < i:=by omega
     have hfk:(fn:Int) < k.n:=by omega
     have hf0':(0:Int)≤fn:=by omega
     have hcf:=hNf fn hfi'
     have hng:=hneg fn
     rw [Int.toNat_natCast] at hin hve'
     generalize lq k v fn=y at hcf hng hve'
     by_cases hy:y < 0
     ·have hb:inB k v i=false:=by rw [hin,hng.1 hy];simp [hiv]
      rw [hb,if_neg (by decide),Nat.add_zero] at hcB
      rw [hb,if_neg (by decide)] at hvB
      have hnn:=hnm hb
      replace hcB:=aj hcB;replace hvB:=aj hvB;replace hnn:=aj hnn;replace hc:=aj hc
      clear hnh hnm hnum hNf hneg hve' hin hb hfi hf0 hng
      go_wp2_with ((first | ((first | ((with_reducible refine gL ?_);first | refine gY hS rfl rfl rfl ?_ | refine zQ hS rfl rfl rfl ?_) | ((with_reducible refine gS ?_);first | refine pX hS rfl rfl rfl ?_ | refine bQ hS rfl rfl rfl ?_));refine ⟨_,zd,?_⟩;clear hS;(try clear w');intro a' hp;(try simp only [fr] at hp);subst hp;intro w' hS;(try simp only [sE] at hS)) | (((with_reducible refine gA ?_);refine dM hS rfl rfl ?_);clear hS;(try clear w');intro _;intro a' hp;(try simp only [fr] at hp);subst hp;intro w' hS));try (simp only [jJ] at hS))
      go_roundw
      case rel =>
       refine ⟨i+1,.slice a0 c cp,N.set i (-1),by go_num,by omega,by simp [hNl],hnn.out,?_⟩
       rw [hcB.out,hvB.out]
       exact hS.aG
      case measure=>simp only [intOf];omega
     ·have hb:inB k v i=true:=by
       rw [hin]
       have:inB k v fn=true:=by
        cases hh:inB k v fn
        ·exact absurd (hng.2 hh) hy
        ·rfl
       rw [this]
       simp
      rw [if_pos hb] at hcB hvB
      rw [hve'] at hvB
      have hnn:=hnh _ (hnum hb).symm
      replace hcB:=aj hcB;replace hvB:=aj hvB;replace hnn:=aj hnn;replace hc:=aj hc
      clear hnh hnm hnum hNf hneg hve' hin hb hfi hf0 hng
      go_wp2_with (first | ((first | ((first | ((with_reducible refine gL ?_);first | refine gY hS rfl rfl rfl ?_ | refine lW hS rfl rfl rfl ?_ | refine zQ hS rfl rfl rfl ?_) | ((with_reducible refine gS ?_);first | refine pX hS rfl rfl rfl ?_ | refine bQ hS rfl rfl rfl ?_));refine ⟨_,zd,?_⟩;clear hS;(try clear w');intro a' hp;(try simp only [fr] at hp);subst hp;intro w' hS;(try simp only [sE] at hS)) | (((with_reducible refine gA ?_);refine dM hS rfl rfl ?_);clear hS;(try clear w');intro _;intro a' hp;(try simp only [fr] at hp);subst hp;intro w' hS));try (simp only [jJ] at hS)) | ((with_reducible refine uP ?_);refine zU hS rfl (pK (a:=⟨_,_,_,_⟩) rfl rfl) ?_;clear hS;(try clear w');intro _ a' hp;(try simp only [fr] at hp);subst hp;intro w' hS) | ((with_reducible refine Q5 ?_);refine Ui rfl rfl ?_;refine ⟨_,_,_,_,by exact rfl,by exact rfl,?_⟩;refine eH hS zd ?_;clear hS;(try clear w');intro va w' hS;intro a' hp;(try simp only [fr] at hp);subst hp;(try simp only [sE] at hS);have hva:=dY hS va))
      go_roundw
      case rel =>
       rw [uO] at hS
       refine ⟨i+1,va,_,by go_num,by omega,by simp [hNl],hnn.out,?_⟩
       rw [hcB.out,hvB.out]
       exact hS.aG
      case measure=>simp only [intOf];omega
  ·obtain rfl:i=k.n:=by omega
   have hva:=dY hS va
   have hm:=fun r hr=>yF hok r hr
   have hlN:(aV N).length=k.n:=by rw [iD,hNl]
   have hcN:∀ j,j < k.n→(aV N)[j]? = some (.int .i64 (lq k v j)):=fun j hj=>by
    rw [nI rfl (by omega),hN j hj]
   clear hlt hi hN hvr
   replace hS:=hS.nilRow 59 4
   go_wp2_with (((with_reducible refine gL ?_);refine gY hS rfl rfl rfl ?_);refine ⟨_,zd,?_⟩;clear hS;(try clear w');intro a' hp;(try simp only [fr] at hp);subst hp;intro w' hS;(try simp only [sE] at hS))
   go_loopw [9] (fun iv wr=>∃ (q:Nat) (ru:Value),iv=.int .i64 (q:Int)∧q≤k.rdg.length ∧
    St w [] V [.row ru 59 4 (kQ k v q).length (fH (kQ k v q)),.row va 29 4 (cB k v k.n) (fD (rF k v k.n)),.blk b6 25 [va,ru],.blk b14 3 (aV N),.blk b4 25 [.slice none 0 0,.slice none 0 0],.blk b2 25 [.slice (some ⟨vg,vo,none⟩) k.n vcap,.slice ra k.rdg.length rcap]] wr) (fun iv _=>k.rdg.length - (intOf iv).toNat)
   case atStart=>exact ⟨0,.slice none 0 0,rfl,by omega,hS⟩
   case round =>
    clear hS
    obtain ⟨q,ru,rfl,hq,hS⟩:=hrel
    by_cases hlt:q < k.rdg.length
    ·have h0:(0:Int)≤q:=by omega
     have h1:(q:Int) < k.rdg.length:=by omega
     obtain ⟨rg,rx,rfl,hrr⟩:=hre (by omega)
     have hcell:=hrr q hlt
     have hcl:(k.rdg.getD q default).cells.length=4:=rfl
     have hmr:=hm (k.rdg.getD q default) (by
      rw [List.getD_eq_getElem?_getD,List.getElem?_eq_getElem hlt]
      exact List.getElem_mem hlt)
     have hsu:=NH k v hlt
     have hrB:Oj k v (k.rdg.getD q default)=⟨lq k v (k.rdg.getD q default).vessel.toNat,(k.rdg.getD q default).scale,(k.rdg.getD q default).shown,(k.rdg.getD q default).err⟩:=rfl
     rw [hrB] at hsu
     have hll:=wG k v q
     unfold je.cells at hcell
     generalize kQ k v q=O at hS hsu hll
     have hol:(fH O).length=O.length * 4:=by rw [fH,jK _ (fun _=>rfl)]
     clear hrB hrr hre hm
     generalize (k.rdg.getD q default).vessel=f at hcell hsu hmr
     generalize (k.rdg.getD q default).scale=sc at hcell hsu
     generalize (k.rdg.getD q default).shown=sh at hcell hsu
     generalize (k.rdg.getD q default).err=er at hcell hsu
     obtain ⟨hm0,hm1⟩:=hmr
     obtain ⟨fn,rfl⟩:∃ fn:Nat,f=(fn:Int):=⟨f.toNat,by omega⟩
     have hcf:=hcN fn (by omega)
     have hng:=Ld k v fn
     rw [Int.toNat_natCast] at hsu
     generalize lq k v fn=y at hcf hng hsu
     by_cases hy:0≤y
     ·have hb:inB k v fn=true:=by
       cases hh:inB k v fn
       ·have:=hng.2 hh;omega
       ·rfl
      rw [if_pos hb] at hsu
      replace hsu:=aj hsu
      clear hng hb hcN
      go_wp2_with (first | (first | ((first | ((with_reducible refine gL ?_);first | refine gY hS rfl rfl rfl ?_ | refine lW hS rfl rfl rfl ?_ | refine zQ hS rfl rfl rfl ?_) | ((with_reducible refine gS ?_);first | refine pX hS rfl rfl rfl ?_ | refine bQ hS rfl rfl rfl ?_));refine ⟨_,zd,?_⟩;clear hS;(try clear w');intro a' hp;(try simp only [fr] at hp);subst hp;intro w' hS;(try simp only [sE] at hS)) | (((with_reducible refine gA ?_);refine dM hS rfl rfl ?_);clear hS;(try clear w');intro _;intro a' hp;(try simp only [fr] at hp);subst hp;intro w' hS)) | ((with_reducible refine uP ?_);refine zU hS rfl (oP (a:=⟨_,_,_,_⟩) rfl rfl) ?_;clear hS;(try clear w');intro _ a' hp;(try simp only [fr] at hp);subst hp;intro w' hS) | ((with_reducible refine Q5 ?_);refine Ui rfl rfl ?_;refine ⟨_,_,_,_,by exact rfl,by exact rfl,?_⟩;refine eH hS zd ?_;clear hS;(try clear w');intro va w' hS;intro a' hp;(try simp only [fr] at hp);subst hp;(try simp only [sE] at hS);have hva:=dY hS va))
      go_roundw
      case rel =>
       rw [Np] at hS
       refine ⟨q+1,va,by go_num,by omega,?_⟩
       rw [hsu.out,List.length_append]
       exact hS.aG
      case measure=>simp only [intOf];omega
     ·have hb:inB k v fn=false:=hng.1 (by omega)
      rw [hb,if_neg (by decide)] at hsu
      replace hsu:=aj hsu
      clear hng hb hcN
      go_wp2_with (first | ((first | ((with_reducible refine gL ?_);first | refine gY hS rfl rfl rfl ?_ | refine zQ hS rfl rfl rfl ?_) | ((with_reducible refine gS ?_);refine bQ hS rfl rfl rfl ?_));refine ⟨_,zd,?_⟩;clear hS;(try clear w');intro a' hp;(try simp only [fr] at hp);subst hp;intro w' hS;(try simp only [sE] at hS)) | (((with_reducible refine gA ?_);refine dM hS rfl rfl ?_);clear hS;(try clear w');intro _;intro a' hp;(try simp only [fr] at hp);subst hp;intro w' hS))
      go_roundw
      case rel =>
       refine ⟨q+1,ru,by go_num,by omega,?_⟩
       rw [hsu.out]
       exact hS.aG
      case measure=>simp only [intOf];omega
    ·obtain rfl:q=k.rdg.length:=by omega
     have hone2:∀ u∈[va,ru],u.oneCell'=true:=qB hva (dY hS ru)
     go_wp2_with ((first | ((with_reducible refine gL ?_);first | refine gY hS rfl rfl rfl ?_ | refine lW hS rfl rfl rfl ?_) | ((with_reducible refine gS ?_);refine bQ hS rfl rfl rfl ?_));refine ⟨_,zd,?_⟩;clear hS;(try clear w');intro a' hp;(try simp only [fr] at hp);subst hp;intro w' hS;(try simp only [sE] at hS))
     ((try simp only [Exit.inBlock,Exit.then]);(try refine aB ?_);refine bK ⟨_,by exact bH (r1:=.cell 4 25) (by kernel_rfl) (by exact rX hS rfl zd),?_⟩ rfl)
     refine ⟨va,ru,rfl,?_⟩
     rw [jy]
     have h1:St w [] V [.row ru 59 4 (kQ k v k.rdg.length).length (fH (kQ k v k.rdg.length)),.row va 29 4 (cB k v k.n) (fD (rF k v k.n))] _:=hS.aG
     exact h1.perm (List.Perm.swap _ _ _)
end Go.Proofs.YtjjmefieegcddaaDoor
namespace Go.Wg
open Go Go.Mm Go.Proofs.YtjjmefieegcddaaDoor
theorem Dl (m v k t:Nat) (ht:t < 64):(gZ m v k).testBit t=true↔∃ n,n < k∧m.testBit n=true∧n≤t∧v.testBit (t - n)=true:=by
 induction k with
 | zero=>simp [gZ]
 | succ k ih =>
  rw [qA]
  unfold rQ
  have hs:(v * 2 ^ k % 18446744073709551616).testBit t=(decide (k≤t) && v.testBit (t - k)):=by
   rw [show (18446744073709551616:Nat)=2 ^ 64 by decide,Nat.testBit_mod_two_pow,← Nat.shiftLeft_eq,Nat.testBit_shiftLeft]
   simp [ht]
  by_cases h:m.testBit k=true
  ·rw [if_pos h,Nat.testBit_or,Bool.or_eq_true,ih,hs,Bool.and_eq_true,decide_eq_true_eq]
   constructor
   ·rintro (⟨n,h1,h2,h3,h4⟩ | ⟨h1,h2⟩)
    ·exact ⟨n,by omega,h2,h3,h4⟩
    ·exact ⟨k,by omega,h,h1,h2⟩
   ·rintro ⟨n,h1,h2,h3,h4⟩
    by_cases e:n=k
    ·subst e;exact .inr ⟨h3,h4⟩
    ·exact .inl ⟨n,by omega,h2,h3,h4⟩
  ·rw [if_neg h,ih]
   constructor
   ·rintro ⟨n,h1,h2⟩;exact ⟨n,by omega,h2⟩
   ·rintro ⟨n,h1,h2,h3⟩
    by_cases e:n=k
    ·subst e;exact absurd h2 h
    ·exact ⟨n,by omega,h2,h3⟩
theorem X7 (t:Nat):ANY.testBit t=decide (t < 41):=by
 rw [show ANY=2 ^ 41 - 1 by decide,Nat.testBit_two_pow_sub_one]
theorem Ak (m v t:Nat):(nV m v).testBit t=true↔t≤40∧∃ a b,m.testBit a=true∧v.testBit b=true∧a+b=t:=by
 unfold nV
 rw [Nat.testBit_and,Bool.and_eq_true,X7,decide_eq_true_eq]
 constructor
 ·rintro ⟨h1,h2⟩
  obtain ⟨n,_,h3,h4,h5⟩:=(Dl m v 41 t (by omega)).1 h1
  exact ⟨by omega,n,t - n,h3,h5,by omega⟩
 ·rintro ⟨h1,a,b,h2,h3,h4⟩
  exact ⟨(Dl m v 41 t (by omega)).2 ⟨a,by omega,h2,by omega,by rw [show t - a=b by omega];exact h3⟩,by omega⟩
theorem Lp (U:List Nat):∀ (f:List Nat) (m t:Nat),f.Nodup→((f.foldl (fun m x=>nV m (U.getD x 0)) m).testBit t=true↔(f=[]∨t≤40)∧∃ (a:Nat) (c:Nat→Nat),m.testBit a=true∧(∀ x∈f,(U.getD x 0).testBit (c x)=true)∧t=a+(f.map c).sum)
 | [],m,t,_=>by
  simp only [List.foldl_nil,true_or,true_and,List.map_nil,List.sum_nil,Nat.add_zero]
  exact ⟨fun h=>⟨t,fun _=>0,h,(fun x hx=>by cases hx),rfl⟩,fun ⟨a,_,h,_,e⟩=>e ▸ h⟩
 | x :: f,m,t,hd=>by
  obtain ⟨hx,hf⟩:=List.nodup_cons.1 hd
  rw [List.foldl_cons,Lp U f _ t hf]
  constructor
  ·rintro ⟨h0,a,c,h1,h2,h3⟩
   obtain ⟨h4,p,q,h5,h6,h7⟩:=(Ak _ _ _).1 h1
   refine ⟨.inr ?_,p,fun y=>if y=x then q else c y,h5,fun y hy=>?_,?_⟩
   ·rcases h0 with rfl | h0
    ·simp at h3;omega
    ·exact h0
   ·rcases List.mem_cons.1 hy with rfl | hy
    ·simpa using h6
    ·have:y≠x:=fun e=>hx (e ▸ hy)
     simpa [this] using h2 y hy
   ·have e:f.map (fun y=>if y=x then q else c y)=f.map c:=List.map_congr_left fun y hy=>by
     have:y≠x:=fun e=>hx (e ▸ hy)
     simp [this]
    rw [List.map_cons,List.sum_cons,e,if_pos rfl]
    omega
  ·rintro ⟨h0,a,c,h1,h2,h3⟩
   have ht:t≤40:=h0.resolve_left (by simp)
   rw [List.map_cons,List.sum_cons] at h3
   exact ⟨.inr ht,a+c x,c,(Ak _ _ _).2 ⟨by omega,a,c x,h1,h2 x (by simp),rfl⟩,fun y hy=>h2 y (by simp [hy]),by omega⟩
theorem QY (a:Nat):(1:Nat).testBit a=true↔a=0:=by
 cases a with
 | zero=>simp
 | succ a=>simp [Nat.testBit_succ]
theorem MB (U:List Nat) {f:List Nat} (hf:f.Nodup) (hn:f≠[]) (t:Nat):(sums U f).testBit t=true↔t≤40∧∃ c:Nat→Nat,(∀ x∈f,(U.getD x 0).testBit (c x)=true)∧t=(f.map c).sum:=by
 unfold sums
 rw [Lp U f 1 t hf]
 constructor
 ·rintro ⟨h0,a,c,h1,h2,h3⟩
  have:=(QY a).1 h1
  exact ⟨h0.resolve_left hn,c,h2,by omega⟩
 ·rintro ⟨h0,c,h2,h3⟩
  exact ⟨.inr h0,0,c,(QY 0).2 rfl,h2,by omega⟩
def Fit (k:Wk) (s:SS) (w:Nat→Nat) (i:Nat):Prop :=
 (s.aK i).testBit (w i)=true∧(k.fills i≠[]→∃ d:Nat,(dO (s.aP i).1 (s.aP i).2).testBit d=true∧w i=((k.fills i).map w).sum+d)
def Hu (k:Wk) (s:SS) (w:Nat→Nat):Prop:=∀ i,i < k.n→Fit k s w i
theorem Bg (k:Wk) (i:Nat):(k.fills i).Nodup:=by
 unfold Wk.fills
 exact List.nodup_range.filter _
theorem Fit.congr {k:Wk} {s:SS} {w w':Nat→Nat} {i:Nat} (h:Fit k s w i) (h1:w' i=w i) (h2:∀ x∈k.fills i,w' x=w x):Fit k s w' i:=by
 have e:(k.fills i).map w'=(k.fills i).map w:=List.map_congr_left h2
 exact ⟨by rw [h1];exact h.1,fun hn=>by rw [h1,e];exact h.2 hn⟩
theorem gK {k:Wk} {i x:Nat}:x∈k.fills i↔x < k.n∧(k.v x).from_=(i:Int):=by
 unfold Wk.fills
 rw [List.mem_filter,List.mem_range,beq_iff_eq]
theorem Rz {k:Wk} (hok:k.Ok) {i x:Nat} (hx:x∈k.fills i) (j:Nat):j < k.n→inB k x j=true→inB k i j=true:=by
 induction j using Nat.strongRecOn with
 | ind j ih =>
  intro hj h
  have hxn:=gK.1 hx
  rw [kJ hok x hj,Bool.or_eq_true,Bool.and_eq_true,beq_iff_eq,decide_eq_true_eq] at h
  rw [kJ hok i hj,Bool.or_eq_true,Bool.and_eq_true,beq_iff_eq,decide_eq_true_eq]
  have h3:=(hok.ves j hj).2.1
  rcases h with rfl | ⟨h1,h2⟩
  ·refine .inr ⟨by omega,?_⟩
   rw [hxn.2,Int.toNat_natCast]
   exact gq k i
  ·exact .inr ⟨h1,ih _ (by omega) (by omega) h2⟩
theorem Ie {k:Wk} (hok:k.Ok) (i j:Nat):j < k.n→inB k i j=true→j=i∨∃ x∈k.fills i,inB k x j=true:=by
 induction j using Nat.strongRecOn with
 | ind j ih =>
  intro hj h
  rw [kJ hok i hj,Bool.or_eq_true,Bool.and_eq_true,beq_iff_eq,decide_eq_true_eq] at h
  have h3:=(hok.ves j hj).2.1
  rcases h with h | ⟨h1,h2⟩
  ·exact .inl h
  ·refine .inr ?_
   rcases ih _ (by omega) (by omega) h2 with h4 | ⟨x,hx,h4⟩
   ·exact ⟨j,gK.2 ⟨hj,by omega⟩,gq k j⟩
   ·refine ⟨x,hx,?_⟩
    rw [kJ hok x hj,Bool.or_eq_true,Bool.and_eq_true,decide_eq_true_eq]
    exact .inr ⟨h1,h4⟩
theorem Qz {k:Wk} (hok:k.Ok) {f:Int} {x y:Nat} (hx:x < k.n) (hy:y < k.n) (hfx:(k.v x).from_=f) (hfy:(k.v y).from_=f) (j:Nat):j < k.n→inB k x j=true→inB k y j=true→x=y:=by
 induction j using Nat.strongRecOn with
 | ind j ih =>
  intro hj h1 h2
  have h3:=(hok.ves j hj).2.1
  have g1:=h1
  have g2:=h2
  rw [kJ hok x hj,Bool.or_eq_true,Bool.and_eq_true,beq_iff_eq,decide_eq_true_eq] at g1
  rw [kJ hok y hj,Bool.or_eq_true,Bool.and_eq_true,beq_iff_eq,decide_eq_true_eq] at g2
  rcases g1 with g1 | ⟨g1,g3⟩
  ·rcases g2 with g2 | ⟨g2,g4⟩
   ·omega
   ·subst g1
    have:=DN hok y _ (by omega) g4
    have:=(hok.ves y hy).2.1
    omega
  ·rcases g2 with g2 | ⟨g2,g4⟩
   ·subst g2
    have:=DN hok x _ (by omega) g3
    have:=(hok.ves x hx).2.1
    omega
   ·exact ih _ (by omega) (by omega) g3 g4
theorem Hf {k:Wk} (hok:k.Ok) {i j x:Nat} (hj:inB k i j=true) (hx:x∈k.fills j):inB k i x=true:=by
 obtain ⟨h1,h2⟩:=gK.1 hx
 rw [kJ hok i h1,Bool.or_eq_true,Bool.and_eq_true,decide_eq_true_eq]
 refine .inr ⟨by omega,?_⟩
 rw [h2,Int.toNat_natCast]
 exact hj
noncomputable def glue (k:Wk) (f:List Nat) (W:Nat→Nat→Nat) (w:Nat→Nat) (j:Nat):Nat:=open Classical in if h:∃ x,x∈f∧inB k x j=true then W h.choose j else w j
theorem Qh {k:Wk} {f:List Nat} {W:Nat→Nat→Nat} {w:Nat→Nat} {x j:Nat} (hx:x∈f) (hb:inB k x j=true) (hone:∀ y∈f,inB k y j=true→y=x):glue k f W w j=W x j:=by
 unfold glue
 have h:∃ x,x∈f∧inB k x j=true:=⟨x,hx,hb⟩
 rw [dif_pos h,hone _ h.choose_spec.1 h.choose_spec.2]
theorem Ve {k:Wk} {f:List Nat} {W:Nat→Nat→Nat} {w:Nat→Nat} {j:Nat} (h:∀ x∈f,inB k x j=false):glue k f W w j=w j:=by
 unfold glue
 rw [dif_neg]
 rintro ⟨x,h1,h2⟩
 rw [h x h1] at h2
 cases h2
theorem GU {s:SS} (hs:s.WF) {i m:Nat} (h:(s.aK i).testBit m=true):m≤40:=by
 have h1:=hs.fZ i
 rcases Nat.lt_or_ge m 41 with h2 | h2
 ·omega
 ·have:(s.aK i).testBit m=false:=Nat.testBit_lt_two_pow (Nat.lt_of_lt_of_le h1 (by
   have:(2:Nat) ^ 41≤2 ^ m:=Nat.pow_le_pow_right (by omega) h2
   exact this))
  rw [this] at h
  cases h
theorem Vy {k:Wk} (hok:k.Ok) {s:SS} (hs:s.WF) (i:Nat):i < k.n→∀ m,((up k s).getD i 0).testBit m=true↔∃ w:Nat→Nat,w i=m∧∀ j,j < k.n→inB k i j=true→Fit k s w j:=by
 have key:∀ d i,k.n - i≤d→i < k.n→∀ m,((up k s).getD i 0).testBit m=true↔∃ w:Nat→Nat,w i=m∧∀ j,j < k.n→inB k i j=true→Fit k s w j:=fun d=>by
  induction d with
  | zero=>exact fun i h1 h2=>by omega
  | succ d ih =>
   intro i h1 hi m
   have hfg:=fun x hx=>rV hok (i:=i) (x:=x) hx
   have ihx:∀ x∈k.fills i,∀ m,((up k s).getD x 0).testBit m=true↔∃ w:Nat→Nat,w x=m∧∀ j,j < k.n→inB k x j=true→Fit k s w j:=fun x hx=>by
    have:=hfg x hx
    exact ih x (by omega) this.2
   rw [aaT hok s hi]
   by_cases hf:k.fills i=[]
   ·rw [if_pos hf]
    constructor
    ·intro h
     refine ⟨fun _=>m,rfl,fun j hj hb=>?_⟩
     rcases Ie hok i j hj hb with rfl | ⟨x,hx,_⟩
     ·exact ⟨h,fun hn=>absurd hf hn⟩
     ·rw [hf] at hx;cases hx
    ·rintro ⟨w,rfl,h⟩
     exact (h i hi (gq k i)).1
   ·rw [if_neg hf,Nat.testBit_and,Bool.and_eq_true,Ak]
    constructor
    ·rintro ⟨hl,h40,a,b,ha,hb,hab⟩
     obtain ⟨_,c,hc,hsum⟩:=(MB _ (Bg k i) hf a).1 ha
     have hW:∀ x,∃ w:Nat→Nat,x∈k.fills i→w x=c x∧∀ j,j < k.n→inB k x j=true→Fit k s w j:=fun x=>by
      by_cases hx:x∈k.fills i
      ·obtain ⟨w,h2,h3⟩:=(ihx x hx _).1 (hc x hx)
       exact ⟨w,fun _=>⟨h2,h3⟩⟩
      ·exact ⟨fun _=>0,fun h=>absurd h hx⟩
     have hone:∀ {x j},x∈k.fills i→j < k.n→inB k x j=true→∀ y∈k.fills i,inB k y j=true→y=x:=fun {x j} hx hj hb y hy hb' =>
      Qz hok (gK.1 hy).1 (gK.1 hx).1 (gK.1 hy).2 (gK.1 hx).2 j hj hb' hb
     let W:Nat→Nat→Nat:=fun x=>Classical.choose (hW x)
     have hWs:∀ x∈k.fills i,W x x=c x∧∀ j,j < k.n→inB k x j=true→Fit k s (W x) j:=fun x hx=>Classical.choose_spec (hW x) hx
     have gin:∀ {x j},x∈k.fills i→j < k.n→inB k x j=true→glue k (k.fills i) W (fun _=>m) j=W x j:=fun hx hj hb=>Qh hx hb (hone hx hj hb)
     have gi:glue k (k.fills i) W (fun _=>m) i=m:=Ve fun x hx=>by
      cases hh:inB k x i
      ·rfl
      ·have:=DN hok x i hi hh
       have:=hfg x hx
       omega
     refine ⟨glue k (k.fills i) W (fun _=>m),gi,fun j hj hb=>?_⟩
     rcases Ie hok i j hj hb with rfl | ⟨x,hx,hbx⟩
     ·refine ⟨by rw [gi];exact hl,fun _=>⟨b,by assumption,?_⟩⟩
      have e:(k.fills j).map (glue k (k.fills j) W fun _=>m)=(k.fills j).map c:=List.map_congr_left fun x hx=>by
       rw [gin hx (hfg x hx).2 (gq k x),(hWs x hx).1]
      rw [gi,e,← hsum]
      exact hab.symm
     ·refine ((hWs x hx).2 j hj hbx).congr (gin hx hj hbx) fun y hy=>?_
      exact gin hx (gK.1 hy).1 (Hf hok hbx hy)
    ·rintro ⟨w,rfl,h⟩
     obtain ⟨hl,hd⟩:=h i hi (gq k i)
     obtain ⟨b,hb,hab⟩:=hd hf
     have h40:=GU hs hl
     refine ⟨hl,h40,((k.fills i).map w).sum,b,(MB _ (Bg k i) hf _).2 ⟨by omega,w,fun x hx=>?_,rfl⟩,hb,hab.symm⟩
     exact (ihx x hx _).2 ⟨w,rfl,fun j hj hbx=>h j hj (Rz hok hx j hj hbx)⟩
 exact key _ i (Nat.le_refl _)
theorem Yf {k:Wk} (hok:k.Ok) (i:Nat):i < k.n→∃ r,r < k.n∧(k.v r).from_=-1∧inB k r i=true:=by
 induction i using Nat.strongRecOn with
 | ind i ih =>
  intro hi
  obtain ⟨o1,o2,_⟩:=hok.ves i hi
  by_cases h:(k.v i).from_=-1
  ·exact ⟨i,hi,h,gq k i⟩
  ·obtain ⟨r,h1,h2,h3⟩:=ih (k.v i).from_.toNat (by omega) (by omega)
   refine ⟨r,h1,h2,?_⟩
   rw [kJ hok r hi,Bool.or_eq_true,Bool.and_eq_true,decide_eq_true_eq]
   exact .inr ⟨by omega,h3⟩
theorem QS {k:Wk} (hok:k.Ok) {s:SS} (hs:s.WF):can k s=true↔∃ w,Hu k s w:=by
 rw [XA]
 constructor
 ·intro h
  let R:=(List.range k.n).filter fun r=>(k.v r).from_ == -1
  have hR:∀ {r},r∈R↔r < k.n∧(k.v r).from_=-1:=by simp [R]
  have hW:∀ x,∃ w:Nat→Nat,x < k.n→∀ j,j < k.n→inB k x j=true→Fit k s w j:=fun x=>by
   by_cases hx:x < k.n
   ·obtain ⟨m,hm⟩:=Nat.exists_testBit_of_ne_zero (h x hx)
    obtain ⟨w,_,h2⟩:=(Vy hok hs x hx m).1 hm
    exact ⟨w,fun _=>h2⟩
   ·exact ⟨fun _=>0,fun h=>absurd h hx⟩
  let W:Nat→Nat→Nat:=fun x=>Classical.choose (hW x)
  have hWs:∀ x,x < k.n→∀ j,j < k.n→inB k x j=true→Fit k s (W x) j:=fun x hx=>Classical.choose_spec (hW x) hx
  refine ⟨glue k R W fun _=>0,fun j hj=>?_⟩
  obtain ⟨r,h1,h2,h3⟩:=Yf hok j hj
  have gin:∀ {j},j < k.n→inB k r j=true→glue k R W (fun _=>0) j=W r j:=fun hj hb=>Qh (hR.2 ⟨h1,h2⟩) hb fun y hy hb'=>Qz hok (hR.1 hy).1 h1 (hR.1 hy).2 h2 _ hj hb' hb
  exact (hWs r h1 j hj h3).congr (gin hj h3) fun y hy=>gin (gK.1 hy).1 (Hf hok h3 hy)
 ·rintro ⟨w,h⟩ i hi h0
  have:=(Vy hok hs i hi (w i)).2 ⟨w,rfl,fun j hj _=>h j hj⟩
  rw [h0,Nat.zero_testBit] at this
  cases this
theorem zi (n x:Nat) (hn:n≤40):(dO (n:Int) (n:Int)).testBit x=true↔x=n:=by
 rw [wI]
 simp only [Bool.and_eq_true,decide_eq_true_eq]
 omega
theorem AV {k:Wk} {s:SS} (hs:s.WF) (h6:k.n≤6) {i n:Nat} (hi:i < k.n) (hn:n≤40) (w:Nat→Nat):Hu k (s.weighed i n) w↔Hu k s w∧w i=n:=by
 have hl:=hs.lim
 have e:∀ j,(s.weighed i n).aK j=if i=j then s.aK i &&& dO n n else s.aK j:=fun j=>fC _ _ _ _ _ (by omega)
 constructor
 ·intro h
  refine ⟨fun j hj=>?_,?_⟩
  ·obtain ⟨h1,h2⟩:=h j hj
   refine ⟨?_,h2⟩
   rw [e] at h1
   by_cases hij:i=j
   ·subst hij
    rw [if_pos rfl,Nat.testBit_and,Bool.and_eq_true] at h1
    exact h1.1
   ·rw [if_neg hij] at h1
    exact h1
  ·obtain ⟨h1,_⟩:=h i hi
   rw [e,if_pos rfl,Nat.testBit_and,Bool.and_eq_true] at h1
   exact (zi n _ hn).1 h1.2
 ·rintro ⟨h,hw⟩ j hj
  obtain ⟨h1,h2⟩:=h j hj
  refine ⟨?_,h2⟩
  rw [e]
  by_cases hij:i=j
  ·subst hij
   rw [if_pos rfl,Nat.testBit_and,Bool.and_eq_true]
   exact ⟨h1,(zi n _ hn).2 hw⟩
  ·rw [if_neg hij]
   exact h1
theorem vZ {k:Wk} (hok:k.Ok) {s:SS} (hs:s.WF) {i n:Nat} (hi:i < k.n) (hn:n≤40):can k (s.weighed i n)=true↔∃ w,Hu k s w∧w i=n:=by
 rw [QS hok (hs.weighed i n)]
 constructor
 ·rintro ⟨w,h⟩
  exact ⟨w,(AV hs hok.le hi hn w).1 h⟩
 ·rintro ⟨w,h⟩
  exact ⟨w,(AV hs hok.le hi hn w).2 h⟩
end Go.Wg
