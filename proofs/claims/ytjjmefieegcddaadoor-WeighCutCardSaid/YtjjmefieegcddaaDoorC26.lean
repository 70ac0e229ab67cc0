/- A part of the proof: S28, Q8, W84, W43, W44, W45. -/
import Derived.Test.YtjjmefieegcddaaDoorC25
import Derived.Test.YtjjmefieegcddaaDoorC15
import Derived.Test.YtjjmefieegcddaaDoorC23
import Derived.Deep.Upon
import Derived.Test.YtjjmefieegcddaaDoorC20
import Derived.Test.YtjjmefieegcddaaDoorC11
import Derived.Maps.Own
import Derived.Maps.Views
set_option linter.unusedVariables false
set_option linter.unusedSimpArgs false
set_option maxHeartbeats 8000000
namespace Go.Wg
open Go Go.Mm Go.Proofs.YtjjmefieegcddaaDoor
def Wk.plus (k:Wk) (r:je):Wk:=⟨k.ves,k.rdg ++ [r]⟩
theorem yT {k:Wk} (hok:k.Ok) (h5:k.rdg.length≤5) {r:je} (hr:r.Ok k.n):(k.plus r).Ok:=by
 refine ⟨hok.pos,hok.le,hok.ves,?_,fun i hi=>?_⟩
 ·show (k.rdg ++ [r]).length≤6
  simp;omega
 ·show ((k.rdg ++ [r]).getD i default).Ok k.n
  have hi':i < (k.rdg ++ [r]).length:=hi
  rw [List.length_append,List.length_singleton] at hi'
  rw [List.getD_eq_getElem?_getD]
  by_cases h:i < k.rdg.length
  ·rw [List.getElem?_append_left h,← List.getD_eq_getElem?_getD]
   exact hok.rdg i h
  ·obtain rfl:i=k.rdg.length:=by omega
   simpa using hr
theorem Vl {k k':Wk} (h:k'.ves=k.ves) (i:Nat):lS k' i=lS k i:=by
 have hv:∀ j,k'.v j=k.v j:=fun j=>by unfold Wk.v;rw [h]
 induction i with
 | zero=>rfl
 | succ i ih=>rw [lS,lS,ih,hv]
theorem G9 (k:Wk) (r:je) (b:je→Bool):aN (k.plus r) b=lU b (aN k b) r:=by
 unfold aN
 rw [Vl (k:=k) (k':=k.plus r) rfl,show (k.plus r).n=k.n from rfl,show (k.plus r).rdg=k.rdg ++ [r] from rfl,List.foldl_append]
 rfl
theorem WY (k:Wk) (h6:k.n≤6) {r:je} (hr:0≤r.vessel∧r.vessel < k.n) (i:Nat):(aN (k.plus r) aC).aK i=if r.vessel.toNat=i then (aN k aC).aK i &&& dO (r.shown - r.err) (r.shown+r.err) else (aN k aC).aK i:=by
 have hl:=(gG k aC).lim
 rw [G9]
 unfold lU
 rw [if_neg (by simp [aC])]
 have e:((aN k aC).cu r.vessel.toNat ((aN k aC).aK r.vessel.toNat &&& dO (r.shown - r.err) (r.shown+r.err))).aK i=if r.vessel.toNat=i then (aN k aC).aK r.vessel.toNat &&& dO (r.shown - r.err) (r.shown+r.err) else (aN k aC).aK i:=fC _ _ _ _ _ (by omega)
 rw [e]
 by_cases h:r.vessel.toNat=i
 ·subst h;rfl
 ·rw [if_neg h,if_neg h]
theorem UQ (k:Wk) (r:je) (i:Nat):(aN (k.plus r) aC).aP i=(aN k aC).aP i:=by
 rw [G9]
 unfold lU
 rw [if_neg (by simp [aC])]
 rfl
theorem TQ (x:Nat) (l:List je) (m:Nat):(BD x l).testBit m=true↔x.testBit m=true∧∀ r∈l,(dO (r.shown - r.err) (r.shown+r.err)).testBit m=true:=by
 unfold BD
 induction l generalizing x with
 | nil=>simp
 | cons r l ih =>
  rw [List.foldl_cons,ih,Nat.testBit_and,Bool.and_eq_true,and_assoc]
  simp
theorem OJ (k:Wk) (ws:List Int) (h:∀ x,x < k.n→0≤ws.getD x 0) (i:Nat):sumF (fun j=>(k.v j).from_) k.n ws i=(((k.fills i).map fun x=>(ws.getD x 0).toNat).sum:Nat):=by
 have key:∀ n,n≤k.n→((List.range n).map fun j=>if (k.v j).from_=(i:Int) then ws.getD j 0 else 0).sum=((((List.range n).filter fun j=>(k.v j).from_ == (i:Int)).map fun x=>(ws.getD x 0).toNat).sum:Nat):=fun n=>by
  induction n with
  | zero=>intro _;rfl
  | succ n ih =>
   intro hn
   rw [List.range_succ,List.map_append,List.sum_append,ih (by omega),List.filter_append,List.map_append,List.sum_append]
   have:=h n (by omega)
   by_cases e:(k.v n).from_=(i:Int)
   ·have hp:((k.v n).from_ == (i:Int))=true:=by simpa using e
    rw [show ([n].filter fun j=>(k.v j).from_ == (i:Int))=[n] from List.filter_cons_of_pos (p:=fun j=>(k.v j).from_ == (i:Int)) hp]
    simp only [List.map_cons,List.map_nil,List.sum_cons,List.sum_nil,if_pos e]
    omega
   ·have hp:¬ ((k.v n).from_ == (i:Int))=true:=by simpa using e
    rw [show ([n].filter fun j=>(k.v j).from_ == (i:Int))=[] from List.filter_cons_of_neg (p:=fun j=>(k.v j).from_ == (i:Int)) hp]
    simp only [List.map_cons,List.map_nil,List.sum_cons,List.sum_nil,if_neg e]
    omega
 exact key k.n (Nat.le_refl _)
theorem Wp {k:Wk} (hok:k.Ok) {ws:List Int} (h:Truth k ws):Hu k (aN k aC) fun i=>(ws.getD i 0).toNat:=fun i hi=>by
 have hro:=h.room i hi
 have hvo:=hok.ves i hi
 refine ⟨?_,fun hf=>?_⟩
 ·rw [Dh hok.le (yF hok) aC hi,TQ,wI]
  have h40:(k.v i).room≤40:=hvo.2.2.2.1
  refine ⟨by simp only [Bool.and_eq_true,decide_eq_true_eq];omega,fun r hr=>?_⟩
  obtain ⟨hr1,hr2⟩:=List.mem_filter.1 hr
  simp only [aC,Bool.not_false,Bool.true_and,beq_iff_eq] at hr2
  have h3:=h.rdg r hr1
  rw [hr2] at h3
  rw [wI]
  simp only [Bool.and_eq_true,decide_eq_true_eq]
  omega
 ·have hn:∀ x,x < k.n→0≤ws.getD x 0:=fun x hx=>(h.room x hx).1
  obtain ⟨x,hx⟩:=List.exists_mem_of_ne_nil _ hf
  obtain ⟨hx1,hx2⟩:=gK.1 hx
  have hl:=h.loss i hi ⟨x,hx1,hx2⟩
  rw [OJ k ws hn] at hl
  have hlo:0≤(k.v i).lo:=hvo.2.2.2.2.1
  have hhi:(k.v i).hi≤20:=hvo.2.2.2.2.2.2.2.1
  have hw:=hn i hi
  generalize (((k.fills i).map fun x=>(ws.getD x 0).toNat).sum:Nat)=S at hl
  refine ⟨(ws.getD i 0 - S).toNat,?_,by show (ws.getD i 0).toNat=S+_;omega⟩
  rw [rW k hok,if_pos hi,wI]
  simp only [Bool.and_eq_true,decide_eq_true_eq]
  omega
theorem Oa {k:Wk} {ws:List Int} (h:Truth k ws) {r:je} (hr:r.shown - r.err≤ws.getD r.vessel.toNat 0∧ws.getD r.vessel.toNat 0≤r.shown+r.err):Truth (k.plus r) ws:=⟨h.len,h.room,h.loss,fun x hx=>by
 rcases List.mem_append.1 hx with hx | hx
 ·exact h.rdg x hx
 ·rw [List.mem_singleton] at hx;subst hx;exact hr⟩
theorem JY {k:Wk} {s:SS} {v m:Nat} (M:Nat) (hm:m < M) (h:can k (s.weighed v (m:Nat))=true):(bZ k s v M).1≤m∧(m:Int)≤(bZ k s v M).2:=by
 induction M with
 | zero=>omega
 | succ M ih =>
  rw [bZ]
  by_cases e:m=M
  ·subst e
   rw [if_pos h]
   simp only
   omega
  ·have:=ih (by omega)
   split
   ·simp only;omega
   ·exact this
theorem NV {k:Wk} {s:SS} {v m:Nat} (hm:m≤40) (h:can k (s.weighed v (m:Nat))=true):(aO k s v).1≤m∧(m:Int)≤(aO k s v).2:=JY 41 (by omega) h
theorem DW {k k':Wk} {s s':SS} {v v':Nat} (M:Nat) (h:∀ m,m < M→can k (s.weighed v (m:Nat))=can k' (s'.weighed v' (m:Nat))):bZ k s v M=bZ k' s' v' M:=by
 induction M with
 | zero=>rfl
 | succ M ih=>rw [bZ,bZ,h M (by omega),ih fun m hm=>h m (by omega)]
theorem VN (k:Wk) (v m:Nat):(v:Int)∈fK k m↔v < m∧(aO k (aN k aC) v).1=(aO k (aN k aC) v).2:=by
 induction m with
 | zero=>simp [fK]
 | succ m ih =>
  rw [fK]
  by_cases e:v=m
  ·subst e
   have hno:¬ (v:Int)∈fK k v:=by rw [ih];omega
   by_cases h:(aO k (aN k aC) v).1=(aO k (aN k aC) v).2
   ·rw [if_pos h];simp [h]
   ·rw [if_neg h];simp [hno,h]
  ·have hne:(v:Int)≠(m:Int):=by omega
   have hlt:v < m+1↔v < m:=by omega
   rw [hlt,← ih]
   split
   ·simp [hne]
   ·rfl
theorem WU (k:Wk) (m:Nat):∀ x∈fK k m,∃ v:Nat,x=(v:Int)∧v < m:=by
 induction m with
 | zero=>intro x hx;cases hx
 | succ m ih =>
  intro x hx
  rw [fK] at hx
  split at hx
  ·rcases List.mem_append.1 hx with hx | hx
   ·obtain ⟨v,h1,h2⟩:=ih x hx
    exact ⟨v,h1,by omega⟩
   ·rw [List.mem_singleton] at hx
    exact ⟨m,hx,by omega⟩
  ·obtain ⟨v,h1,h2⟩:=ih x hx
   exact ⟨v,h1,by omega⟩
theorem VJ {k:Wk} (hok:k.Ok) {w0:Nat→Nat} (h0:Hu k (aN k aC) w0) {v:Nat} (hv:v < k.n) (hs:(aO k (aN k aC) v).1=(aO k (aN k aC) v).2) :
  aO k (aN k aC) v=((w0 v:Int),(w0 v:Int))∧∀ w,Hu k (aN k aC) w→w v=w0 v:=by
 have hwf:=gG k aC
 have hin:∀ w,Hu k (aN k aC) w→(aO k (aN k aC) v).1≤w v∧(w v:Int)≤(aO k (aN k aC) v).2:=fun w hw=>by
  have h40:=GU hwf (hw v hv).1
  exact NV h40 ((vZ hok hwf hv h40).2 ⟨w,hw,rfl⟩)
 have h1:=hin w0 h0
 refine ⟨Prod.ext (by simp only;omega) (by simp only;omega),fun w hw=>?_⟩
 have h2:=hin w hw
 omega
theorem Ir {k:Wk} (hok:k.Ok) {v:Nat} (hv:v < k.n):cB k v v=0:=by
 unfold cB
 rw [List.length_eq_zero_iff,List.filter_eq_nil_iff]
 intro i hi hb
 have hi:=List.mem_range.1 hi
 have:=DN hok v i (by omega) hb
 omega
theorem Ql {k:Wk} (hok:k.Ok) {v:Nat} (hv:v < k.n):gB k v 0=v:=by
 have:=Lj k v hv (gq k v)
 rwa [Ir hok hv] at this
def Wk.cut (k:Wk) (v M:Nat):Wk:=(k.branch v).plus ⟨0,0,(M:Int),0⟩
theorem V9 {k:Wk} (hok:k.Ok) {v:Nat} (hv:v < k.n) {M:Nat} (hM:M≤40) (h5:k.rdg.length≤5):(k.cut v M).Ok:=by
 have hb:=kP hok hv
 refine yT hb ?_ ⟨Int.le_refl 0,?_,Int.le_refl 0,(by decide:(0:Int)≤2),?_,?_,Int.le_refl 0,(by decide:(0:Int)≤9)⟩
 ·have:=wG k v k.rdg.length
  show (kQ k v k.rdg.length).length≤5
  omega
 ·have:=hb.pos
  simp only;omega
 ·simp only;omega
 ·simp only;omega
theorem IG {k:Wk} (hok:k.Ok) {v:Nat} (hv:v < k.n) (M:Nat) {p:Nat} (hp:p < cB k v k.n):(aN (k.cut v M) aC).aK p=if p=0 then (aN k aC).aK v &&& dO M M else (aN k aC).aK (gB k v p):=by
 have hb:=kP hok hv
 have h:=WY (k.branch v) hb.le (r:=⟨0,0,(M:Int),0⟩) ⟨Int.le_refl 0,by have:=hb.pos;simp only;omega⟩ p
 unfold Wk.cut
 rw [h,NW hok hv hp]
 by_cases e:p=0
 ·subst e
  rw [if_pos (show (0:Int).toNat=0 from rfl),if_pos rfl,Ql hok hv]
  simp
 ·rw [if_neg (show ¬ (0:Int).toNat=p from fun h=>e h.symm),if_neg e]
theorem Qy {k:Wk} (hok:k.Ok) {v:Nat} (hv:v < k.n) {M:Nat} (hM:M≤40) {w0:Nat→Nat} (h0:Hu k (aN k aC) w0) (hv0:w0 v=M) (hall:∀ w,Hu k (aN k aC) w→w v=M) {p n:Nat} (hp:p < cB k v k.n) :
  (∃ w,Hu (k.cut v M) (aN (k.cut v M) aC) w∧w p=n)↔∃ w,Hu k (aN k aC) w∧w (gB k v p)=n:=by
 have hb:=kP hok hv
 have hn:(k.cut v M).n=cB k v k.n:=jy k v
 have hfl:∀ q,q < cB k v k.n→((k.cut v M).fills q).map (gB k v)=k.fills (gB k v q):=fun q hq=>I7 hok v hq
 have hlo:∀ q,q < cB k v k.n→(aN (k.cut v M) aC).aP q=(aN k aC).aP (gB k v q):=fun q hq=>(UQ (k.branch v) _ q).trans (Oz hok hv hq)
 have hfb:∀ q,∀ x∈(k.cut v M).fills q,x < cB k v k.n:=fun q x hx=>by
  have:=(gK.1 hx).1
  rwa [hn] at this
 constructor
 ·rintro ⟨w,hw,rfl⟩
  have hw0:w 0=M:=by
   have h1:=(hw 0 (by rw [hn];have:=vH k v hv (gq k v);omega)).1
   rw [IG hok hv M (by have:=vH k v hv (gq k v);omega),if_pos rfl,Nat.testBit_and,Bool.and_eq_true] at h1
   exact (zi M _ hM).1 h1.2
  have hz:cB k v v=0:=Ir hok hv
  have hg:=fun q hq=>Qo k v (p:=q) hq
  refine ⟨fun j=>if inB k v j=true then w (cB k v j) else w0 j,fun j hj=>?_,?_⟩
  ·by_cases hj':inB k v j=true
   ·have hc:=vH k v hj hj'
    have hgj:=Lj k v hj hj'
    obtain ⟨h1,h2⟩:=hw (cB k v j) (by rw [hn];exact hc)
    refine ⟨?_,fun hne=>?_⟩
    ·simp only [if_pos hj']
     rw [IG hok hv M hc,hgj] at h1
     by_cases e:cB k v j=0
     ·rw [if_pos e,Nat.testBit_and,Bool.and_eq_true] at h1
      have:j=v:=ZC k v hj' (gq k v) (by rw [e,hz])
      subst this
      exact h1.1
     ·rw [if_neg e] at h1
      exact h1
    ·have hf:=hfl _ hc
     rw [hgj] at hf
     obtain ⟨d,hd1,hd2⟩:=h2 (fun e=>hne (by rw [← hf,e];rfl))
     rw [hlo _ hc,hgj] at hd1
     refine ⟨d,hd1,?_⟩
     simp only [if_pos hj']
     rw [hd2,← hf,List.map_map]
     congr 2
     refine List.map_congr_left fun x hx=>?_
     have hxc:=hfb _ x hx
     simp only [Function.comp,if_pos (uV k v hxc).2,hg x hxc]
   ·obtain ⟨h1,h2⟩:=h0 j hj
    have hj'':inB k v j=false:=by simpa using hj'
    refine ⟨by simp only [if_neg hj'];exact h1,fun hne=>?_⟩
    obtain ⟨d,hd1,hd2⟩:=h2 hne
    refine ⟨d,hd1,?_⟩
    simp only [if_neg hj']
    rw [hd2]
    congr 2
    refine List.map_congr_left fun x hx=>?_
    by_cases hx':inB k v x=true
    ·have hxf:=gK.1 hx
     rw [kJ hok v hxf.1,Bool.or_eq_true,Bool.and_eq_true,beq_iff_eq,hxf.2,Int.toNat_natCast,hj''] at hx'
     obtain rfl:x=v:=by simpa using hx'
     rw [if_pos (gq k x),hz,hw0,hv0]
    ·rw [if_neg hx']
  ·simp only [if_pos (uV k v hp).2,hg p hp]
 ·rintro ⟨w,hw,rfl⟩
  refine ⟨fun q=>w (gB k v q),fun q hq=>?_,rfl⟩
  rw [hn] at hq
  obtain ⟨g1,g2⟩:=uV k v hq
  obtain ⟨h1,h2⟩:=hw _ g1
  refine ⟨?_,fun hne=>?_⟩
  ·rw [IG hok hv M hq]
   by_cases e:q=0
   ·subst e
    rw [if_pos rfl,Nat.testBit_and,Bool.and_eq_true]
    simp only [Ql hok hv] at h1 ⊢
    exact ⟨h1,(zi M _ hM).2 (hall w hw)⟩
   ·rw [if_neg e]
    exact h1
  ·have hf:=hfl q hq
   obtain ⟨d,hd1,hd2⟩:=h2 (by rw [← hf];simpa using hne)
   refine ⟨d,by rw [hlo q hq];exact hd1,?_⟩
   simp only
   rw [hd2,← hf,List.map_map]
   rfl
theorem Px {k:Wk} (hok:k.Ok) {v:Nat} (hv:v < k.n) {M:Nat} (hM:M≤40) (h5:k.rdg.length≤5) {w0:Nat→Nat} (h0:Hu k (aN k aC) w0) (hv0:w0 v=M) (hall:∀ w,Hu k (aN k aC) w→w v=M) {j:Nat} (hj:j < k.n) (hb:inB k v j=true) :
  aO (k.cut v M) (aN (k.cut v M) aC) (cB k v j)=aO k (aN k aC) j:=by
 have hp:=vH k v hj hb
 have hx:=V9 hok hv hM h5
 have hn:(k.cut v M).n=cB k v k.n:=jy k v
 refine DW 41 fun m hm=>?_
 rw [Bool.eq_iff_iff,vZ hx (gG _ _) (by rw [hn];exact hp) (by omega),vZ hok (gG _ _) hj (by omega),Qy hok hv hM h0 hv0 hall hp,Lj k v hj hb]
theorem Qu {k:Wk} (hok:k.Ok) {w:Nat→Nat} (h:Hu k (aN k aC) w):(settle k (aN k aC)).isNone=true:=(QS hok (gG _ _)).2 ⟨w,h⟩
theorem uj {k:Wk} (hok:k.Ok) {w:Nat→Nat} (h:Hu k (aN k aC) w) {v:Nat} (hv:v < k.n):iw k (v:Int)=(aO k (aN k aC) v,0):=by
 unfold iw
 rw [if_pos (G7 hok [(v:Int)] (fun n hn=>by rw [List.mem_singleton] at hn;omega)),if_pos (Qu hok h)]
 rfl
theorem WJ {k:Wk} (hok:k.Ok) {w:Nat→Nat} (h:Hu k (aN k aC) w):vk k=(fK k k.n,0):=by
 unfold vk
 rw [if_pos (G7 hok [] (fun _ h=>nomatch h)),if_pos (Qu hok h)]
theorem Vs {k:Wk} (hok:k.Ok) {v:Nat} (hv:v < k.n) {M:Nat} (hM:M≤40) {w0:Nat→Nat} (h0:Hu k (aN k aC) w0) (hv0:w0 v=M) (hall:∀ w,Hu k (aN k aC) w→w v=M):∃ w,Hu (k.cut v M) (aN (k.cut v M) aC) w:=by
 have hp:=vH k v hv (gq k v)
 obtain ⟨w,hw,_⟩:=(Qy hok hv hM h0 hv0 hall hp (n:=w0 (gB k v (cB k v v)))).2 ⟨w0,h0,rfl⟩
 exact ⟨w,hw⟩
end Go.Wg
namespace Go.Mm
open Go
variable {P:Program} {w0:World} {X:List Nat} {V:View} {L:List dF} {w:World}
variable {l:List Oper} {md:Region.Mode} {o:Oper} {a:Act} {Q:Exit→Act→World→Prop} {S:World→Prop} {fuel:Nat} {listed:Array Bool}
theorem V7 (i j k:Nat) (hr:Region.ready md l.toArray listed=[i,j,k])
  (h1:wpOp P l.toArray Q i (fun a' w'=>S w'∧wpAnyH P md l.toArray Q S fuel (listed.setIfInBounds i true) a' w') a w)
  (h2:wpOp P l.toArray Q j (fun a' w'=>S w'∧wpAnyH P md l.toArray Q S fuel (listed.setIfInBounds j true) a' w') a w)
  (h3:wpOp P l.toArray Q k (fun a' w'=>S w'∧wpAnyH P md l.toArray Q S fuel (listed.setIfInBounds k true) a' w') a w):wpAnyH P md l.toArray Q S (fuel+1) listed a w :=
 wpAnyH_all hr (by simp) fun x hx=>by
  simp only [List.mem_cons,List.not_mem_nil,or_false] at hx
  rcases hx with rfl | rfl | rfl
  ·exact h1
  ·exact h2
  ·exact h3
theorem DZ (i:Nat) (hi₀:l[i]? = some o) (hw:Region.wanted o (yielded l.toArray a.tmps)=true)
  (h:∃ f args,(execOp a.eval o).run P w=.ok (.enter f args) w∧Calls P f args w fun e w'=>∃ v,e=.returned v∧∀ a' l',a.put o.dst v=a'→listed.setIfInBounds i true=l'→S w'∧wpAnyH P md l.toArray Q S fuel l' a' w') :
  wpOp P l.toArray Q i (fun a' w'=>S w'∧wpAnyH P md l.toArray Q S fuel (listed.setIfInBounds i true) a' w') a w:=by
 obtain ⟨f,args,hr',hc⟩:=h
 exact yB (R:=fun v w'=>∀ a' l',a.put o.dst v=a'→listed.setIfInBounds i true=l'→S w'∧wpAnyH P md l.toArray Q S fuel l' a' w') (jV hi₀) hw hr' hc fun v w' h=>h _ _ rfl rfl
theorem oZ (i:Nat) (hr:Region.ready md l.toArray listed=[i]) (hi₀:l[i]? = some o) (hw:Region.wanted o (yielded l.toArray a.tmps)=true)
  (h:∃ f args,(execOp a.eval o).run P w=.ok (.enter f args) w∧Calls P f args w fun e w'=>∃ v,e=.returned v∧∀ a' l',a.put o.dst v=a'→listed.setIfInBounds i true=l'→S w'∧wpAnyH P md l.toArray Q S fuel l' a' w'):wpAnyH P md l.toArray Q S (fuel+1) listed a w :=
 mG hr (DZ i hi₀ hw h)
theorem pF (i:Nat) (hi₀:l[i]? = some o) (hw:Region.wanted o (yielded l.toArray a.tmps)=true)
  (h:∃ v w',(execOp a.eval o).run P w=.ok (.value v) w'∧∀ a' l',a.put o.dst v=a'→listed.setIfInBounds i true=l'→S w'∧wpAnyH P md l.toArray Q S fuel l' a' w') :
  wpOp P l.toArray Q i (fun a' w'=>S w'∧wpAnyH P md l.toArray Q S fuel (listed.setIfInBounds i true) a' w') a w:=by
 obtain ⟨v,w',hr,h⟩:=h
 exact oO (jV hi₀) hw hr (h _ _ rfl rfl)
theorem qJ (i:Nat) (hr:Region.ready md l.toArray listed=[i]) (hi₀:l[i]? = some o) (hw:Region.wanted o (yielded l.toArray a.tmps)=true)
  (h:∃ v w',(execOp a.eval o).run P w=.ok (.value v) w'∧∀ a' l',a.put o.dst v=a'→listed.setIfInBounds i true=l'→S w'∧wpAnyH P md l.toArray Q S fuel l' a' w'):wpAnyH P md l.toArray Q S (fuel+1) listed a w:=mG hr (pF i hi₀ hw h)
theorem WI (i:Nat) (hi₀:l[i]? = some o) (hS:St w0 X V L w) (hw:Region.wanted o (yielded l.toArray a.tmps)=true) {ty:TypeId} {x:Operand} (ho:o.op=.load ty x)
  {b k:Nat} (hx:a.eval x=.pointer (some ⟨b,k,none⟩)) {j n:Nat} {t:TypeId} {cs:List Value} [hj:Hs L b j t cs] [hty:jS P ty n]
  (h:∃ vs,PartOf cs k n vs∧∀ a' l',a.put o.dst (.agg vs.toArray)=a'→listed.setIfInBounds i true=l'→∀ w',St w0 X V L w'→S w'∧wpAnyH P md l.toArray Q S fuel l' a' w') :
  wpOp P l.toArray Q i (fun a' w'=>S w'∧wpAnyH P md l.toArray Q S fuel (listed.setIfInBounds i true) a' w') a w:=by
 obtain ⟨v,hv,h⟩:=h
 exact oO (jV hi₀) hw (iy ho hx hty.ok hv.len (lK (hS.at hj.ok) hv.part)) (h _ _ rfl rfl w hS)
theorem YB (i:Nat) (hr:Region.ready md l.toArray listed=[i]) (hi₀:l[i]? = some o) (hS:St w0 X V L w) (hw:Region.wanted o (yielded l.toArray a.tmps)=true) {ty:TypeId} {x:Operand} (ho:o.op=.load ty x)
  {b k:Nat} (hx:a.eval x=.pointer (some ⟨b,k,none⟩)) {j n:Nat} {t:TypeId} {cs:List Value} [hj:Hs L b j t cs] [hty:jS P ty n]
  (h:∃ vs,PartOf cs k n vs∧∀ a' l',a.put o.dst (.agg vs.toArray)=a'→listed.setIfInBounds i true=l'→∀ w',St w0 X V L w'→S w'∧wpAnyH P md l.toArray Q S fuel l' a' w') :
  wpAnyH P md l.toArray Q S (fuel+1) listed a w:=mG hr (WI i hi₀ hS hw ho hx h)
theorem iG {r:Result Next} {R C:Value→World→Prop} (h:∃ v w',r=.ok (.value v) w'∧R v w') (k:∀ v w',R v w'→C v w'):∃ v w',r=.ok (.value v) w'∧C v w':=by
 obtain ⟨v,w',h1,h2⟩:=h
 exact ⟨v,w',h1,k v w' h2⟩
end Go.Mm
namespace Go.Proofs.YtjjmefieegcddaaDoor
open Go.RowKit Go.Wg Go.Mm
variable {w:World} {V:View} {w0:World} {L:List dF}
theorem ql {X:List Nat} (hS:St w0 X V L w) {o:Oper} {ρ:Operand→Value} {sl x:Operand} {t e:TypeId} {size:Nat} (ho:o.op=.call { callee:=.builtin .append,args:=#[sl,x],argTypes:=#[t,t] }) [ht:Zz Tryd.prog t e size]
  {j n:Nat} {v:Value} {xs:List Value} [hj:Hr L v j e size n xs] (hv:ρ sl=v) {a0:Option Addr} {m c:Nat} {news:List Value} (hx:ρ x=.slice a0 m c) (hr:0 < m→∃ b off,a0=some ⟨b,off,none⟩∧V.Range b off news) (hm:news.length=m * size) (h1:∀ u∈news,u.oneCell'=true) (hn:n+m≤1000) :
  ∃ v' w',(execOp ρ o).run Tryd.prog w=.ok (.value v') w'∧St w0 X V (L.set j (.row v' e size (n+m) (xs ++ news))) w':=by
 by_cases h0:0 < m
 ·obtain ⟨b,off,rfl,hb⟩:=hr h0
  exact F6 hS ho ht.ok hj.ok hv hb hx hm h1 hn
 ·obtain rfl:m=0:=by omega
  have hne:news=[]:=by simpa using hm
  subst hne
  have hts:=ht.ok
  unfold Yv at hts
  simp only [Bool.and_eq_true] at hts
  obtain ⟨⟨ht1,ht2⟩,ht3⟩:=hts
  have hu:Tryd.prog.underlying t=some (.slice e):=by
   cases hd:Tryd.prog.underlying t with
   | none=>rw [hd] at ht1;cases ht1
   | some d=>rw [hd] at ht1;cases d <;> simp_all
  cases hq:Tryd.prog.info? e with
  | none=>rw [hq] at ht2;cases ht2
  | some q =>
   have hsrc:Src Tryd.prog q.size t (.slice a0 0 c) 0 [] w:=by
    cases a0 with
    | none=>exact Src.ofNil w hu c
    | some a0=>exact Src.ofSlice w hu a0 0 c [] (by simp) (fun j u h=>by simp at h) (fun u h=>nomatch h)
   obtain ⟨_,hown⟩:=hS.wu hj.ok
   have hvs:∃ base cap,v=.slice base n cap∧n≤cap:=by
    rcases hown with ⟨rfl,h0⟩ | ⟨g,cap,_,rfl,_,_,h2,_⟩
    ·exact ⟨none,0,by rw [h0],by omega⟩
    ·exact ⟨_,cap,rfl,h2⟩
   obtain ⟨base,cap,hvv,hle⟩:=hvs
   refine ⟨v,w,?_,?_⟩
   ·have hr':=run_append_nothing w t t o.type e q hu hq base n cap hle _ hsrc
    unfold execOp
    simp only [ho,resolve,invoke,builtin,Sem.run_bind,Sem.run_pure,Result.andThen_ok,List.map_toArray,List.map_cons,List.map_nil,hv,hx,hvv,hr']
   ·rw [List.append_nil,Nat.add_zero]
    have:L.set j (.row v e size n xs)=L:=by
     obtain ⟨hjl,hje⟩:=List.getElem?_eq_some_iff.1 hj.ok
     rw [← hje]
     exact List.set_getElem_self hjl
    rw [this]
    exact hS
theorem Ez {X:List Nat} (hS:St w0 X V L w) {o:Oper} {ρ:Operand→Value} (ho:o.op=.buildSlice 23 0 #[]):∃ v w',(execOp ρ o).run Tryd.prog w=.ok (.value v) w'∧St w0 X V (.row v 59 4 0 (fH []) :: L) w':=by
 refine ⟨.slice (some ⟨w.heap.size,0,none⟩) 0 0,w.alloc (.cells (fH []).toArray 59),?_,Fv (n:=0) (s:=4) (hS.alloc 59 (fH [])) rfl (by decide)⟩
 unfold execOp
 simp only [ho]
 kernel_rfl
theorem xR {X:List Nat} (hS:St w0 X V L w) {o:Oper} {ρ:Operand→Value} {x:Operand} {r:je} (ho:o.op=.buildSlice 23 1 #[(0,x)]) (hx:ρ x=.agg r.cells.toArray):∃ v w',(execOp ρ o).run Tryd.prog w=.ok (.value v) w'∧∃ b,v=.slice (some ⟨b,0,none⟩) 1 1∧St w0 X V (.blk b 59 (fH [r]) :: L) w' :=
 ⟨_,_,oP ho hx w,_,rfl,hS.alloc 59 (fH [r])⟩
theorem Ry {l:List je} {g off:Nat} (h:∀ i,i < l.length→V.Range g (off+i * 4) (l.getD i default).cells):V.Range g off (fH l):=fun j v hj=>by
 have hlen:j < l.length * 4:=by
  have:=(List.getElem?_eq_some_iff.1 hj).1
  rwa [fH,jK _ (fun _=>rfl)] at this
 have hi:j / 4 < l.length:=by omega
 have h1:=Ei je.cells (fun _=>rfl) l (j / 4) (l.getD (j / 4) default) (by simp [List.getD_eq_getElem?_getD,List.getElem?_eq_getElem hi]) (j % 4) (by omega)
 rw [show j / 4 * 4+j % 4=j by omega] at h1
 have h2:=h (j / 4) hi (j % 4) v (by rw [← h1];exact hj)
 rwa [show off+j / 4 * 4+j % 4=off+j by omega] at h2
set_option maxRecDepth 20000 in
theorem Qd {vv rv:Value} {k:Wk} (hk:iJ V vv rv k) (r:je) (hV:V.In w) :
  Calls Tryd.prog 41 #[.agg #[vv,rv],.agg r.cells.toArray] w fun e w'=>∃ rv',e=.returned (.agg #[vv,rv'])∧St w [] V [.row rv' 59 4 (k.plus r).rdg.length (fH (k.plus r).rdg)] w':=by
 obtain ⟨va,vcap,rfl,hvc,hvm,hve⟩:=hk.ves.is
 obtain ⟨ra,rcap,rfl,hrc,hrm,hre⟩:=hk.rdg.is
 have hrn:=hk.small.2
 have hS:=St.start w V hV
 have hrng:0 < k.rdg.length→∃ b off,ra=some ⟨b,off,none⟩∧V.Range b off (fH k.rdg):=fun h=>by
  obtain ⟨g,off,h1,h2⟩:=hre h
  exact ⟨g,off,h1,Ry h2⟩
 have hnl:(fH k.rdg).length=k.rdg.length * 4:=by rw [fH,jK _ (fun _=>rfl)]
 have hcl:r.cells.length=4:=rfl
 have hlen:(k.plus r).rdg.length=0+k.rdg.length+1:=by show (k.rdg ++ [r]).length=_;simp
 have hcc:fH (k.plus r).rdg=fH [] ++ fH k.rdg ++ fH [r]:=by
  show fH (k.rdg ++ [r])=_
  simp [fH]
 rw [hlen,hcc]
 clear hk hve hre
 go_enter Tryd.func41,Tryd.ntmps41
 go_wp2_with (first | ((with_reducible refine gB ?_);refine iK 3 rfl hS rfl rfl rfl ?_;refine ⟨_,za,?_⟩;clear hS;(try clear w');intro b3;intro a' hp;(try simp only [fr] at hp);subst hp;intro w' hS) | ((first | ((with_reducible refine gA ?_);refine dM hS rfl rfl ?_) | ((with_reducible refine gB ?_);refine jQ hS rfl rfl rfl ?_;refine ⟨_,za,?_⟩));clear hS;(try clear w');intro _;intro a' hp;(try simp only [fr] at hp);subst hp;intro w' hS))
 (refine bF (S:=(St w [] V [.blk b3 59 r.cells])) [false,false,false,false,false,false,false,false,false] rfl (by kernel_rfl) ?_;replace hS:=St.eY hS;(iterate 2 ((first | refine hxp 1 rfl ?_ | refine hxb 4 rfl ?_);intro a' l' hp hl;(try simp only [fr] at hp);(try simp only [sB] at hl);subst hp;subst hl));(focus (refine V7 0 2 5 (by kernel_rfl) ?_ ?_ ?_;rotate_left 2;(focus ((refine pF 5 rfl rfl ?_;refine iG (xR hS rfl rfl) ?_;clear hS;(try clear w');rintro _ w' ⟨b10,rfl,hS⟩;intro a' l' hp hl;(try simp only [fr] at hp);(try simp only [sB] at hl);subst hp;subst hl;refine ⟨(St.aG hS),?_⟩);(focus (refine nP 0 2 (by kernel_rfl) ?_ ?_;rotate_left;(refine yK 2 rfl hS rfl  rfl rfl ?_;refine ⟨_,zd,?_⟩;clear hS;(try clear w');intro a' l' hp hl;(try simp only [fr] at hp);(try simp only [sB] at hl);subst hp;subst hl;intro w' hS;refine ⟨(St.aG hS),?_⟩);(refine qJ 0 (by kernel_rfl) rfl rfl ?_;refine iG (Ez hS rfl) ?_;clear hS;(try clear w');intro v5 w' hS;intro a' l' hp hl;(try simp only [fr] at hp);(try simp only [sB] at hl);subst hp;subst hl;refine ⟨(St.aG hS),?_⟩);(refine qJ 3 (by kernel_rfl) rfl rfl ?_;refine iG (ql (v:=v5) hS rfl rfl rfl hrng hnl (lF _) (by omega)) ?_;clear hS;(try clear w');intro v8 w' hS;intro a' l' hp hl;(try simp only [fr] at hp);(try simp only [sB] at hl);subst hp;subst hl;(try simp only [sE] at hS);refine ⟨(St.aG hS),?_⟩);(refine xA 6 (by kernel_rfl) rfl rfl rfl ?_;refine ⟨_,_,_,_,by exact rfl,by exact rfl,?_⟩;refine eH hS zd ?_;clear hS;(try clear w');intro v11 w' hS;intro a' l' hp hl;(try simp only [fr] at hp);(try simp only [sB] at hl);subst hp;subst hl;(try simp only [sE] at hS);have hv11:=dY hS v11;refine ⟨(St.aG hS),?_⟩);(refine dw 7 rfl (by kernel_rfl) (by kernel_rfl) (by kernel_rfl) (fun _ _ _ _ h=>h) rfl (St.aG hS) ?_;refine ⟨_,zp,?_⟩;intro a' l' hp hl;(try simp only [fr] at hp);(try simp only [sB] at hl);subst hp;subst hl);((refine jl 8 (by kernel_rfl) rfl hS rfl  rfl rfl ?_;refine ⟨_,zd,?_⟩);clear hS;(try clear w');intro a' l' hp hl;(try simp only [fr] at hp);(try simp only [sB] at hl);subst hp;subst hl;intro w' hS;(try simp only [sE] at hS);refine ⟨(St.aG hS),?_⟩);refine wpAnyH_done (by kernel_rfl) ?_ _;rotate_left;(refine pF 0 rfl rfl ?_;refine iG (Ez hS rfl) ?_;clear hS;(try clear w');intro v5 w' hS;intro a' l' hp hl;(try simp only [fr] at hp);(try simp only [sB] at hl);subst hp;subst hl;refine ⟨(St.aG hS),?_⟩);(refine AZ 2 (by kernel_rfl) rfl hS rfl rfl rfl ?_;refine ⟨_,zd,?_⟩;clear hS;(try clear w');intro a' l' hp hl;(try simp only [fr] at hp);(try simp only [sB] at hl);subst hp;subst hl;intro w' hS;refine ⟨(St.aG hS),?_⟩);(refine qJ 3 (by kernel_rfl) rfl rfl ?_;refine iG (ql (v:=v5) hS rfl rfl rfl hrng hnl (lF _) (by omega)) ?_;clear hS;(try clear w');intro v8 w' hS;intro a' l' hp hl;(try simp only [fr] at hp);(try simp only [sB] at hl);subst hp;subst hl;(try simp only [sE] at hS);refine ⟨(St.aG hS),?_⟩);(refine xA 6 (by kernel_rfl) rfl rfl rfl ?_;refine ⟨_,_,_,_,by exact rfl,by exact rfl,?_⟩;refine eH hS zd ?_;clear hS;(try clear w');intro v11 w' hS;intro a' l' hp hl;(try simp only [fr] at hp);(try simp only [sB] at hl);subst hp;subst hl;(try simp only [sE] at hS);have hv11:=dY hS v11;refine ⟨(St.aG hS),?_⟩);(refine dw 7 rfl (by kernel_rfl) (by kernel_rfl) (by kernel_rfl) (fun _ _ _ _ h=>h) rfl (St.aG hS) ?_;refine ⟨_,zp,?_⟩;intro a' l' hp hl;(try simp only [fr] at hp);(try simp only [sB] at hl);subst hp;subst hl);((refine jl 8 (by kernel_rfl) rfl hS rfl  rfl rfl ?_;refine ⟨_,zd,?_⟩);clear hS;(try clear w');intro a' l' hp hl;(try simp only [fr] at hp);(try simp only [sB] at hl);subst hp;subst hl;intro w' hS;(try simp only [sE] at hS);refine ⟨(St.aG hS),?_⟩);refine wpAnyH_done (by kernel_rfl) ?_ _))));rotate_left 2;rotate_left 1;(focus ((refine yK 2 rfl hS rfl  rfl rfl ?_;refine ⟨_,zd,?_⟩;clear hS;(try clear w');intro a' l' hp hl;(try simp only [fr] at hp);(try simp only [sB] at hl);subst hp;subst hl;intro w' hS;refine ⟨(St.aG hS),?_⟩);(focus (refine nP 0 5 (by kernel_rfl) ?_ ?_;rotate_left;(refine pF 5 rfl rfl ?_;refine iG (xR hS rfl rfl) ?_;clear hS;(try clear w');rintro _ w' ⟨b10,rfl,hS⟩;intro a' l' hp hl;(try simp only [fr] at hp);(try simp only [sB] at hl);subst hp;subst hl;refine ⟨(St.aG hS),?_⟩);(refine qJ 0 (by kernel_rfl) rfl rfl ?_;refine iG (Ez hS rfl) ?_;clear hS;(try clear w');intro v5 w' hS;intro a' l' hp hl;(try simp only [fr] at hp);(try simp only [sB] at hl);subst hp;subst hl;refine ⟨(St.aG hS),?_⟩);(refine qJ 3 (by kernel_rfl) rfl rfl ?_;refine iG (ql (v:=v5) hS rfl rfl rfl hrng hnl (lF _) (by omega)) ?_;clear hS;(try clear w');intro v8 w' hS;intro a' l' hp hl;(try simp only [fr] at hp);(try simp only [sB] at hl);subst hp;subst hl;(try simp only [sE] at hS);refine ⟨(St.aG hS),?_⟩);(refine xA 6 (by kernel_rfl) rfl rfl rfl ?_;refine ⟨_,_,_,_,by exact rfl,by exact rfl,?_⟩;refine eH hS zd ?_;clear hS;(try clear w');intro v11 w' hS;intro a' l' hp hl;(try simp only [fr] at hp);(try simp only [sB] at hl);subst hp;subst hl;(try simp only [sE] at hS);have hv11:=dY hS v11;refine ⟨(St.aG hS),?_⟩);(refine dw 7 rfl (by kernel_rfl) (by kernel_rfl) (by kernel_rfl) (fun _ _ _ _ h=>h) rfl (St.aG hS) ?_;refine ⟨_,zp,?_⟩;intro a' l' hp hl;(try simp only [fr] at hp);(try simp only [sB] at hl);subst hp;subst hl);((refine jl 8 (by kernel_rfl) rfl hS rfl  rfl rfl ?_;refine ⟨_,zd,?_⟩);clear hS;(try clear w');intro a' l' hp hl;(try simp only [fr] at hp);(try simp only [sB] at hl);subst hp;subst hl;intro w' hS;(try simp only [sE] at hS);refine ⟨(St.aG hS),?_⟩);refine wpAnyH_done (by kernel_rfl) ?_ _;rotate_left;(refine pF 0 rfl rfl ?_;refine iG (Ez hS rfl) ?_;clear hS;(try clear w');intro v5 w' hS;intro a' l' hp hl;(try simp only [fr] at hp);(try simp only [sB] at hl);subst hp;subst hl;refine ⟨(St.aG hS),?_⟩);(focus (refine nP 3 5 (by kernel_rfl) ?_ ?_;rotate_left;(refine pF 5 rfl rfl ?_;refine iG (xR hS rfl rfl) ?_;clear hS;(try clear w');rintro _ w' ⟨b10,rfl,hS⟩;intro a' l' hp hl;(try simp only [fr] at hp);(try simp only [sB] at hl);subst hp;subst hl;refine ⟨(St.aG hS),?_⟩);(refine qJ 3 (by kernel_rfl) rfl rfl ?_;refine iG (ql (v:=v5) hS rfl rfl rfl hrng hnl (lF _) (by omega)) ?_;clear hS;(try clear w');intro v8 w' hS;intro a' l' hp hl;(try simp only [fr] at hp);(try simp only [sB] at hl);subst hp;subst hl;(try simp only [sE] at hS);refine ⟨(St.aG hS),?_⟩);(refine xA 6 (by kernel_rfl) rfl rfl rfl ?_;refine ⟨_,_,_,_,by exact rfl,by exact rfl,?_⟩;refine eH hS zd ?_;clear hS;(try clear w');intro v11 w' hS;intro a' l' hp hl;(try simp only [fr] at hp);(try simp only [sB] at hl);subst hp;subst hl;(try simp only [sE] at hS);have hv11:=dY hS v11;refine ⟨(St.aG hS),?_⟩);(refine dw 7 rfl (by kernel_rfl) (by kernel_rfl) (by kernel_rfl) (fun _ _ _ _ h=>h) rfl (St.aG hS) ?_;refine ⟨_,zp,?_⟩;intro a' l' hp hl;(try simp only [fr] at hp);(try simp only [sB] at hl);subst hp;subst hl);((refine jl 8 (by kernel_rfl) rfl hS rfl  rfl rfl ?_;refine ⟨_,zd,?_⟩);clear hS;(try clear w');intro a' l' hp hl;(try simp only [fr] at hp);(try simp only [sB] at hl);subst hp;subst hl;intro w' hS;(try simp only [sE] at hS);refine ⟨(St.aG hS),?_⟩);refine wpAnyH_done (by kernel_rfl) ?_ _;rotate_left;(refine pF 3 rfl rfl ?_;refine iG (ql (v:=v5) hS rfl rfl rfl hrng hnl (lF _) (by omega)) ?_;clear hS;(try clear w');intro v8 w' hS;intro a' l' hp hl;(try simp only [fr] at hp);(try simp only [sB] at hl);subst hp;subst hl;(try simp only [sE] at hS);refine ⟨(St.aG hS),?_⟩);(refine qJ 5 (by kernel_rfl) rfl rfl ?_;refine iG (xR hS rfl rfl) ?_;clear hS;(try clear w');rintro _ w' ⟨b10,rfl,hS⟩;intro a' l' hp hl;(try simp only [fr] at hp);(try simp only [sB] at hl);subst hp;subst hl;refine ⟨(St.aG hS),?_⟩);(refine xA 6 (by kernel_rfl) rfl rfl rfl ?_;refine ⟨_,_,_,_,by exact rfl,by exact rfl,?_⟩;refine eH hS zd ?_;clear hS;(try clear w');intro v11 w' hS;intro a' l' hp hl;(try simp only [fr] at hp);(try simp only [sB] at hl);subst hp;subst hl;(try simp only [sE] at hS);have hv11:=dY hS v11;refine ⟨(St.aG hS),?_⟩);(refine dw 7 rfl (by kernel_rfl) (by kernel_rfl) (by kernel_rfl) (fun _ _ _ _ h=>h) rfl (St.aG hS) ?_;refine ⟨_,zp,?_⟩;intro a' l' hp hl;(try simp only [fr] at hp);(try simp only [sB] at hl);subst hp;subst hl);((refine jl 8 (by kernel_rfl) rfl hS rfl  rfl rfl ?_;refine ⟨_,zd,?_⟩);clear hS;(try clear w');intro a' l' hp hl;(try simp only [fr] at hp);(try simp only [sB] at hl);subst hp;subst hl;intro w' hS;(try simp only [sE] at hS);refine ⟨(St.aG hS),?_⟩);refine wpAnyH_done (by kernel_rfl) ?_ _))))));rotate_left 5;(focus ((refine pF 0 rfl rfl ?_;refine iG (Ez hS rfl) ?_;clear hS;(try clear w');intro v5 w' hS;intro a' l' hp hl;(try simp only [fr] at hp);(try simp only [sB] at hl);subst hp;subst hl;refine ⟨(St.aG hS),?_⟩);(focus (refine nP 2 5 (by kernel_rfl) ?_ ?_;rotate_left;(refine pF 5 rfl rfl ?_;refine iG (xR hS rfl rfl) ?_;clear hS;(try clear w');rintro _ w' ⟨b10,rfl,hS⟩;intro a' l' hp hl;(try simp only [fr] at hp);(try simp only [sB] at hl);subst hp;subst hl;refine ⟨(St.aG hS),?_⟩);(refine AZ 2 (by kernel_rfl) rfl hS rfl rfl rfl ?_;refine ⟨_,zd,?_⟩;clear hS;(try clear w');intro a' l' hp hl;(try simp only [fr] at hp);(try simp only [sB] at hl);subst hp;subst hl;intro w' hS;refine ⟨(St.aG hS),?_⟩);(refine qJ 3 (by kernel_rfl) rfl rfl ?_;refine iG (ql (v:=v5) hS rfl rfl rfl hrng hnl (lF _) (by omega)) ?_;clear hS;(try clear w');intro v8 w' hS;intro a' l' hp hl;(try simp only [fr] at hp);(try simp only [sB] at hl);subst hp;subst hl;(try simp only [sE] at hS);refine ⟨(St.aG hS),?_⟩);(refine xA 6 (by kernel_rfl) rfl rfl rfl ?_;refine ⟨_,_,_,_,by exact rfl,by exact rfl,?_⟩;refine eH hS zd ?_;clear hS;(try clear w');intro v11 w' hS;intro a' l' hp hl;(try simp only [fr] at hp);(try simp only [sB] at hl);subst hp;subst hl;(try simp only [sE] at hS);have hv11:=dY hS v11;refine ⟨(St.aG hS),?_⟩);(refine dw 7 rfl (by kernel_rfl) (by kernel_rfl) (by kernel_rfl) (fun _ _ _ _ h=>h) rfl (St.aG hS) ?_;refine ⟨_,zp,?_⟩;intro a' l' hp hl;(try simp only [fr] at hp);(try simp only [sB] at hl);subst hp;subst hl);((refine jl 8 (by kernel_rfl) rfl hS rfl  rfl rfl ?_;refine ⟨_,zd,?_⟩);clear hS;(try clear w');intro a' l' hp hl;(try simp only [fr] at hp);(try simp only [sB] at hl);subst hp;subst hl;intro w' hS;(try simp only [sE] at hS);refine ⟨(St.aG hS),?_⟩);refine wpAnyH_done (by kernel_rfl) ?_ _;rotate_left;(refine yK 2 rfl hS rfl  rfl rfl ?_;refine ⟨_,zd,?_⟩;clear hS;(try clear w');intro a' l' hp hl;(try simp only [fr] at hp);(try simp only [sB] at hl);subst hp;subst hl;intro w' hS;refine ⟨(St.aG hS),?_⟩);(focus (refine nP 3 5 (by kernel_rfl) ?_ ?_;rotate_left;(refine pF 5 rfl rfl ?_;refine iG (xR hS rfl rfl) ?_;clear hS;(try clear w');rintro _ w' ⟨b10,rfl,hS⟩;intro a' l' hp hl;(try simp only [fr] at hp);(try simp only [sB] at hl);subst hp;subst hl;refine ⟨(St.aG hS),?_⟩);(refine qJ 3 (by kernel_rfl) rfl rfl ?_;refine iG (ql (v:=v5) hS rfl rfl rfl hrng hnl (lF _) (by omega)) ?_;clear hS;(try clear w');intro v8 w' hS;intro a' l' hp hl;(try simp only [fr] at hp);(try simp only [sB] at hl);subst hp;subst hl;(try simp only [sE] at hS);refine ⟨(St.aG hS),?_⟩);(refine xA 6 (by kernel_rfl) rfl rfl rfl ?_;refine ⟨_,_,_,_,by exact rfl,by exact rfl,?_⟩;refine eH hS zd ?_;clear hS;(try clear w');intro v11 w' hS;intro a' l' hp hl;(try simp only [fr] at hp);(try simp only [sB] at hl);subst hp;subst hl;(try simp only [sE] at hS);have hv11:=dY hS v11;refine ⟨(St.aG hS),?_⟩);(refine dw 7 rfl (by kernel_rfl) (by kernel_rfl) (by kernel_rfl) (fun _ _ _ _ h=>h) rfl (St.aG hS) ?_;refine ⟨_,zp,?_⟩;intro a' l' hp hl;(try simp only [fr] at hp);(try simp only [sB] at hl);subst hp;subst hl);((refine jl 8 (by kernel_rfl) rfl hS rfl  rfl rfl ?_;refine ⟨_,zd,?_⟩);clear hS;(try clear w');intro a' l' hp hl;(try simp only [fr] at hp);(try simp only [sB] at hl);subst hp;subst hl;intro w' hS;(try simp only [sE] at hS);refine ⟨(St.aG hS),?_⟩);refine wpAnyH_done (by kernel_rfl) ?_ _;rotate_left;(refine pF 3 rfl rfl ?_;refine iG (ql (v:=v5) hS rfl rfl rfl hrng hnl (lF _) (by omega)) ?_;clear hS;(try clear w');intro v8 w' hS;intro a' l' hp hl;(try simp only [fr] at hp);(try simp only [sB] at hl);subst hp;subst hl;(try simp only [sE] at hS);refine ⟨(St.aG hS),?_⟩);(refine qJ 5 (by kernel_rfl) rfl rfl ?_;refine iG (xR hS rfl rfl) ?_;clear hS;(try clear w');rintro _ w' ⟨b10,rfl,hS⟩;intro a' l' hp hl;(try simp only [fr] at hp);(try simp only [sB] at hl);subst hp;subst hl;refine ⟨(St.aG hS),?_⟩);(refine xA 6 (by kernel_rfl) rfl rfl rfl ?_;refine ⟨_,_,_,_,by exact rfl,by exact rfl,?_⟩;refine eH hS zd ?_;clear hS;(try clear w');intro v11 w' hS;intro a' l' hp hl;(try simp only [fr] at hp);(try simp only [sB] at hl);subst hp;subst hl;(try simp only [sE] at hS);have hv11:=dY hS v11;refine ⟨(St.aG hS),?_⟩);(refine dw 7 rfl (by kernel_rfl) (by kernel_rfl) (by kernel_rfl) (fun _ _ _ _ h=>h) rfl (St.aG hS) ?_;refine ⟨_,zp,?_⟩;intro a' l' hp hl;(try simp only [fr] at hp);(try simp only [sB] at hl);subst hp;subst hl);((refine jl 8 (by kernel_rfl) rfl hS rfl  rfl rfl ?_;refine ⟨_,zd,?_⟩);clear hS;(try clear w');intro a' l' hp hl;(try simp only [fr] at hp);(try simp only [sB] at hl);subst hp;subst hl;intro w' hS;(try simp only [sE] at hS);refine ⟨(St.aG hS),?_⟩);refine wpAnyH_done (by kernel_rfl) ?_ _)))))))))
 all_goals (
  have hone2:∀ u∈[Value.slice va k.n vcap,v11],u.oneCell'=true:=qB rfl hv11
  go_wp2_with ((first | ((with_reducible refine gL ?_);refine lW hS rfl rfl rfl ?_) | ((with_reducible refine gS ?_);refine bQ hS rfl rfl rfl ?_));refine ⟨_,zd,?_⟩;clear hS;(try clear w');intro a' hp;(try simp only [fr] at hp);subst hp;intro w' hS;(try simp only [sE] at hS))
  ((try simp only [Exit.inBlock,Exit.then]);(try refine aB ?_);refine bK ⟨_,by exact bH (r1:=.cell 4 25) (by kernel_rfl) (by exact rX hS rfl zd),?_⟩ rfl)
  exact ⟨_,rfl,hS.aG⟩)
theorem Xg (a b c d:Int) (w:World):Calls Tryd.prog 42 #[.int .i64 a,.int .i64 b,.int .i64 c,.int .i64 d] w fun e w'=>e=.returned (.agg #[.int .i64 a,.int .i64 b,.int .i64 c,.int .i64 d])∧Kp w w':=EI ⟨a,b,c,d⟩ w
set_option maxRecDepth 20000 in
theorem Wv {vv rv:Value} {k:Wk} (hk:iJ V vv rv k) (hok:k.Ok) {i v:Nat} (hi:i < k.n) (hv:v < k.n) (hV:V.In w) :
  Calls Tryd.prog 55 #[.agg #[vv,rv],.int .i64 (i:Int),.int .i64 (v:Int)] w fun e w'=>e=.returned (.bool (inB k v i))∧Kp w w':=by
 obtain ⟨va,vcap,rfl,hvc,hvm,hve⟩:=hk.ves.is
 obtain ⟨ra,rcap,rfl,hrc,hrm,hre⟩:=hk.rdg.is
 obtain ⟨vg,vo,rfl,hvr⟩:=hve (by omega)
 have hn6:=hok.le
 have hS:=St.start w V hV
 clear hk hve hre
 have H0:∀ x:Nat,inB k v i=inB k v x→inB k v x=inB k v i:=fun x h=>h.symm
 clear H0
 go_enter Tryd.func55,Tryd.ntmps55
 go_wp2_with ((with_reducible refine gB ?_);refine iK 3 rfl hS rfl rfl rfl ?_;refine ⟨_,za,?_⟩;clear hS;(try clear w');intro b3;intro a' hp;(try simp only [fr] at hp);subst hp;intro w' hS)
 go_loopw [1] (fun iv wr=>∃ x:Int,iv=.int .i64 x∧-1≤x∧x < k.n∧(if 0≤x then inB k v x.toNat=inB k v i else inB k v i=false)∧St w [] V [.blk b3 25 [.slice (some ⟨vg,vo,none⟩) k.n vcap,.slice ra k.rdg.length rcap]] wr) (fun iv _=>(intOf iv+1).toNat)
 case atStart=>exact ⟨(i:Int),rfl,by omega,by omega,by rw [if_pos (by omega),Int.toNat_natCast],hS⟩
 case round =>
  clear hS
  obtain ⟨x,rfl,hx0,hxn,hx,hS⟩:=hrel
  by_cases h0:0≤x
  ·rw [if_pos h0] at hx
   obtain ⟨y,rfl⟩:∃ y:Nat,x=(y:Int):=⟨x.toNat,by omega⟩
   rw [Int.toNat_natCast] at hx
   by_cases hyv:y=v
   ·subst hyv
    rw [gq] at hx
    replace hx:=aj hx
    go_wp2_with (fail)
    ((try simp only [Exit.inBlock,Exit.then]);(try refine aB ?_);refine bK ⟨_,by exact bH (r1:=.tmp 6) (by kernel_rfl) (by exact bD rfl),?_⟩ rfl)
    exact ⟨by rw [← hx.out],hS.bM⟩
   ·have hyv':¬ ((y:Int)=(v:Int)):=by omega
    have hy:y < k.n:=by omega
    have hcell0:=hvr y hy 0 _ rfl
    have hcell:=hcell0
    simp only [Nat.add_zero] at hcell
    obtain ⟨o1,o2,_⟩:=hok.ves y hy
    rw [kJ hok v hy,show (y == v)=false by simpa using hyv,Bool.false_or] at hx
    generalize (k.v y).from_=f at hcell hcell0 o1 o2 hx
    clear hvr hok
    replace hx:=aj hx
    go_wp2_with (((with_reducible refine gL ?_);first | refine gY hS rfl rfl rfl ?_ | refine nC hS rfl rfl rfl ?_);refine ⟨_,zd,?_⟩;clear hS;(try clear w');intro a' hp;(try simp only [fr] at hp);subst hp;intro w' hS;(try simp only [sE] at hS))
    go_roundw
    case rel =>
     refine ⟨f,rfl,o1,by omega,?_,hS⟩
     have hx:=hx.out
     by_cases hf:0≤f
     ·rw [if_pos hf]
      rw [decide_eq_true hf,Bool.true_and] at hx
      exact hx
     ·rw [if_neg hf]
      rw [decide_eq_false hf,Bool.false_and] at hx
      exact hx.symm
    case measure=>simp only [intOf];omega
  ·rw [if_neg h0] at hx
   obtain rfl:x=-1:=by omega
   have hv':((-1:Int) == (v:Int))=false:=by rw [beq_eq_false_iff_ne];omega
   replace hx:=aj hx
   clear hvr
   go_wp2_with (fail)
   ((try simp only [Exit.inBlock,Exit.then]);(try refine aB ?_);refine bK ⟨_,by exact bH (r1:=.tmp 6) (by kernel_rfl) (by exact bD rfl),?_⟩ rfl)
   exact ⟨by rw [hx.out];try rw [hv'],hS.bM⟩
theorem xG {k:Wk} {l:List je} {vv rv rv':Value} {w0:World} {V:View} {L:List dF} {w:World} (h:St w0 [] V (.row rv' 59 4 l.length (fH l) :: L) w) (hg:Go.Wg.gN≤w0.heap.size) (hk:iJ V vv rv k) (hl:l.length≤100) :
  ∃ V',(∀ j o,V j=some o→V' j=some o)∧St w0 [] V' L w∧iJ V' vv rv' ⟨k.ves,l⟩:=by
 have hr4:∀ v:je,v.cells.length=4:=fun _=>rfl
 have hfl:∀ i,i < l.length→l[i]? = some (l.getD i default):=fun i hi=>by simp [List.getD_eq_getElem?_getD,List.getElem?_eq_getElem hi]
 obtain ⟨D,hD,hvD,_⟩:=hk.cl
 rcases rO h with ⟨rfl,h0⟩ | ⟨g,cap,pad,rfl,c1,c2,c3,c4,c5,h1⟩
 ·exact ⟨V,fun _ _ h=>h,h.drop,⟨hk.ves,⟨none,0,by show Value.slice none 0 0=.slice none l.length 0;rw [h0],by show l.length≤0;omega,by decide,fun hn=>by
   have:0 < l.length:=hn
   omega⟩,⟨hk.small.1,hl⟩,D,hD,hvD,.inl rfl⟩⟩
 ·have hgV:=h1.off _ (List.mem_cons_self ..) g rfl
  have hgn:Go.Wg.gN≤g:=by
   rcases h1.new _ (List.mem_cons_self ..) _ rfl with h2 | h2
   ·omega
   ·cases h2
  have h2:=h1.freeze
  have m1:=oG (o:=.cells (fH l ++ pad).toArray 59 (0,0)) hgV
  refine ⟨_,m1,h2,⟨pW.mono hk.ves m1,⟨_,cap,rfl,c1,c2,fun _=>⟨g,0,rfl,fun i hi=>En hr4 (if_pos rfl) (hfl i hi)⟩⟩,⟨hk.small.1,hl⟩,g :: D,⟨fun b hb=>?_,fun b hb=>?_,?_⟩,KY (fun b hb=>List.mem_cons_of_mem _ hb) hvD,.inr (.inr ⟨g,0,_,_,rfl,by simp⟩)⟩⟩
  ·rcases List.mem_cons.1 hb with rfl | hb
   ·refine ⟨_,_,if_pos rfl,fun v hv=>.inl ?_⟩
    rcases List.mem_append.1 (by simpa using hv) with hv | hv
    ·exact zS _ v hv
    ·exact c5 v hv
   ·obtain ⟨cs,t,e1,e2⟩:=hD.cells b hb
    exact ⟨cs,t,m1 _ _ e1,fun v hv=>KY (fun b hb=>List.mem_cons_of_mem _ hb) (e2 v hv)⟩
  ·rcases List.mem_cons.1 hb with rfl | hb
   ·exact hgn
   ·exact hD.ge b hb
  ·obtain ⟨o,ho⟩:=hD.last
   exact ⟨o,m1 _ _ ho⟩
theorem RP {l:List Int} {v:Value} {X:List Nat} {w0:World} {V:View} {L:List dF} {w:World} (h:St w0 X V (.row v 3 1 l.length (aV l) :: L) w):∃ V',(∀ j o,V j=some o→V' j=some o)∧St w0 X V' L w∧VI V' v l:=by
 rcases rO h with ⟨rfl,h0⟩ | ⟨g,cap,pad,rfl,c1,c2,c3,c4,c5,h1⟩
 ·exact ⟨V,fun _ _ h=>h,h.drop,⟨⟨none,0,by rw [h0],by omega,by decide,fun hn=>by omega⟩⟩⟩
 ·have hgV:=h1.off _ (List.mem_cons_self ..) g rfl
  refine ⟨_,oG hgV,h1.freeze,⟨⟨_,cap,rfl,c1,c2,fun _=>⟨g,0,rfl,fun i hi j u hj=>?_⟩⟩⟩⟩
  obtain rfl:j=0:=by
   cases j with
   | zero=>rfl
   | succ j=>simp at hj
  simp only [List.getElem?_cons_zero,Option.some.injEq] at hj
  subst hj
  refine ⟨_,_,_,if_pos rfl,?_⟩
  rw [List.getElem?_toArray,Nat.mul_one,Nat.zero_add,Nat.add_zero,List.getElem?_append_left (by rw [iD];exact hi)]
  exact nI rfl hi
open Go.Wk
open Go Go.Sr Go.Ph Go.Tm Go.Conc
def jk (w:World) (b n:Nat) (l:List Nat):Prop :=
 ∃ D:DataW Nat,Go.Maps.IsMap D∧w.ownsMap Tryd.prog 95 (plainElem Tryd.prog 4) b n D∧∀ m:Nat,m < 18446744073709551616→D.atKey (.int .u64 (m:Int)) (.lit (.bool false))=.lit (.bool (l.contains m))
theorem Zp {m:Nat} (h:m < 18446744073709551616):(Lit.int .u64 (m:Int)).wf=true:=by
 simp [Lit.wf,IntKind.min,IntKind.max,IntKind.bits,IntKind.signed]
 omega
theorem Yr {m:Nat} (h:m < 18446744073709551616):keyOf Tryd.prog 95 (.int .u64 (m:Int))=some (.int .u64 (m:Int)):=Go.Maps.keyOf_int_mk Tryd.underlying95 (Zp h)
theorem jk.made (w:World):jk (w.alloc (.map #[] 0)) w.heap.size 0 [] :=
 ⟨.map [],Go.Maps.isMap_empty,World.ownsMap_made w _ _ _,fun m _=>rfl⟩
theorem jk.of_heap {w w':World} {b n:Nat} {l:List Nat} (h:jk w b n l) (hb:w'.heap[b]? = w.heap[b]?):jk w' b n l:=by
 obtain ⟨D,h1,⟨es,clock,h2,h3,h4,h5⟩,h6⟩:=h
 exact ⟨D,h1,⟨es,clock,hb.trans h2,h3,h4,h5⟩,h6⟩
theorem jk.lt {b n:Nat} {l:List Nat} (h:jk w b n l):b < w.heap.size:=by
 obtain ⟨D,_,h,_⟩:=h
 exact h.lt
theorem jk.obj {b n:Nat} {l:List Nat} (h:jk w b n l):∃ es clock,w.heap[b]? = some (.map es clock):=by
 obtain ⟨D,_,⟨es,clock,h,_⟩,_⟩:=h
 exact ⟨es,clock,h⟩
theorem aaI (w:World):(zeroValue 4).run Tryd.prog w=.ok (.bool false) w:=by
 have hi:(Tryd.prog.info? 4).bind (·.zero)=some (.bool false):=by kernel_rfl
 cases hq:Tryd.prog.info? 4 with
 | none=>rw [hq] at hi;cases hi
 | some i =>
  rw [hq] at hi
  have hz:i.zero=some (.bool false):=by simpa using hi
  simp [Go.zeroValue,Go.typeInfo,hq,hz]
theorem WV {P:Program} {e:TypeId} (he:P.underlying e=some .bool) {v:Value} {x:Bool} {ps:List MemPlace} (h:plainElem (H:=Nat) P e v=some (.lit (.bool x),ps)):v=.bool x:=by
 unfold plainElem at h
 rw [he] at h
 cases v <;> simp at h
 rw [h.1]
theorem jk.look {b n:Nat} {l:List Nat} (h:jk w b n l) {m:Nat} (hm:m < 18446744073709551616):(Instr.lookup 134 (.map (some b)) (.int .u64 (m:Int)) false).run Tryd.prog w=.ok (.bool (l.contains m)) w:=by
 obtain ⟨D,h1,h2,h3⟩:=h
 obtain ⟨v,ps,hr,hv⟩:=h2.lookup (Go.Maps.int_keyed Tryd.underlying95) Tryd.underlying134 (aaI w) (plainElem_bool Tryd.underlying4 false) (Yr hm)
 rw [h3 m hm] at hv
 have e:v=.bool (l.contains m):=WV Tryd.underlying4 hv
 subst e
 exact hr
theorem jk.put {b n:Nat} {l:List Nat} (h:jk w b n l) {m:Nat} (hm:m < 18446744073709551616) (hn:n < 1000000):∃ w',(Instr.mapUpdate 134 (.map (some b)) (.int .u64 (m:Int)) (.bool true)).run Tryd.prog w=.ok () w'∧jk w' b (n+1) (m :: l)∧w.grownBy w' (some b):=by
 obtain ⟨D,h1,h2,h3⟩:=h
 obtain ⟨w',hr,ho,hg⟩:=h2.update (Go.Maps.int_keyed Tryd.underlying95) Tryd.underlying134 (Nat.lt_trans hn (by decide)) (Yr hm) (plainElem_bool Tryd.underlying4 true)
 refine ⟨w',hr,⟨D.put (.int .u64 (m:Int)) (.lit (.bool true)),?_,ho,fun m' hm'=>?_⟩,hg⟩
 ·obtain ⟨es,rfl⟩:=h1
  exact ⟨_,rfl⟩
 ·by_cases e:m'=m
  ·subst e
   rw [Go.Maps.atKey_put_same h1 (by simp [Go.WideAt.IsKeyLit])]
   simp
  ·rw [Go.Maps.atKey_put_other (by
    intro h
    simp only [Lit.int.injEq,true_and] at h
    exact e (by omega)),h3 m' hm']
   simp [e]
theorem DX {o:Oper} {ρ:Operand→Value} (ho:o.op=.makeMap 134 none) (w:World):(execOp ρ o).run Tryd.prog w=.ok (.value (.map (some w.heap.size))) (w.alloc (.map #[] 0)):=by
 unfold execOp
 simp [ho,Instr.makeMap,Tryd.underlying134]
set_option maxRecDepth 20000 in
theorem Nl (a:Int × Int) (h:Pb 100000000000 a) (w:World) :
  Calls Tryd.prog 98 #[aJ a] w fun r w'=>r=.returned (.int .i64 (oQ a))∧Kp w w':=by
 unfold Pb at h
 unfold oQ
 obtain ⟨a1,a2⟩:=a
 simp only at h
 obtain ⟨h1,h2,h3,h4⟩:=h
 have hS:=St.start w (fun _=>none) (fun k o h=>by cases h)
 unfold aJ
 go_enter Tryd.func98,Tryd.ntmps98
 go_wp2_with (first | (((with_reducible refine gL ?_);refine gY hS rfl rfl rfl ?_);refine ⟨_,zd,?_⟩;clear hS;(try clear w');intro a' hp;(try simp only [fr] at hp);subst hp;intro w' hS;(try simp only [sE] at hS)) | (((with_reducible refine gB ?_);refine jQ hS rfl rfl rfl ?_;refine ⟨_,za,?_⟩);clear hS;(try clear w');intro _;intro a' hp;(try simp only [fr] at hp);subst hp;intro w' hS))
 go_ret
 exact ⟨rfl,hS.bM⟩
theorem GH (k:Wk) (hk:k.n≤6) (s:SS) (st:Bool) (hlo:∀ i,0≤(s.aP i).1):Pb 70589400 (dW k s st):=by
 rw [Dw]
 have h:=Xv (l:=k.sources.map (kX k s st)) (c:=11764900) (fun x hx=>by
  obtain ⟨i,_,rfl⟩:=List.mem_map.1 hx
  exact Hy k hk s st hlo i)
 refine h.mono ?_
 have:=Nat.le_trans (sD k k.n) hk
 rw [List.length_map]
 have e:k.sources.length≤6:=this
 omega
variable {DS:List Deferred}
noncomputable def B43:Code:=match Tryd.f43.body with | some c=>c | none=>.skip
noncomputable def N5:Code:=match B43 with | .seq _ (.seq _ (.seq _ (.seq _ r)))=>r | _=>.skip
noncomputable def N8:Code:=match N5 with | .seq _ (.seq _ r)=>r | _=>.skip
noncomputable def ops8:Array Oper:=match N8 with | .seq (.region _ o _) _=>o | _=>#[]
noncomputable def N9:Code:=match N8 with | .seq _ r=>r | _=>.skip
noncomputable def NL1:Code:=match N9 with | .seq (.seq _ (.block _ (.loop l))) _=>l | _=>.skip
noncomputable def NK:Code:=match N9 with | .seq _ r=>r | _=>.skip
noncomputable def NB1:Code:=match NL1 with | .seq _ (.seq _ (.seq (.block _ b) _))=>b | _=>.skip
noncomputable def abl:Code:=match NL1 with | .seq _ (.seq _ (.seq _ r))=>r | _=>.skip
noncomputable def N15:Code:=match NB1 with | .seq _ (.seq _ (.seq _ (.seq _ r)))=>r | _=>.skip
noncomputable def YN:Code:=match N15 with | .seq (.seq _ (.block _ (.loop l))) _=>l | _=>.skip
noncomputable def NQ:Code:=match N15 with | .seq _ r=>r | _=>.skip
noncomputable def aa1:Code:=match YN with | .seq _ (.seq _ r)=>r | _=>.skip
noncomputable def YE:Array Oper:=match YN with | .seq _ (.seq (.block _ (.seq _ (.seq _ (.seq _ (.seq _ (.region _ o _)))))) _)=>o | _=>#[]
noncomputable def TT (l:List Nat):List Item:=[.inRegion ops8 l,.code N9]
noncomputable def jO:List Item:=[.code NL1,.inLoop NL1,.inBlock 0,.code NK]
noncomputable def U4:List Item:=[.inBlock 2,.code NQ,.inBlock 1,.code abl,.inLoop NL1,.inBlock 0,.code NK]
noncomputable def iH:List Item:=.code YN :: .inLoop YN :: U4
noncomputable def Ep (l:List Nat):List Item:=.inRegion YE l :: .inBlock 3 :: .code aa1 :: .inLoop YN :: U4
def kH (v1 v6 v7 v8 v9 v10 v11 v12 v13 v14 v15 v37 v38:Value) (f:Nat→Value):Array Value :=
 #[f 0,v1,f 2,f 3,f 4,f 5,v6,v7,v8,v9,v10,v11,v12,v13,v14,v15,f 16,f 17,f 18,f 19,f 20,f 21,f 22,f 23,f 24,f 25,f 26,f 27,f 28,f 29,f 30,f 31,f 32,f 33,f 34,f 35,f 36,v37,v38,f 39,f 40,f 41,f 42,f 43,f 44,f 45,f 46,f 47,f 48,f 49,f 50,f 51,f 52,f 53,f 54,f 55,f 56,f 57,f 58,f 59,f 60,f 61,f 62,f 63,f 64,f 65,f 66,f 67,f 68,f 69,f 70,f 71,f 72,f 73,f 74,f 75,f 76,f 77,f 78,f 79,f 80,f 81,f 82,f 83,f 84,f 85,f 86,f 87,f 88,f 89,f 90,f 91,f 92,f 93,f 94,f 95,f 96,f 97,f 98,f 99,f 100,f 101,f 102,f 103,f 104,f 105]
theorem qO {a:Act} {v1 v6 v7 v8 v9 v10 v11 v12 v13 v14 v15 v37 v38:Value} {ds:List Deferred} (h:a=⟨kH v1 v6 v7 v8 v9 v10 v11 v12 v13 v14 v15 v37 v38 (fun j=>a.tmps.getD j undef),ds⟩):∃ f,a=⟨kH v1 v6 v7 v8 v9 v10 v11 v12 v13 v14 v15 v37 v38 f,ds⟩:=⟨_,h⟩
structure NX (V:View) (p:Nat) (k:Wk) (D:List Nat) (b8:Nat) (s:SS):Prop where
 cel:jh V p k
 gv:GV V
 cl:Closed V D
 pD:p∈D
 s8:V.Range b8 0 (dJ s)
set_option maxRecDepth 20000 in
theorem PX (vv rv:Value) (k:Wk) (hk:iJ V vv rv k) (hG:GV V) (hV:V.In w) (err:Int) (hb:aS k []=0) (ho:fQ err 0 9=false) (hst:Go.Wg.settle k (aN k aC)=none) :
  fA Tryd.prog (TT [2,3,4,5]) (fun a w'=>∃ p V' D b6 b8,((∃ f,a=⟨kH (.int .i64 err) (ptr b6) (ptr p) (ptr b8) undef undef undef undef undef undef undef undef undef f,[dC b6]⟩)∧a.tmps[29]? = some (ptr p)∧a.tmps[30]? = some (.agg (dJ (aN k aC)).toArray)) ∧
    NX V' p k D b8 (aN k aC)∧St w [] V' [.blk b6 38 [.int .i64 0]] w')
   [.code B43] { tmps:=#[.agg #[vv,rv],.int .i64 err] ++ Array.replicate 104 undef,defers:=[] } w:=by
 have hk0:=hk
 obtain ⟨va,vcap,rfl,hvc,hvm,hve⟩:=hk0.ves.is
 obtain ⟨ra,rcap,rfl,hrc,hrm,hre⟩:=hk0.rdg.is
 have hS:=St.start w V hV
 clear hk0 hve hre
 have hok:=dP hb
 have hcan:can k (aN k aC)=true:=by unfold can;rw [hst];rfl
 have HL:(dJ (aN k aC)).length=18:=dG (gG _ _)
 replace hst:=aj hst;replace hcan:=aj hcan;replace hb:=aj hb
 simp only [Array.replicate_succ,Array.replicate_zero,List.push_toArray,List.append_toArray,List.nil_append,List.cons_append]
 unfold ptr
 refine au (aA ?_)
 go_wp2_with (first | ((with_reducible refine gA ?_);refine aT 6 rfl hS rfl rfl ?_;clear hS;(try clear w');intro b6;intro a' hp;(try simp only [fr] at hp);subst hp;intro w' hS) | (((with_reducible refine gB ?_);refine jQ hS rfl rfl rfl ?_;refine ⟨_,za,?_⟩);clear hS;(try clear w');intro _;intro a' hp;(try simp only [fr] at hp);subst hp;intro w' hS))
 refine au (aA ?_)
 go_wp2_with (fail)
 refine au (aA ?_)
 go_wp2_with (first | ((first | ((with_reducible refine gL ?_);refine lW hS rfl rfl rfl ?_) | ((with_reducible refine gS ?_);refine pX hS rfl rfl rfl ?_));refine ⟨_,zd,?_⟩;clear hS;(try clear w');intro a' hp;(try simp only [fr] at hp);subst hp;intro w' hS;(try simp only [sE] at hS)) | (go_at_call 77;refine zG hS hk pG (by simp) hb.out ?_;clear hS;(try clear w');intro p V' w' D hVV hcel hD hpD hS;have hG':GV V':=hG.mono hVV))
 refine au (au (aA ?_))
 go_wp2_with (((with_reducible refine gL ?_);refine gY hS rfl rfl rfl ?_);refine ⟨_,zd,?_⟩;clear hS;(try clear w');intro a' hp;(try simp only [fr] at hp);subst hp;intro w' hS;(try simp only [sE] at hS))
 refine dZ (t:=false) rfl (lu ?_)
 refine au (au (aA ?_))
 go_wp2_with (go_at_call 88;refine aH hS ⟨_,fB _ _ _ _,?_⟩;rw [ho];clear hS;(try clear w');intro w' hS)
 refine dZ (t:=false) rfl (lu ?_)
 refine au (aA ?_)
 go_wp2_with (first | (first | (((with_reducible refine gS ?_);refine bQ hS rfl rfl rfl ?_);refine ⟨_,zd,?_⟩;clear hS;(try clear w');intro a' hp;(try simp only [fr] at hp);subst hp;intro w' hS;(try simp only [sE] at hS)) | ((with_reducible refine gA ?_);refine aT 8 rfl hS rfl rfl ?_;clear hS;(try clear w');intro b8;intro a' hp;(try simp only [fr] at hp);subst hp;intro w' hS)) | (go_at_call 83;refine aH hS ⟨_,y8 V' p k hcel hok hcan.out _ (St.view hS),?_⟩;clear hS;(try clear w');intro w' hS))
 obtain ⟨V1,hV1,hcell,hS'⟩:=pin hS
 clear hS
 have hS:=hS'
 clear hS'
 have hr8:V1.Range b8 0 (dJ (aN k aC)):=fun j v hj=>by rw [Nat.zero_add];exact hcell j v hj
 refine au (ig ?_)
 refine cO (i:=0) (v:=.pointer (some ⟨p,0,none⟩)) (w':=w') rfl rfl rfl ?_
 refine cO (i:=1) rfl rfl (iy (n:=18) rfl rfl jS.ok HL (hr8.range hS.view)) ?_
 exact bG (tgt:=TT [2,3,4,5]) ⟨p,V1,D,b6,b8,⟨qO rfl,rfl,rfl⟩,⟨by obtain ⟨ts,x,y,hc⟩:=hcel;exact ⟨ts,x,y,hc.mono hV1⟩,hG'.mono hV1,kM hD hV1,hpD,hr8⟩,hS.sub (List.Sublist.cons_cons _ (List.Sublist.cons _ (List.Sublist.refl _)))⟩
set_option maxRecDepth 20000 in
theorem aas {p:Nat} {k:Wk} {D:List Nat} {b8:Nat} {s:SS} (hX:NX V p k D b8 s) (v1 v6 v8 v9 v10 v11 v12 v13 v14 v15 v37 v38:Value) (f:Nat→Value) (r:Int × Int) (hr:Pb 100000000000 r) (h31:f 31=aJ r) (hV:V.In w) :
  fA Tryd.prog jO (fun a w'=>(∃ f,a=⟨kH v1 v6 (ptr p) v8 (.int .i64 (-1)) (.int .i64 (oQ r)) v11 v12 v13 v14 v15 (.int .i64 k.n) (.int .i64 0) f,DS⟩)∧Kp w w')
   (TT [3,4,5]) ⟨kH v1 v6 (ptr p) v8 v9 v10 v11 v12 v13 v14 v15 v37 v38 f,DS⟩ w:=by
 obtain ⟨ts,vv,rv,hC⟩:=hX.cel
 obtain ⟨g,cap,hc2,hts⟩:=hC.c2
 have hn0:=hC.pos
 have hn6:=hC.le
 have hS:=St.start w V hV
 rw [show kH v1 v6 (ptr p) v8 v9 v10 v11 v12 v13 v14 v15 v37 v38 f=#[f 0,v1,f 2,f 3,f 4,f 5,v6,.pointer (some ⟨p,0,none⟩),v8,v9,v10,v11,v12,v13,v14,v15,f 16,f 17,f 18,f 19,f 20,f 21,f 22,f 23,f 24,f 25,f 26,f 27,f 28,f 29,f 30,aJ r,f 32,f 33,f 34,f 35,f 36,v37,v38,f 39,f 40,f 41,f 42,f 43,f 44,f 45,f 46,f 47,f 48,f 49,f 50,f 51,f 52,f 53,f 54,f 55,f 56,f 57,f 58,f 59,f 60,f 61,f 62,f 63,f 64,f 65,f 66,f 67,f 68,f 69,f 70,f 71,f 72,f 73,f 74,f 75,f 76,f 77,f 78,f 79,f 80,f 81,f 82,f 83,f 84,f 85,f 86,f 87,f 88,f 89,f 90,f 91,f 92,f 93,f 94,f 95,f 96,f 97,f 98,f 99,f 100,f 101,f 102,f 103,f 104,f 105] from by unfold kH ptr;rw [h31]]
 refine rZ (i:=3) rfl rfl (run_call_body rfl Tryd.func98 (by kernel_rfl) rfl) ?_
 simp only [List.map_toArray,List.map_cons,List.map_nil]
 show Calls Tryd.prog 98 #[aJ r] w _
 refine (Nl r hr w).mono ?_
 rintro e w2 ⟨rfl,hkp⟩
 refine ⟨_,rfl,?_⟩
 replace hS:=hS.kp hkp
 refine cO (i:=4) (v:=.int .i64 (-1)) (w':=w2) rfl rfl rfl ?_
 refine cO (i:=5) (v:=.int .i64 (oQ r)) (w':=w2) rfl rfl rfl ?_
 refine dH ?_
 show fA Tryd.prog jO _ _ ⟨#[f 0,v1,f 2,f 3,f 4,f 5,v6,.pointer (some ⟨p,0,none⟩),v8,.int .i64 (-1),.int .i64 (oQ r),v11,v12,v13,v14,v15,f 16,f 17,f 18,f 19,f 20,f 21,f 22,f 23,f 24,f 25,f 26,f 27,f 28,f 29,f 30,aJ r,.int .i64 (oQ r),f 33,f 34,f 35,f 36,v37,v38,f 39,f 40,f 41,f 42,f 43,f 44,f 45,f 46,f 47,f 48,f 49,f 50,f 51,f 52,f 53,f 54,f 55,f 56,f 57,f 58,f 59,f 60,f 61,f 62,f 63,f 64,f 65,f 66,f 67,f 68,f 69,f 70,f 71,f 72,f 73,f 74,f 75,f 76,f 77,f 78,f 79,f 80,f 81,f 82,f 83,f 84,f 85,f 86,f 87,f 88,f 89,f 90,f 91,f 92,f 93,f 94,f 95,f 96,f 97,f 98,f 99,f 100,f 101,f 102,f 103,f 104,f 105],DS⟩ w2
 generalize oQ r=sz
 generalize aJ r=sv
 refine au (au (aA ?_))
 go_wp2_with (((with_reducible refine gL ?_);refine nC hS rfl rfl rfl ?_);refine ⟨_,zd,?_⟩;clear hS;(try clear w');intro a' hp;(try simp only [fr] at hp);subst hp;intro w' hS;(try simp only [sE] at hS))
 refine jg (zh ?_)
 exact bG (tgt:=jO) ⟨qO rfl,hS.bM⟩
end Go.Proofs.YtjjmefieegcddaaDoor
