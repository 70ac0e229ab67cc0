/- A part of the proof: S33, Q9, W95, W96. -/
import Derived.Test.YtjjmefieegcddaaDoorG17
import Derived.Test.YtjjmefieegcddaaDoorG16
import Derived.Test.YtjjmefieegcddaaDoorG15
set_option linter.unusedVariables false
set_option linter.unusedSimpArgs false
set_option maxHeartbeats 8000000
set_option maxRecDepth 20000
namespace Go.Wg
open Go Go.Mm Go.Proofs.YtjjmefieegcddaaDoor
theorem aeM {k k':Wk} (hf:∀ i,k'.fills i=k.fills i) (s:SS) (st:Bool):∀ f i,jm k' s st f i=jm k s st f i:=fun f=>by
 induction f with
 | zero=>intro i;rfl
 | succ f ih =>
  intro i
  have e:(fun sm x=>pR sm (jm k' s st f x))=fun sm x=>pR sm (jm k s st f x):=funext fun sm=>funext fun x=>by rw [ih x]
  rw [jm,jm,hf i,e]
theorem aeP {k k':Wk} (hv:k'.ves=k.ves) (s:SS) (st:Bool):dW k' s st=dW k s st:=by
 have hn:k'.n=k.n:=by unfold Wk.n;rw [hv]
 have hvj:∀ j,k'.v j=k.v j:=fun j=>by unfold Wk.v;rw [hv]
 have hf:∀ i,k'.fills i=k.fills i:=fun i=>by
  unfold Wk.fills
  rw [hn]
  simp only [hvj]
 have hs:k'.sources=k.sources:=by
  unfold Wk.sources
  rw [hn]
  simp only [hvj]
 have e:∀ i,kX k' s st i=kX k s st i:=fun i=>by
  unfold kX Qg
  rw [hn,aeM hf]
 unfold dW
 rw [hs]
 simp only [e]
theorem afd {k k':Wk} (hv:k'.ves=k.ves) (s:SS):can k' s=can k s:=by
 have hn:k'.n=k.n:=by unfold Wk.n;rw [hv]
 have hvj:∀ j,k'.v j=k.v j:=fun j=>by unfold Wk.v;rw [hv]
 refine adz hn (fun i=>?_) s
 unfold Wk.fills
 rw [hn]
 simp only [hvj]
theorem aeK (k:Wk) (v:Nat) (sc shown err:Int):aN (k.plus ⟨(v:Int),sc,shown,err⟩) aC=(aN k aC).cu v (jA (aN k aC) v err shown):=by
 rw [G9]
 unfold lU
 rw [if_neg (by simp [aC])]
 simp only [Int.toNat_natCast]
 rfl
theorem ae1 {s:SS} (hs:s.WF) {v:Nat} (hv:v < 6) (m j:Nat):(s.cu v m).aK j=if v=j then m else s.aK j:=fC _ _ _ _ _ (by rw [hs.lim];exact hv)
theorem SS.WF.nx {s:SS} (hs:s.WF) (v:Nat) (err shown:Int):(s.cu v (jA s v err shown)).WF:=by
 refine ⟨by simp [SS.cu,hs.lim],hs.los,fun m hm=>?_⟩
 rcases List.mem_or_eq_of_mem_set hm with h | rfl
 ·exact hs.small m h
 ·exact Nat.lt_of_le_of_lt Nat.and_le_left (hs.fZ v)
theorem aez {k:Wk} (h6:k.n≤6) {s:SS} (hs:s.WF) {v:Nat} (hv:v < k.n) (err shown:Int) (w:Nat→Nat):Hu k (s.cu v (jA s v err shown)) w↔Hu k s w∧shown - err≤w v∧(w v:Int)≤shown+err:=by
 have e:=fun j=>ae1 hs (v:=v) (by omega) (jA s v err shown) j
 have hb:∀ m:Nat,(jA s v err shown).testBit m=true↔(s.aK v).testBit m=true∧shown - err≤m∧(m:Int)≤shown+err:=fun m=>by
  unfold jA
  rw [Nat.testBit_and,Bool.and_eq_true,wI]
  simp only [Bool.and_eq_true,decide_eq_true_eq]
  constructor
  ·rintro ⟨h1,h2⟩;exact ⟨h1,by omega⟩
  ·rintro ⟨h1,h2⟩
   have:=GU hs h1
   exact ⟨h1,by omega⟩
 constructor
 ·intro h
  have hv1:=(h v hv).1
  rw [e,if_pos rfl,hb] at hv1
  refine ⟨fun j hj=>?_,hv1.2⟩
  obtain ⟨h1,h2⟩:=h j hj
  rw [e] at h1
  by_cases c:v=j
  ·subst c;exact ⟨hv1.1,h2⟩
  ·rw [if_neg c] at h1;exact ⟨h1,h2⟩
 ·rintro ⟨h,hw⟩ j hj
  obtain ⟨h1,h2⟩:=h j hj
  refine ⟨?_,h2⟩
  rw [e]
  by_cases c:v=j
  ·subst c;rw [if_pos rfl,hb];exact ⟨h1,hw⟩
  ·rw [if_neg c];exact h1
def nxC (k:Wk) (s:SS) (v:Nat) (err shown:Int):Bool:=can k (s.cu v (jA s v err shown))
def nxF (k:Wk) (s:SS) (v:Nat) (err shown:Int):Int:=oQ (dW k (s.cu v (jA s v err shown)) false)
def aev (k:Wk) (s:SS) (v:Nat) (err lo:Int):Nat→Int
 | 0=>0
 | c+1=>if nxC k s v err (lo+c) then max (aev k s v err lo c) (nxF k s v err (lo+c)) else aev k s v err lo c
theorem aeB (k:Wk) (s:SS) (v:Nat) (err lo:Int) (c:Nat):∀ j:Nat,j < c→nxC k s v err (lo+j)=true→nxF k s v err (lo+j)≤aev k s v err lo c:=by
 induction c with
 | zero=>exact fun j hj=>absurd hj (by omega)
 | succ c ih =>
  intro j hj hc
  rw [aev]
  by_cases e:j=c
  ·subst e;rw [if_pos hc];omega
  ·have:=ih j (by omega) hc
   split
   ·omega
   ·exact this
theorem aeC (k:Wk) (s:SS) (v:Nat) (err lo:Int) (c:Nat):0≤aev k s v err lo c∧(aev k s v err lo c=0∨∃ j:Nat,j < c∧nxC k s v err (lo+j)=true∧aev k s v err lo c=nxF k s v err (lo+j)):=by
 induction c with
 | zero=>exact ⟨Int.le_refl _,.inl rfl⟩
 | succ c ih =>
  rw [aev]
  obtain ⟨h0,h1⟩:=ih
  have hup:(aev k s v err lo c=0∨∃ j:Nat,j < c+1∧nxC k s v err (lo+j)=true∧aev k s v err lo c=nxF k s v err (lo+j)):=h1.imp_right fun ⟨j,a,b⟩=>⟨j,by omega,b⟩
  split
  ·rename_i hc
   refine ⟨by omega,?_⟩
   rcases Int.le_total (aev k s v err lo c) (nxF k s v err (lo+c)) with h | h
   ·rw [Int.max_eq_right h];exact .inr ⟨c,by omega,hc,rfl⟩
   ·rw [Int.max_eq_left h];exact hup
  ·exact ⟨h0,hup⟩
theorem ae5 (k:Wk) (s:SS) (v:Nat) (err lo:Int) (c:Nat):(Kw k s v err lo c).2=aev k s v err lo c∧∀ y∈(Kw k s v err lo c).1,∃ j:Nat,j < c∧nxC k s v err (lo+j)=true∧y=jA s v err (lo+j):=by
 induction c with
 | zero=>exact ⟨rfl,fun y hy=>by cases hy⟩
 | succ c ih =>
  obtain ⟨h1,h2⟩:=ih
  have h2':∀ y∈(Kw k s v err lo c).1,∃ j:Nat,j < c+1∧nxC k s v err (lo+j)=true∧y=jA s v err (lo+j):=fun y hy=>by
   obtain ⟨j,a,b⟩:=h2 y hy
   exact ⟨j,by omega,b⟩
  rw [Kw,aev]
  unfold PL
  by_cases hc:nxC k s v err (lo+c)=true
  ·rw [if_pos hc]
   unfold nxC at hc
   by_cases hm:(Kw k s v err lo c).1.contains (jA s v err (lo+c))=true
   ·rw [if_pos (by rw [hm];rfl)]
    refine ⟨?_,h2'⟩
    obtain ⟨j,a,b,d⟩:=h2 _ (List.contains_iff_mem.1 hm)
    have:=aeB k s v err lo c j a b
    have e:nxF k s v err (lo+c)=nxF k s v err (lo+j):=by unfold nxF;rw [d]
    rw [h1,e]
    omega
   ·rw [if_neg (by rw [hc];simpa using hm)]
    refine ⟨by simp only;rw [h1];rfl,fun y hy=>?_⟩
    rcases List.mem_cons.1 hy with rfl | hy
    ·exact ⟨c,by omega,hc,rfl⟩
    ·exact h2' y hy
  ·rw [if_neg hc]
   unfold nxC at hc
   rw [if_pos (by rw [Bool.or_eq_true];right;simpa using hc)]
   exact ⟨h1,h2'⟩
theorem aeU {k:Wk} (hok:k.Ok) {w0:Nat→Nat} (h0:Hu k (aN k aC) w0) {v:Nat} (hv:v < k.n) {err:Int} (he:0≤err):qK k (aN k aC) v err=aev k (aN k aC) v err 0 ((k.v v).room+err+1).toNat:=by
 have hs:=gG k aC
 have hl:=QU k hok aC
 have hW:=aeQ hok hv h0
 have hroom:∀ w,Hu k (aN k aC) w→(w v:Int)≤(k.v v).room:=fun w hw=>by
  have h1:=(hw v hv).1
  rw [Dh hok.le (yF hok) aC hv,TQ,wI] at h1
  have:=h1.1
  simp only [Bool.and_eq_true,decide_eq_true_eq] at this
  omega
 have hcan:∀ shown,nxC k (aN k aC) v err shown=true↔∃ w,Hu k (aN k aC) w∧shown - err≤w v∧(w v:Int)≤shown+err:=fun shown=>by
  unfold nxC
  rw [QS hok (hs.nx v err shown)]
  exact ⟨fun ⟨w,hw⟩=>⟨w,(aez hok.le hs hv err shown w).1 hw⟩,fun ⟨w,hw⟩=>⟨w,(aez hok.le hs hv err shown w).2 hw⟩⟩
 have hlos:∀ shown i,0≤(((aN k aC).cu v (jA (aN k aC) v err shown)).aP i).1:=fun shown i=>hl i
 have hneg:∀ shown,shown≤0→nxC k (aN k aC) v err shown=true→nxC k (aN k aC) v err 0=true∧nxF k (aN k aC) v err shown≤nxF k (aN k aC) v err 0:=fun shown hsh hc=>by
  obtain ⟨w,hw1,hw2⟩:=(hcan shown).1 hc
  have hc0:nxC k (aN k aC) v err 0=true:=(hcan 0).2 ⟨w,hw1,by omega⟩
  refine ⟨hc0,?_⟩
  have t1:=ab8 hok (hs.nx v err shown) (hlos shown) false ((aez hok.le hs hv err shown w).2 ⟨hw1,hw2⟩)
  have t2:=ab8 hok (hs.nx v err 0) (hlos 0) false ((aez hok.le hs hv err 0 w).2 ⟨hw1,by omega⟩)
  have:=t1.sub t2 fun y ⟨u,hu,hy⟩=>⟨u,(aez hok.le hs hv err 0 u).2 (by
   obtain ⟨a,b⟩:=(aez hok.le hs hv err shown u).1 hu
   exact ⟨a,by omega⟩),hy⟩
  unfold nxF oQ
  omega
 obtain ⟨wa,ha1,ha2⟩:=hW.lo
 obtain ⟨wb,hb1,hb2⟩:=hW.hi
 have hbr:=hroom wb hb1
 unfold qK Ia
 rw [(ae5 k (aN k aC) v err _ _).1]
 generalize hr:aO k (aN k aC) v=r at hW ha2 hb2
 obtain ⟨p0,p1⟩:=aeC k (aN k aC) v err (r.1 - err) (r.2+err - (r.1 - err)+1).toNat
 obtain ⟨q0,q1⟩:=aeC k (aN k aC) v err 0 ((k.v v).room+err+1).toNat
 have hpu:=aeB k (aN k aC) v err (r.1 - err) (r.2+err - (r.1 - err)+1).toNat
 have hqu:=aeB k (aN k aC) v err 0 ((k.v v).room+err+1).toNat
 refine Int.le_antisymm ?_ ?_
 ·rcases p1 with p1 | ⟨j,a,b,d⟩
  ·omega
  ·rw [d]
   by_cases hn:0≤r.1 - err+j
   ·have:=hqu (r.1 - err+j).toNat (by omega)
    rw [show (0:Int)+((r.1 - err+j).toNat:Nat)=r.1 - err+j by omega] at this
    exact this b
   ·obtain ⟨e1,e2⟩:=hneg _ (by omega) b
    have:=hqu 0 (by omega) (by simpa using e1)
    simp only [Int.zero_add] at this
    exact Int.le_trans e2 this
 ·rcases q1 with q1 | ⟨j,a,b,d⟩
  ·omega
  ·rw [d]
   obtain ⟨w,hw1,hw2⟩:=(hcan _).1 b
   have hin:=hW.all _ ⟨w,hw1,rfl⟩
   have:=hpu (0+(j:Int) - (r.1 - err)).toNat (by omega)
   rw [show r.1 - err+((0+(j:Int) - (r.1 - err)).toNat:Nat)=0+(j:Int) by omega] at this
   exact this b
end Go.Wg
namespace Go.Mm
open Go
variable {P:Program} {w0:World} {X:List Nat} {V:View} {L:List dF} {w:World}
variable {l:List Oper} {md:Region.Mode} {o:Oper} {a:Act} {Q:Exit→Act→World→Prop} {S:World→Prop} {fuel:Nat} {listed:Array Bool}
theorem gHd {l:Array Oper} (h:wpAnyH P md l Q S fuel listed a w):wpAnyH P md l Q S fuel listed a w:=h
theorem gWo {l:Array Oper} {i:Nat} {K:Act→World→Prop} (h:wpOp P l Q i K a w):wpOp P l Q i K a w:=h
theorem ae9 (i:Nat) (hi₀:l[i]? = some o) (hS:St w0 X V L w) (hw:Region.wanted o (yielded l.toArray a.tmps)=true) {ty:TypeId} (ho:o.op=.alloc ty) {cs:List Value} [hz:lX P ty cs]
  (h:∀ b a' l',a.put o.dst (.pointer (some ⟨b,0,none⟩))=a'→listed.setIfInBounds i true=l'→∀ w',St w0 X V (.blk b ty cs :: L) w'→S w'∧wpAnyH P md l.toArray Q S fuel l' a' w') :
  wpOp P l.toArray Q i (fun a' w'=>S w'∧wpAnyH P md l.toArray Q S fuel (listed.setIfInBounds i true) a' w') a w :=
 aeE hS (jV hi₀) hw ho hz.has hz.ok fun b w' hS'=>h b _ _ rfl rfl w' hS'
end Go.Mm
namespace Go.Proofs.YtjjmefieegcddaaDoor
open Go.RowKit Go.Wg Go.Mm Go.Wk
open Go Go.Sr Go.Ph Go.Tm Go.Conc
variable {w w0:World} {V:View}
theorem aeV {X:List Nat} {L:List dF} {f0:FuncId} {R:Ending→World→Prop} {k0:List Item} {a:Act} {vv rv:Value} {k:Wk} {err x1 x2 e:Int} {y:Array Operand} {ats:Array TypeId} {ops:Array Oper} {l:List Nat} {i:Nat} {o:Oper} (d:Nat) (hS:St w0 X V L w) (hB:Bs V) (hk:iJ V vv rv k) (hv:oW k err=((x1,x2),e))
  (hd:a.defers=[]) (ho:ops[i]? = some o) (hdst:o.dst=some d) (hw:Region.wanted o (yielded ops a.tmps)=true) (hop:o.op=.call { callee:=.value (.func 43),args:=y,argTypes:=ats }) (hy:y.toList.map a.eval=[.agg #[vv,rv],.int .i64 err])
  (h:∀ w' a',St w0 X V L w'→a.put (some d) (.tuple #[.int .i64 x1,.int .i64 x2,.int .i64 e])=a'→RB f0 R (.inRegion ops l :: k0) a' w'):RB f0 R (.inRegion ops (i :: l) :: k0) a w:=by
 refine acM d hS Tryd.func43 (by kernel_rfl) (by kernel_rfl) (fun τ δ hh=>?_) hd ho hdst hw hop hy h
 have hL:=Zn vv rv k hk hB.gv (hS.re1 τ δ).view hh err
 rw [hv] at hL
 exact hL
noncomputable def B5:Code:=match Tryd.f5.body with | some c=>c | none=>.skip
noncomputable def afr:Array Oper:=match B5 with | .seq _ (.seq _ (.seq _ (.seq _ (.seq (.region _ o _) _))))=>o | _=>#[]
noncomputable def E5a:Code:=match B5 with | .seq _ (.seq _ (.seq _ (.seq _ (.seq _ r))))=>r | _=>.skip
noncomputable def L5:Code:=match E5a with | .seq _ (.seq _ (.seq l _))=>l | _=>.skip
noncomputable def K5:Code:=match E5a with | .seq _ (.seq _ (.seq _ r))=>r | _=>.skip
noncomputable def Bo5:Code:=match L5 with | .seq _ (.block _ (.loop b))=>b | _=>.skip
noncomputable def I5:Code:=match Bo5 with | .seq _ (.seq (.block _ i) _)=>i | _=>.skip
noncomputable def ae0:Code:=match Bo5 with | .seq _ (.seq _ r)=>r | _=>.skip
noncomputable def Bi5:Code:=match I5 with | .seq _ (.seq (.seq _ (.block _ (.loop b))) _)=>b | _=>.skip
noncomputable def aeW:Code:=match I5 with | .seq _ (.seq _ r)=>r | _=>.skip
noncomputable def J5:Code:=match Bi5 with | .seq _ (.seq (.block _ i) _)=>i | _=>.skip
noncomputable def aft:Code:=match Bi5 with | .seq _ (.seq _ r)=>r | _=>.skip
noncomputable def afx:Array Oper:=match J5 with | .seq _ (.seq _ (.seq _ (.seq _ (.seq (.region _ o _) _))))=>o | _=>#[]
noncomputable def afI:Code:=match J5 with | .seq _ (.seq _ (.seq _ (.seq _ (.seq _ r))))=>r | _=>.skip
noncomputable def afw:Array Oper:=match K5 with | .seq (.region _ o _) _=>o | _=>#[]
noncomputable def afh:Code:=match K5 with | .seq _ r=>r | _=>.skip
noncomputable def afu:Array Oper:=match afh with | .seq (.seq _ (.cond _ (.seq (.region _ o _) _) _)) _=>o | _=>#[]
noncomputable def afe:Code:=match afh with | .seq _ r=>r | _=>.skip
noncomputable def afq:Array Oper:=match afe with | .seq (.region _ o _) _=>o | _=>#[]
noncomputable def p5a (l:List Nat):List Item:=[.inRegion afr l,.code E5a]
noncomputable def aeA:List Item:=[.code Bo5,.inLoop Bo5,.inBlock 0,.code K5]
noncomputable def aew:List Item:=[.code Bi5,.inLoop Bi5,.inBlock 2,.code aeW,.inBlock 1,.code ae0,.inLoop Bo5,.inBlock 0,.code K5]
noncomputable def p5b (l:List Nat):List Item:=[.inRegion afx l,.code afI,.inBlock 3,.code aft,.inLoop Bi5,.inBlock 2,.code aeW,.inBlock 1,.code ae0,.inLoop Bo5,.inBlock 0,.code K5]
noncomputable def p5c (l:List Nat):List Item:=[.inRegion afw l,.code afh]
noncomputable def p5d (l:List Nat):List Item:=[.inRegion afu l,.code .ret,.code afe]
noncomputable def p5e (l:List Nat):List Item:=[.inRegion afq l,.code .ret]
theorem ae7 {k:Wk} (hok:k.Ok) (h5:k.rdg.length≤5) {v:Nat} (hv:v < k.n) {err sh:Int} (he:0≤err∧err≤2) (hs:0≤sh∧sh≤42) :
  (k.plus ⟨(v:Int),0,sh,err⟩).Ok∧abN (k.plus ⟨(v:Int),0,sh,err⟩)=(nxC k (aN k aC) v err sh,0)∧(nxC k (aN k aC) v err sh=true→∃ y1 y2,vX (k.plus ⟨(v:Int),0,sh,err⟩)=((y1,y2),0)∧nxF k (aN k aC) v err sh=y2 - y1+1∧Pb 70589400 (y1,y2)):=by
 have hx:(k.plus ⟨(v:Int),0,sh,err⟩).Ok:=Go.Wg.yT hok h5 (by unfold je.Ok;simp only;omega)
 have hn:=aeK k v 0 sh err
 have hc:can (k.plus ⟨(v:Int),0,sh,err⟩) (aN (k.plus ⟨(v:Int),0,sh,err⟩) aC)=nxC k (aN k aC) v err sh:=by
  rw [hn,afd (k:=k) (k':=k.plus ⟨(v:Int),0,sh,err⟩) rfl]
  rfl
 refine ⟨hx,by rw [acj hx,hc],fun h=>?_⟩
 refine ⟨(dW k ((aN k aC).cu v (jA (aN k aC) v err sh)) false).1,(dW k ((aN k aC).cu v (jA (aN k aC) v err sh)) false).2,?_,rfl,GH k hok.le _ false fun i=>QU k hok aC i⟩
 rw [abU hx,hc,if_pos h,hn,aeP (k:=k) (k':=k.plus ⟨(v:Int),0,sh,err⟩) rfl]
theorem aex {k:Wk} (hok:k.Ok) (v:Nat) (err lo:Int) (c:Nat):0≤aev k (aN k aC) v err lo c∧aev k (aN k aC) v err lo c≤141178801:=by
 obtain ⟨h0,h1⟩:=aeC k (aN k aC) v err lo c
 refine ⟨h0,?_⟩
 rcases h1 with h1 | ⟨j,_,_,h1⟩
 ·omega
 ·rw [h1]
  obtain ⟨a,b,c,d⟩:=GH k hok.le ((aN k aC).cu v (jA (aN k aC) v err (lo+j))) false fun i=>QU k hok aC i
  unfold nxF oQ
  omega
set_option maxRecDepth 40000 in
theorem aeT {k:Wk} {vv rv lv:Value} {b4:Nat} {err best left:Int} (hB:Bs V) (hg:Go.Wg.gN≤w0.heap.size) (hk:iJ V vv rv k) (hok:k.Ok) (h5:k.rdg.length≤5) (hr4:V.Range b4 0 [vv,rv]) (he:0≤err∧err≤2) {v:Nat} (hv:v < k.n)
  (hend:∀ (w:World) (u1 u2 u3 u5 u7 u8 u13 u14 u15 u16 u17 u18 u19 u20 u21 u22 u23 u24 u25 u26 u27 u28 u29 u30 u31 u32 u33 u34 u35 u36 u37 u38 u39 u40 u41 u42 u43 u44 u45 u46 u47 u48 u49 u50 u51 u52 u53 u54 u55 u56 u57 u58 u59 u60 u61 u62 u63 u64 u65 u66 u67 u68 u69 u70 u71 u72 u73 u74 u75 u76 u77 u78 u79 u80 u81 u82 u83 u84 u85 u86 u87 u88 u89 u90 u91 u92 u93 u94 u95 u96 u97 u98 u99 u100 u101 u102 u103 u104 u105 u106 u107 u108 u109 u110 u111 u112 u113 u114 u115 u116 u117 u118 u119 u120 u121 u122 u123 u124 u125 u126 u127 u128 u129 u130 u131 u132 u133 u134:Value),St w0 [] V [] w→RB 5 (fun r w'=>r=.returned (.bool true)∧Kp w0 w') [.code aeW,.inBlock 1,.code ae0,.inLoop Bo5,.inBlock 0,.code K5] ⟨#[lv,u1,u2,u3,.pointer (some ⟨b4,0,none⟩),u5,.int .i64 err,u7,u8,.int .i64 best,.int .i64 left,.int .i64 (v:Int),.int .i64 (aev k (aN k aC) v err 0 ((k.v v).room+err+1).toNat),u13,u14,u15,u16,u17,u18,u19,u20,u21,u22,u23,u24,u25,u26,u27,u28,u29,u30,u31,u32,u33,u34,u35,u36,u37,u38,u39,u40,u41,u42,u43,u44,u45,u46,u47,u48,u49,u50,u51,u52,u53,u54,u55,u56,u57,u58,u59,u60,u61,u62,u63,u64,u65,u66,u67,u68,u69,u70,u71,u72,u73,u74,u75,u76,u77,u78,u79,u80,u81,u82,u83,u84,u85,u86,u87,u88,u89,u90,u91,u92,u93,u94,u95,u96,u97,u98,u99,u100,u101,u102,u103,u104,u105,u106,u107,u108,u109,u110,u111,u112,u113,u114,u115,u116,u117,u118,u119,u120,u121,u122,u123,u124,u125,u126,u127,u128,u129,u130,u131,u132,u133,u134],[]⟩ w) :
  ∀ (d c:Nat),c+d=((k.v v).room+err+1).toNat→∀ (w:World) (u1 u2 u3 u5 u7 u8 u14 u15 u16 u17 u18 u19 u20 u21 u22 u23 u24 u25 u26 u27 u28 u29 u30 u31 u32 u33 u34 u35 u36 u37 u38 u39 u40 u41 u42 u43 u44 u45 u46 u47 u48 u49 u50 u51 u52 u53 u54 u55 u56 u57 u58 u59 u60 u61 u62 u63 u64 u65 u66 u67 u68 u69 u70 u71 u72 u73 u74 u75 u76 u77 u78 u79 u80 u81 u82 u83 u84 u85 u86 u87 u88 u89 u90 u91 u92 u93 u94 u95 u96 u97 u98 u99 u100 u101 u102 u103 u104 u105 u106 u107 u108 u109 u110 u111 u112 u113 u114 u115 u116 u117 u118 u119 u120 u121 u122 u123 u124 u125 u126 u127 u128 u129 u130 u131 u132 u133 u134:Value),St w0 [] V [] w →
   RB 5 (fun r w'=>r=.returned (.bool true)∧Kp w0 w') aew ⟨#[lv,u1,u2,u3,.pointer (some ⟨b4,0,none⟩),u5,.int .i64 err,u7,u8,.int .i64 best,.int .i64 left,.int .i64 (v:Int),.int .i64 (aev k (aN k aC) v err 0 c),.int .i64 (c:Int),u14,u15,u16,u17,u18,u19,u20,u21,u22,u23,u24,u25,u26,u27,u28,u29,u30,u31,u32,u33,u34,u35,u36,u37,u38,u39,u40,u41,u42,u43,u44,u45,u46,u47,u48,u49,u50,u51,u52,u53,u54,u55,u56,u57,u58,u59,u60,u61,u62,u63,u64,u65,u66,u67,u68,u69,u70,u71,u72,u73,u74,u75,u76,u77,u78,u79,u80,u81,u82,u83,u84,u85,u86,u87,u88,u89,u90,u91,u92,u93,u94,u95,u96,u97,u98,u99,u100,u101,u102,u103,u104,u105,u106,u107,u108,u109,u110,u111,u112,u113,u114,u115,u116,u117,u118,u119,u120,u121,u122,u123,u124,u125,u126,u127,u128,u129,u130,u131,u132,u133,u134],[]⟩ w:=by
 obtain ⟨va,vcap,hvv,hvc,hvm,hve⟩:=hk.ves.is
 obtain ⟨ra,rcap,hrv,_⟩:=hk.rdg.is
 subst hvv;subst hrv
 have hk0:=hok.pos
 obtain ⟨vg,vo,hva,hvr⟩:=hve hk0
 subst hva
 have hk6:=hok.le
 have hv':(v:Int) < k.n:=by omega
 have h0v:(0:Int)≤v:=by omega
 have hr4':([Value.slice (some ⟨vg,vo,none⟩) k.n vcap,.slice ra k.rdg.length rcap]).length=2:=rfl
 have hone4:∀ u∈[Value.slice (some ⟨vg,vo,none⟩) k.n vcap,.slice ra k.rdg.length rcap],u.oneCell'=true:=qB rfl rfl
 have hc4:V.Cell b4 0 (.slice (some ⟨vg,vo,none⟩) k.n vcap):=hr4 0 _ rfl
 have hcell:=hvr v hv 1 _ rfl
 have hroom:0≤(k.v v).room∧(k.v v).room≤40:=⟨(hok.ves v hv).2.2.1,(hok.ves v hv).2.2.2.1⟩
 have hMb:=fun c=>aex hok v err 0 c
 have htry:=fun (c:Nat) (h:(c:Int)≤(k.v v).room+err)=>ae7 hok h5 hv (sh:=(c:Int)) he ⟨by omega,by omega⟩
 have hMs:∀ c:Nat,aev k (aN k aC) v err 0 (c+1)=if nxC k (aN k aC) v err (c:Int) then max (aev k (aN k aC) v err 0 c) (nxF k (aN k aC) v err (c:Int)) else aev k (aN k aC) v err 0 c:=fun c=>by
  have:aev k (aN k aC) v err 0 (c+1)=if nxC k (aN k aC) v err (0+(c:Int)) then max (aev k (aN k aC) v err 0 c) (nxF k (aN k aC) v err (0+(c:Int))) else aev k (aN k aC) v err 0 c:=rfl
  rw [this,Int.zero_add]
 clear hve hvr
 generalize (k.v v).room=room at *
 obtain ⟨e0,e2⟩:=he
 obtain ⟨r0,r40⟩:=hroom
 intro d
 induction d with
 | zero =>
  intro c hc w u1 u2 u3 u5 u7 u8 u14 u15 u16 u17 u18 u19 u20 u21 u22 u23 u24 u25 u26 u27 u28 u29 u30 u31 u32 u33 u34 u35 u36 u37 u38 u39 u40 u41 u42 u43 u44 u45 u46 u47 u48 u49 u50 u51 u52 u53 u54 u55 u56 u57 u58 u59 u60 u61 u62 u63 u64 u65 u66 u67 u68 u69 u70 u71 u72 u73 u74 u75 u76 u77 u78 u79 u80 u81 u82 u83 u84 u85 u86 u87 u88 u89 u90 u91 u92 u93 u94 u95 u96 u97 u98 u99 u100 u101 u102 u103 u104 u105 u106 u107 u108 u109 u110 u111 u112 u113 u114 u115 u116 u117 u118 u119 u120 u121 u122 u123 u124 u125 u126 u127 u128 u129 u130 u131 u132 u133 u134 hS
  obtain rfl:c=(room+err+1).toNat:=by omega
  have hno:¬ ((((room+err+1).toNat:Nat):Int)≤room+err):=by omega
  generalize aev k (aN k aC) v err 0 (room+err+1).toNat=most at hend ⊢
  clear hMb htry hMs
  replace hend:=aj hend
  generalize (room+err+1).toNat=N at hno hc ⊢
  refine abD (tgt:=[.code aeW,.inBlock 1,.code ae0,.inLoop Bo5,.inBlock 0,.code K5]) (by kernel_rfl) rfl hS ?_
  clear hS;(try clear w');intro w' hS
  refine au (au (aA ?_))
  go_wp2_with (((with_reducible refine gL ?_);refine nC hS rfl rfl rfl ?_);refine ⟨_,zd,?_⟩;clear hS;(try clear w');refine zF ?_;intro w' hS)
  refine dZ (o:=.tmp 60) (t:=false) (by rfl) ?_
  refine lG (show _=some [.code aeW,.inBlock 1,.code ae0,.inLoop Bo5,.inBlock 0,.code K5] from rfl) ?_
  refine bG ?_
  exact hend.out _ _ _ _ _ _ _ _ _ _ _ _ _ _ _ _ _ _ _ _ _ _ _ _ _ _ _ _ _ _ _ _ _ _ _ _ _ _ _ _ _ _ _ _ _ _ _ _ _ _ _ _ _ _ _ _ _ _ _ _ _ _ _ _ _ _ _ _ _ _ _ _ _ _ _ _ _ _ _ _ _ _ _ _ _ _ _ _ _ _ _ _ _ _ _ _ _ _ _ _ _ _ _ _ _ _ _ _ _ _ _ _ _ _ _ _ _ _ _ _ _ _ _ _ _ _ _ _ _ hS
 | succ d ih =>
  intro c hc w u1 u2 u3 u5 u7 u8 u14 u15 u16 u17 u18 u19 u20 u21 u22 u23 u24 u25 u26 u27 u28 u29 u30 u31 u32 u33 u34 u35 u36 u37 u38 u39 u40 u41 u42 u43 u44 u45 u46 u47 u48 u49 u50 u51 u52 u53 u54 u55 u56 u57 u58 u59 u60 u61 u62 u63 u64 u65 u66 u67 u68 u69 u70 u71 u72 u73 u74 u75 u76 u77 u78 u79 u80 u81 u82 u83 u84 u85 u86 u87 u88 u89 u90 u91 u92 u93 u94 u95 u96 u97 u98 u99 u100 u101 u102 u103 u104 u105 u106 u107 u108 u109 u110 u111 u112 u113 u114 u115 u116 u117 u118 u119 u120 u121 u122 u123 u124 u125 u126 u127 u128 u129 u130 u131 u132 u133 u134 hS
  have hle:(c:Int)≤room+err:=by omega
  have h0c:(0:Int)≤c:=by omega
  have hc43:(c:Int)≤42:=by omega
  obtain ⟨hxo,hcan,hlo⟩:=htry c hle
  have hM:=hMs c
  have ihc:=ih (c+1) (by omega)
  rw [hM] at ihc
  obtain ⟨m0,m1⟩:=hMb c
  have hwith:∀ w,V.In w→Calls Tryd.prog 41 #[.agg #[.slice (some ⟨vg,vo,none⟩) k.n vcap,.slice ra k.rdg.length rcap],.agg #[.int .i64 (v:Int),.int .i64 0,.int .i64 (c:Int),.int .i64 err]] w fun e w'=>∃ rv',e=.returned (.agg #[.slice (some ⟨vg,vo,none⟩) k.n vcap,rv'])∧St w [] V [.row rv' 59 4 (k.plus ⟨(v:Int),0,(c:Int),err⟩).rdg.length (fH (k.plus ⟨(v:Int),0,(c:Int),err⟩).rdg)] w':=fun w hV=>Qd hk ⟨(v:Int),0,(c:Int),err⟩ hV
  have hview:∀ (rv':Value) (L:List dF) (w':World),St w0 [] V (.row rv' 59 4 (k.plus ⟨(v:Int),0,(c:Int),err⟩).rdg.length (fH (k.plus ⟨(v:Int),0,(c:Int),err⟩).rdg) :: L) w'→∃ V',(∀ j o,V j=some o→V' j=some o)∧St w0 [] V' L w'∧iJ V' (.slice (some ⟨vg,vo,none⟩) k.n vcap) rv' (k.plus ⟨(v:Int),0,(c:Int),err⟩):=fun _ _ _ h=>xG (k:=k) h hg hk (Nat.le_trans hxo.rdl (by decide))
  have hvo1:(Value.slice (some ⟨vg,vo,none⟩) k.n vcap).oneCell'=true:=rfl
  generalize k.plus ⟨(v:Int),0,(c:Int),err⟩=x at hwith hview hxo hcan hlo
  generalize nxF k (aN k aC) v err (c:Int)=F at ihc hlo
  generalize aev k (aN k aC) v err 0 c=most at ihc m0 m1 ⊢
  generalize nxC k (aN k aC) v err (c:Int)=cb at ihc hcan hlo
  clear ih hM hMs hMb htry hend hc
  refine abD (tgt:=bif cb then p5b [1,2,3,4,5,6,7] else aew) (by kernel_rfl) rfl hS ?_
  replace hwith:=aj hwith;replace hview:=aj hview;replace hlo:=aj hlo;replace ihc:=aj ihc
  clear hS;(try clear w');intro w' hS
  refine au (aA ?_)
  go_wp2_with (((with_reducible refine gL ?_);refine nC hS rfl rfl rfl ?_);refine ⟨_,zd,?_⟩;clear hS;(try clear w');refine zF ?_;intro w' hS)
  refine au (jg (au (aA ?_)))
  (refine bF (S:=(St w0 [] V [])) [false,false,false,false,false,false,false,false] rfl (by kernel_rfl) ?_;replace hS:=St.eY hS;(repeat' (first | ((with_reducible refine gHd ?_);(first | ((refine aey 0 rfl (by kernel_rfl) (by kernel_rfl) (by decide +kernel) (fun _ _ _ _ h=>nomatch h.1) rfl (St.aG hS) rfl rfl ?_);refine ⟨_,zd,?_⟩;refine zH ?_) | (refine aar 1 rfl (by kernel_rfl) (by kernel_rfl) (by decide +kernel) rfl rfl (fun _ _ _ h=>nomatch h.1) rfl (St.aG hS) ?_;refine zH ?_) | (refine aar 2 rfl (by kernel_rfl) (by kernel_rfl) (by decide +kernel) rfl rfl (fun _ _ _ h=>nomatch h.1) rfl (St.aG hS) ?_;refine zH ?_) | (refine aar 3 rfl (by kernel_rfl) (by kernel_rfl) (by decide +kernel) rfl rfl (fun _ _ _ h=>nomatch h.1) rfl (St.aG hS) ?_;refine zH ?_) | (refine oZ 4 (by decide +kernel) rfl rfl ⟨_,_,zo,?_⟩;refine aH hS ⟨_,Xg _ _ _ _ _,?_⟩;clear hS;(try clear w');intro w' hS;refine ⟨_,rfl,?_⟩;refine zH ?_;refine ⟨(St.aG hS),?_⟩) | (refine oZ 5 (by decide +kernel) rfl rfl ⟨_,_,zo,?_⟩;refine (hwith.out _ (St.view hS)).mono ?_;rintro _ w1 ⟨rv',rfl,hS1⟩;have hS2:=hS.Nq hS1;simp only [List.cons_append,List.nil_append] at hS2;clear hS hS1;(try clear w');have hS:=hS2;clear hS2;have hone3:=qB hvo1 (dY hS rv');refine ⟨_,rfl,?_⟩;refine zH ?_;refine ⟨(St.aG hS),?_⟩) | (refine ae8 6 (by decide +kernel) rfl hS rfl  rfl ?_;clear hS;(try clear w');intro b14;refine zH ?_;intro w' hS;refine ⟨(St.aG hS),?_⟩) | ((refine wQ 7 (by decide +kernel) rfl hS rfl  rfl rfl ?_;refine ⟨_,zd,?_⟩);clear hS;(try clear w');refine zH ?_;intro w' hS;(try simp only [sE] at hS);refine ⟨(St.aG hS),?_⟩) | refine nP 4 6 (by decide +kernel) ?_ ?_ | refine nP 5 6 (by decide +kernel) ?_ ?_ | refine wpAnyH_done (by decide +kernel) ?_ _)) | ((with_reducible refine gWo ?_);(first | (refine DZ 4 rfl rfl ⟨_,_,zo,?_⟩;refine aH hS ⟨_,Xg _ _ _ _ _,?_⟩;clear hS;(try clear w');intro w' hS;refine ⟨_,rfl,?_⟩;refine zH ?_;refine ⟨(St.aG hS),?_⟩) | (refine DZ 5 rfl rfl ⟨_,_,zo,?_⟩;refine (hwith.out _ (St.view hS)).mono ?_;rintro _ w1 ⟨rv',rfl,hS1⟩;have hS2:=hS.Nq hS1;simp only [List.cons_append,List.nil_append] at hS2;clear hS hS1;(try clear w');have hS:=hS2;clear hS2;have hone3:=qB hvo1 (dY hS rv');refine ⟨_,rfl,?_⟩;refine zH ?_;refine ⟨(St.aG hS),?_⟩) | (refine ae9 6 rfl hS rfl  rfl ?_;clear hS;(try clear w');intro b14;refine zH ?_;intro w' hS;refine ⟨(St.aG hS),?_⟩))))))
  all_goals (
   refine ⟨rfl,?_⟩
   obtain ⟨V2,hV2,hS3,hk2⟩:∃ V2,(∀ j o,V j=some o→V2 j=some o)∧St w0 [] V2 [.blk b14 25 [.slice (some ⟨vg,vo,none⟩) k.n vcap,rv']] w'∧iJ V2 (.slice (some ⟨vg,vo,none⟩) k.n vcap) rv' x:=by
    first | exact hview.out _ _ _ hS | exact hview.out _ _ _ (hS.perm (List.Perm.swap _ _ _))
   clear hS
   obtain ⟨V3,hV3,hc14,hS4⟩:=pin hS3
   clear hS3
   have hS:=hS4
   clear hS4
   have hB3:Bs V3:=(hB.mono hV2).mono hV3
   have hk3:=jf hk2 hV3
   have hr14:V3.Range b14 0 [.slice (some ⟨vg,vo,none⟩) k.n vcap,rv']:=fun j v hj=>by rw [Nat.zero_add];exact hc14 j v hj
   have hr14':([Value.slice (some ⟨vg,vo,none⟩) k.n vcap,rv']).length=2:=rfl
   clear hk2 hc14
   refine au (aA ?_)
   go_wp2_with (first | (((with_reducible refine gL ?_);refine zQ hS rfl rfl rfl ?_);refine ⟨_,zd,?_⟩;clear hS;(try clear w');refine zF ?_;intro w' hS) | (go_at_call 25;refine abA hS hB3 hk3 hcan ?_;clear hS;(try clear w');intro w' hS))
   refine au (aA ?_)
   go_wp2_with (fail)
   cases cb
   ·refine au (au (aA ?_))
    go_wp2_with (fail)
    refine dZ (o:=.tmp 77) (t:=true) (by rfl) ?_
    refine lG (show _=some [.code aft,.inLoop Bi5,.inBlock 2,.code aeW,.inBlock 1,.code ae0,.inLoop Bo5,.inBlock 0,.code K5] from rfl) ?_
    refine aA ?_
    conv=>enter [2];whnf
    go_wp2_with (fail)
    refine jr (bG (tgt:=aew) ?_)
    exact ihc.out _ _ _ _ _ _ _ _ _ _ _ _ _ _ _ _ _ _ _ _ _ _ _ _ _ _ _ _ _ _ _ _ _ _ _ _ _ _ _ _ _ _ _ _ _ _ _ _ _ _ _ _ _ _ _ _ _ _ _ _ _ _ _ _ _ _ _ _ _ _ _ _ _ _ _ _ _ _ _ _ _ _ _ _ _ _ _ _ _ _ _ _ _ _ _ _ _ _ _ _ _ _ _ _ _ _ _ _ _ _ _ _ _ _ _ _ _ _ _ _ _ _ _ _ _ _ _ _ ((hS.weaken fun j o h=>hV3 _ _ (hV2 _ _ h)).aG)
   ·obtain ⟨y1,y2,hlost,rfl,y3,y4,y5,y6⟩:=hlo.out rfl
    dsimp only at y3 y4 y5 y6
    have ihc2:∀ z:Int,z=max most (y2 - y1+1)→∀ (w:World) (u1 u2 u3 u5 u7 u8 u14 u15 u16 u17 u18 u19 u20 u21 u22 u23 u24 u25 u26 u27 u28 u29 u30 u31 u32 u33 u34 u35 u36 u37 u38 u39 u40 u41 u42 u43 u44 u45 u46 u47 u48 u49 u50 u51 u52 u53 u54 u55 u56 u57 u58 u59 u60 u61 u62 u63 u64 u65 u66 u67 u68 u69 u70 u71 u72 u73 u74 u75 u76 u77 u78 u79 u80 u81 u82 u83 u84 u85 u86 u87 u88 u89 u90 u91 u92 u93 u94 u95 u96 u97 u98 u99 u100 u101 u102 u103 u104 u105 u106 u107 u108 u109 u110 u111 u112 u113 u114 u115 u116 u117 u118 u119 u120 u121 u122 u123 u124 u125 u126 u127 u128 u129 u130 u131 u132 u133 u134:Value),St w0 [] V [] w→RB 5 (fun r w'=>r=.returned (.bool true)∧Kp w0 w') aew ⟨#[lv,u1,u2,u3,.pointer (some ⟨b4,0,none⟩),u5,.int .i64 err,u7,u8,.int .i64 best,.int .i64 left,.int .i64 (v:Int),.int .i64 z,.int .i64 ((c+1:Nat):Int),u14,u15,u16,u17,u18,u19,u20,u21,u22,u23,u24,u25,u26,u27,u28,u29,u30,u31,u32,u33,u34,u35,u36,u37,u38,u39,u40,u41,u42,u43,u44,u45,u46,u47,u48,u49,u50,u51,u52,u53,u54,u55,u56,u57,u58,u59,u60,u61,u62,u63,u64,u65,u66,u67,u68,u69,u70,u71,u72,u73,u74,u75,u76,u77,u78,u79,u80,u81,u82,u83,u84,u85,u86,u87,u88,u89,u90,u91,u92,u93,u94,u95,u96,u97,u98,u99,u100,u101,u102,u103,u104,u105,u106,u107,u108,u109,u110,u111,u112,u113,u114,u115,u116,u117,u118,u119,u120,u121,u122,u123,u124,u125,u126,u127,u128,u129,u130,u131,u132,u133,u134],[]⟩ w:=fun z hz w u1 u2 u3 u5 u7 u8 u14 u15 u16 u17 u18 u19 u20 u21 u22 u23 u24 u25 u26 u27 u28 u29 u30 u31 u32 u33 u34 u35 u36 u37 u38 u39 u40 u41 u42 u43 u44 u45 u46 u47 u48 u49 u50 u51 u52 u53 u54 u55 u56 u57 u58 u59 u60 u61 u62 u63 u64 u65 u66 u67 u68 u69 u70 u71 u72 u73 u74 u75 u76 u77 u78 u79 u80 u81 u82 u83 u84 u85 u86 u87 u88 u89 u90 u91 u92 u93 u94 u95 u96 u97 u98 u99 u100 u101 u102 u103 u104 u105 u106 u107 u108 u109 u110 u111 u112 u113 u114 u115 u116 u117 u118 u119 u120 u121 u122 u123 u124 u125 u126 u127 u128 u129 u130 u131 u132 u133 u134 hS=>by
     subst hz
     exact ihc.out w _ _ _ _ _ _ _ _ _ _ _ _ _ _ _ _ _ _ _ _ _ _ _ _ _ _ _ _ _ _ _ _ _ _ _ _ _ _ _ _ _ _ _ _ _ _ _ _ _ _ _ _ _ _ _ _ _ _ _ _ _ _ _ _ _ _ _ _ _ _ _ _ _ _ _ _ _ _ _ _ _ _ _ _ _ _ _ _ _ _ _ _ _ _ _ _ _ _ _ _ _ _ _ _ _ _ _ _ _ _ _ _ _ _ _ _ _ _ _ _ _ _ _ _ _ _ _ hS
    replace ihc2:=aj ihc2
    refine au (aA ?_)
    go_wp2_with (fail)
    refine au (ig (aa6 1 (by decide) ?_))
    simp only [List.take_succ_cons,List.take_zero]
    go_wp2_with (((with_reducible refine gL ?_);refine zQ hS rfl rfl rfl ?_);refine ⟨_,zd,?_⟩;clear hS;(try clear w');refine zF ?_;intro w' hS)
    refine bG (tgt:=p5b [1,2,3,4,5,6,7]) ?_
    refine acy 80 hS hB3 hk3 hlost rfl rfl rfl rfl rfl rfl ?_
    clear hS;(try clear w');intro w' a' hS hp
    simp only [fr] at hp
    subst hp
    refine abD (tgt:=aew) (by kernel_rfl) rfl hS ?_
    clear hS;(try clear w');intro w' hS
    refine abr 2 rfl ?_
    simp only [List.drop_succ_cons,List.drop_zero]
    go_wp2_with (first | (((with_reducible refine gS ?_);refine bQ hS rfl rfl rfl ?_);refine ⟨_,zd,?_⟩;clear hS;(try clear w');refine zF ?_;intro w' hS;(try simp only [sE] at hS)) | (((with_reducible refine gA ?_);refine dM hS rfl rfl ?_);clear hS;(try clear w');intro _;refine zF ?_;intro w' hS))
    refine dH (aA ?_)
    conv=>enter [2];whnf
    go_wp2_with (((with_reducible refine gL ?_);refine gY hS rfl rfl rfl ?_);refine ⟨_,zd,?_⟩;clear hS;(try clear w');refine zF ?_;intro w' hS)
    all_goals (
     refine jE (aA ?_)
     conv=>enter [2];whnf
     go_wp2_with (fail)
     refine jr (bG (tgt:=aew) ?_)
     exact ihc2.out _ (by omega) _ _ _ _ _ _ _ _ _ _ _ _ _ _ _ _ _ _ _ _ _ _ _ _ _ _ _ _ _ _ _ _ _ _ _ _ _ _ _ _ _ _ _ _ _ _ _ _ _ _ _ _ _ _ _ _ _ _ _ _ _ _ _ _ _ _ _ _ _ _ _ _ _ _ _ _ _ _ _ _ _ _ _ _ _ _ _ _ _ _ _ _ _ _ _ _ _ _ _ _ _ _ _ _ _ _ _ _ _ _ _ _ _ _ _ _ _ _ _ _ _ _ _ _ _ _ _ _ ((hS.weaken fun j o h=>hV3 _ _ (hV2 _ _ h)).aG)))
theorem afa {k:Wk} (hok:k.Ok) {w1:Nat→Nat} (h0:Hu k (aN k aC) w1) {err:Int} (he:0≤err∧err≤2) {b l:Int} (hb:fM k (aN k aC) err k.n=(b,l)) :
  (b < 0∧oW k err=((0,0),11))∨(0≤b∧oW k err=((b,l),0)):=by
 have hs:=Qu hok h0
 have e:oW k err=if (fM k (aN k aC) err k.n).1 < 0 then ((0,0),11) else (fM k (aN k aC) err k.n,0):=by
  unfold oW
  rw [if_neg (by rw [G7 hok [] (fun n hn=>nomatch hn)];simp),if_neg (by unfold fQ;simp;omega),if_neg (by rw [Option.isNone_iff_eq_none] at hs;rw [hs];simp)]
 rw [e,hb]
 by_cases h:b < 0
 ·exact .inl ⟨h,by rw [if_pos h]⟩
 ·exact .inr ⟨by omega,by rw [if_neg h]⟩
theorem aeF {k:Wk} (hok:k.Ok) {w1:Nat→Nat} (h0:Hu k (aN k aC) w1) {err:Int} (he:0≤err∧err≤2) (v:Nat) (hv:v≤k.n):-1≤(fM k (aN k aC) err v).1∧(fM k (aN k aC) err v).1≤6∧-141178801≤(fM k (aN k aC) err v).2∧(fM k (aN k aC) err v).2≤141178801:=by
 induction v with
 | zero =>
  obtain ⟨a,b,c,d⟩:=GH k hok.le (aN k aC) false fun i=>QU k hok aC i
  show -1≤(-1:Int)∧(-1:Int)≤6∧-141178801≤oQ _∧oQ _≤141178801
  unfold oQ
  omega
 | succ v ih =>
  have ih:=ih (by omega)
  have h6:=hok.le
  have hm:=aex hok v err 0 ((k.v v).room+err+1).toNat
  rw [← aeU hok h0 (by omega) he.1] at hm
  rw [fM]
  split
  ·simp only;omega
  ·exact ih
set_option maxRecDepth 40000 in
theorem aeO {k:Wk} {vv rv lv:Value} {b4:Nat} {err:Int} (hB:Bs V) (hg:Go.Wg.gN≤w0.heap.size) (hk:iJ V vv rv k) (hok:k.Ok) (h5:k.rdg.length≤5) (hr4:V.Range b4 0 [vv,rv]) (he:0≤err∧err≤2) {w1:Nat→Nat} (h0:Hu k (aN k aC) w1) :
  ∀ (d v:Nat),v+d=k.n→∀ (w:World) (u1 u2 u3 u5 u7 u8 u12 u13 u14 u15 u16 u17 u18 u19 u20 u21 u22 u23 u24 u25 u26 u27 u28 u29 u30 u31 u32 u33 u34 u35 u36 u37 u38 u39 u40 u41 u42 u43 u44 u45 u46 u47 u48 u49 u50 u51 u52 u53 u54 u55 u56 u57 u58 u59 u60 u61 u62 u63 u64 u65 u66 u67 u68 u69 u70 u71 u72 u73 u74 u75 u76 u77 u78 u79 u80 u81 u82 u83 u84 u85 u86 u87 u88 u89 u90 u91 u92 u93 u94 u95 u96 u97 u98 u99 u100 u101 u102 u103 u104 u105 u106 u107 u108 u109 u110 u111 u112 u113 u114 u115 u116 u117 u118 u119 u120 u121 u122 u123 u124 u125 u126 u127 u128 u129 u130 u131 u132 u133 u134:Value),St w0 [] V [] w →
   RB 5 (fun r w'=>r=.returned (.bool true)∧Kp w0 w') aeA ⟨#[lv,u1,u2,u3,.pointer (some ⟨b4,0,none⟩),u5,.int .i64 err,u7,u8,.int .i64 (fM k (aN k aC) err v).1,.int .i64 (fM k (aN k aC) err v).2,.int .i64 (v:Int),u12,u13,u14,u15,u16,u17,u18,u19,u20,u21,u22,u23,u24,u25,u26,u27,u28,u29,u30,u31,u32,u33,u34,u35,u36,u37,u38,u39,u40,u41,u42,u43,u44,u45,u46,u47,u48,u49,u50,u51,u52,u53,u54,u55,u56,u57,u58,u59,u60,u61,u62,u63,u64,u65,u66,u67,u68,u69,u70,u71,u72,u73,u74,u75,u76,u77,u78,u79,u80,u81,u82,u83,u84,u85,u86,u87,u88,u89,u90,u91,u92,u93,u94,u95,u96,u97,u98,u99,u100,u101,u102,u103,u104,u105,u106,u107,u108,u109,u110,u111,u112,u113,u114,u115,u116,u117,u118,u119,u120,u121,u122,u123,u124,u125,u126,u127,u128,u129,u130,u131,u132,u133,u134],[]⟩ w:=by
 have hk0:=hk
 obtain ⟨va,vcap,hvv,hvc,hvm,_⟩:=hk0.ves.is
 obtain ⟨ra,rcap,hrv,_⟩:=hk0.rdg.is
 subst hvv;subst hrv
 clear hk0
 have hk6:=hok.le
 have hr4':([Value.slice va k.n vcap,.slice ra k.rdg.length rcap]).length=2:=rfl
 have hc4:V.Cell b4 0 (.slice va k.n vcap):=hr4 0 _ rfl
 intro d
 induction d with
 | zero =>
  intro v hvn w u1 u2 u3 u5 u7 u8 u12 u13 u14 u15 u16 u17 u18 u19 u20 u21 u22 u23 u24 u25 u26 u27 u28 u29 u30 u31 u32 u33 u34 u35 u36 u37 u38 u39 u40 u41 u42 u43 u44 u45 u46 u47 u48 u49 u50 u51 u52 u53 u54 u55 u56 u57 u58 u59 u60 u61 u62 u63 u64 u65 u66 u67 u68 u69 u70 u71 u72 u73 u74 u75 u76 u77 u78 u79 u80 u81 u82 u83 u84 u85 u86 u87 u88 u89 u90 u91 u92 u93 u94 u95 u96 u97 u98 u99 u100 u101 u102 u103 u104 u105 u106 u107 u108 u109 u110 u111 u112 u113 u114 u115 u116 u117 u118 u119 u120 u121 u122 u123 u124 u125 u126 u127 u128 u129 u130 u131 u132 u133 u134 hS
  obtain rfl:v=k.n:=by omega
  obtain ⟨q1,q2,q3,q4⟩:=aeF hok h0 he k.n (Nat.le_refl _)
  obtain ⟨⟨b,l⟩,hbl⟩:∃ p,fM k (aN k aC) err k.n=p:=⟨_,rfl⟩
  have hnv:=afa hok h0 he hbl
  rw [hbl] at q1 q2 q3 q4 ⊢
  dsimp only at q1 q2 q3 q4 ⊢
  clear hbl
  have hn0:(0:Int)≤k.n:=by omega
  refine abD (tgt:=p5c [2,3,4,5,6,7,8,9]) (by kernel_rfl) rfl hS ?_
  clear hS;(try clear w');intro w' hS
  refine au (au (aA ?_))
  go_wp2_with (((with_reducible refine gL ?_);refine nC hS rfl rfl rfl ?_);refine ⟨_,zd,?_⟩;clear hS;(try clear w');refine zF ?_;intro w' hS)
  refine dZ (o:=.tmp 48) (t:=false) (by rfl) ?_
  refine lG (show _=some [Item.code K5] from rfl) ?_
  refine au (ig (aa6 2 (by decide) ?_))
  simp only [List.take_succ_cons,List.take_zero]
  go_wp2_with (((with_reducible refine gL ?_);refine zQ hS rfl rfl rfl ?_);refine ⟨_,zd,?_⟩;clear hS;(try clear w');refine zF ?_;intro w' hS)
  refine bG (tgt:=p5c [2,3,4,5,6,7,8,9]) ?_
  rcases hnv with ⟨hb0,hnv⟩ | ⟨hb0,hnv⟩
  ·refine aeV 101 hS hB hk hnv rfl rfl rfl rfl rfl rfl ?_
   clear hS;(try clear w');intro w' a' hS hp
   simp only [fr] at hp
   subst hp
   refine abD (tgt:=p5d [11,12,13]) (by kernel_rfl) rfl hS ?_
   clear hS;(try clear w');intro w' hS
   refine abr 3 rfl ?_
   simp only [List.drop_succ_cons,List.drop_zero]
   go_wp2_with (fail)
   refine dH (au (au (aA ?_)))
   go_wp2_with (fail)
   refine dZ (o:=.tmp 106) (t:=true) (by rfl) ?_
   refine au (ig (aa6 11 (by decide) ?_))
   simp only [List.take_succ_cons,List.take_zero]
   go_wp2_with (fail)
   refine bG (tgt:=p5d [11,12,13]) ?_
   refine acQ 118 hS hB rfl rfl rfl rfl rfl rfl ?_
   clear hS;(try clear w');intro w' a' hS hp
   simp only [fr] at hp
   subst hp
   refine abD (tgt:=[.code .ret,.code afe]) (by kernel_rfl) rfl hS ?_
   clear hS;(try clear w');intro w' hS
   refine abr 12 rfl ?_
   simp only [List.drop_succ_cons,List.drop_zero]
   go_wp2_with (fail)
   refine dH (bG (tgt:=[.code .ret,.code afe]) ?_)
   exact acW Tryd.func5 hS rfl (fun w=>bH (r1:=.tmp 2) (by kernel_rfl) (bD rfl))
  ·refine aeV 101 hS hB hk hnv rfl rfl rfl rfl rfl rfl ?_
   clear hS;(try clear w');intro w' a' hS hp
   simp only [fr] at hp
   subst hp
   refine abD (tgt:=p5e [13,14,15]) (by kernel_rfl) rfl hS ?_
   clear hS;(try clear w');intro w' hS
   refine abr 3 rfl ?_
   simp only [List.drop_succ_cons,List.drop_zero]
   go_wp2_with (fail)
   refine dH (au (aA ?_))
   go_wp2_with (fail)
   refine au (ig (aa6 13 (by decide) ?_))
   simp only [List.take_succ_cons,List.take_zero]
   go_wp2_with (fail)
   refine bG (tgt:=p5e [13,14,15]) ?_
   refine acQ 133 hS hB rfl rfl rfl rfl rfl rfl ?_
   clear hS;(try clear w');intro w' a' hS hp
   simp only [fr] at hp
   subst hp
   refine abD (tgt:=[.code .ret]) (by kernel_rfl) rfl hS ?_
   clear hS;(try clear w');intro w' hS
   refine abr 14 rfl ?_
   simp only [List.drop_succ_cons,List.drop_zero]
   go_wp2_with (fail)
   refine dH (bG (tgt:=[.code .ret]) ?_)
   exact acW Tryd.func5 hS rfl (fun w=>bH (r1:=.tmp 2) (by kernel_rfl) (bD rfl))
 | succ d ih =>
  intro v hvn w u1 u2 u3 u5 u7 u8 u12 u13 u14 u15 u16 u17 u18 u19 u20 u21 u22 u23 u24 u25 u26 u27 u28 u29 u30 u31 u32 u33 u34 u35 u36 u37 u38 u39 u40 u41 u42 u43 u44 u45 u46 u47 u48 u49 u50 u51 u52 u53 u54 u55 u56 u57 u58 u59 u60 u61 u62 u63 u64 u65 u66 u67 u68 u69 u70 u71 u72 u73 u74 u75 u76 u77 u78 u79 u80 u81 u82 u83 u84 u85 u86 u87 u88 u89 u90 u91 u92 u93 u94 u95 u96 u97 u98 u99 u100 u101 u102 u103 u104 u105 u106 u107 u108 u109 u110 u111 u112 u113 u114 u115 u116 u117 u118 u119 u120 u121 u122 u123 u124 u125 u126 u127 u128 u129 u130 u131 u132 u133 u134 hS
  have hv:v < k.n:=by omega
  have hv':(v:Int) < k.n:=by omega
  have h0v:(0:Int)≤v:=by omega
  have ihv:=ih (v+1) (by omega)
  have hstep:fM k (aN k aC) err (v+1)=if qK k (aN k aC) v err < (fM k (aN k aC) err v).2 then ((v:Int),qK k (aN k aC) v err) else fM k (aN k aC) err v:=rfl
  rw [aeU hok h0 hv he.1] at hstep
  obtain ⟨q1,q2,q3,q4⟩:=aeF hok h0 he v (by omega)
  have hMb:=aex hok v err 0 ((k.v v).room+err+1).toNat
  have hin:=fun (best left:Int) hend=>aeT (lv:=lv) (best:=best) (left:=left) hB hg hk hok h5 hr4 he hv hend ((k.v v).room+err+1).toNat 0 (by omega)
  rw [hstep] at ihv
  generalize aev k (aN k aC) v err 0 ((k.v v).room+err+1).toNat=M at hin hMb ihv
  obtain ⟨⟨b,l⟩,hbl⟩:∃ p,fM k (aN k aC) err v=p:=⟨_,rfl⟩
  rw [hbl] at ihv q1 q2 q3 q4 ⊢
  dsimp only at ihv q1 q2 q3 q4 ⊢
  have hin2:=hin b l
  clear hin hbl ih hstep hvn
  replace ihv:=aj ihv;replace hin2:=aj hin2
  refine abD (tgt:=aew) (by kernel_rfl) rfl hS ?_
  clear hS;(try clear w');intro w' hS
  refine au (aA ?_)
  go_wp2_with (((with_reducible refine gL ?_);refine nC hS rfl rfl rfl ?_);refine ⟨_,zd,?_⟩;clear hS;(try clear w');refine zF ?_;intro w' hS)
  refine au (jg (au (aA ?_)))
  go_wp2_with (fail)
  refine au (au (aA ?_))
  go_wp2_with (fail)
  refine jg (zh (bG (tgt:=aew) ?_))
  refine hin2.out (fun w u1 u2 u3 u5 u7 u8 u13 u14 u15 u16 u17 u18 u19 u20 u21 u22 u23 u24 u25 u26 u27 u28 u29 u30 u31 u32 u33 u34 u35 u36 u37 u38 u39 u40 u41 u42 u43 u44 u45 u46 u47 u48 u49 u50 u51 u52 u53 u54 u55 u56 u57 u58 u59 u60 u61 u62 u63 u64 u65 u66 u67 u68 u69 u70 u71 u72 u73 u74 u75 u76 u77 u78 u79 u80 u81 u82 u83 u84 u85 u86 u87 u88 u89 u90 u91 u92 u93 u94 u95 u96 u97 u98 u99 u100 u101 u102 u103 u104 u105 u106 u107 u108 u109 u110 u111 u112 u113 u114 u115 u116 u117 u118 u119 u120 u121 u122 u123 u124 u125 u126 u127 u128 u129 u130 u131 u132 u133 u134 hS=>?_) _ _ _ _ _ _ _ _ _ _ _ _ _ _ _ _ _ _ _ _ _ _ _ _ _ _ _ _ _ _ _ _ _ _ _ _ _ _ _ _ _ _ _ _ _ _ _ _ _ _ _ _ _ _ _ _ _ _ _ _ _ _ _ _ _ _ _ _ _ _ _ _ _ _ _ _ _ _ _ _ _ _ _ _ _ _ _ _ _ _ _ _ _ _ _ _ _ _ _ _ _ _ _ _ _ _ _ _ _ _ _ _ _ _ _ _ _ _ _ _ _ _ _ _ _ _ _ _ hS.aG
  refine abD (tgt:=aeA) (by kernel_rfl) rfl hS ?_
  clear hS;(try clear w');intro w' hS
  refine aA ?_
  conv=>enter [2];whnf
  by_cases hlt:M < l
  ·have ihv2:=ihv.out
   rw [if_pos hlt] at ihv2
   replace ihv2:=aj ihv2
   go_wp2_with (fail)
   refine jE (aA ?_)
   conv=>enter [2];whnf
   go_wp2_with (fail)
   refine jr (bG (tgt:=aeA) ?_)
   exact ihv2.out _ _ _ _ _ _ _ _ _ _ _ _ _ _ _ _ _ _ _ _ _ _ _ _ _ _ _ _ _ _ _ _ _ _ _ _ _ _ _ _ _ _ _ _ _ _ _ _ _ _ _ _ _ _ _ _ _ _ _ _ _ _ _ _ _ _ _ _ _ _ _ _ _ _ _ _ _ _ _ _ _ _ _ _ _ _ _ _ _ _ _ _ _ _ _ _ _ _ _ _ _ _ _ _ _ _ _ _ _ _ _ _ _ _ _ _ _ _ _ _ _ _ _ _ _ _ _ _ _ _ hS.aG
  ·have ihv2:=ihv.out
   rw [if_neg hlt] at ihv2
   replace ihv2:=aj ihv2
   go_wp2_with (fail)
   refine jE (aA ?_)
   conv=>enter [2];whnf
   go_wp2_with (fail)
   refine jr (bG (tgt:=aeA) ?_)
   exact ihv2.out _ _ _ _ _ _ _ _ _ _ _ _ _ _ _ _ _ _ _ _ _ _ _ _ _ _ _ _ _ _ _ _ _ _ _ _ _ _ _ _ _ _ _ _ _ _ _ _ _ _ _ _ _ _ _ _ _ _ _ _ _ _ _ _ _ _ _ _ _ _ _ _ _ _ _ _ _ _ _ _ _ _ _ _ _ _ _ _ _ _ _ _ _ _ _ _ _ _ _ _ _ _ _ _ _ _ _ _ _ _ _ _ _ _ _ _ _ _ _ _ _ _ _ _ _ _ _ _ _ _ hS.aG
set_option maxRecDepth 40000 in
theorem ae3 {lv:Value} {l:List Int} (hB:Bs V) (hg:Go.Wg.gN≤w.heap.size) (hl:VI V lv l) (hV:V.In w):RB 5 (fun r w'=>r=.returned (.bool true)∧Kp w w') [.code B5] ⟨#[lv] ++ Array.replicate 134 undef,[]⟩ w:=by
 have hS:=St.start w V hV
 obtain ⟨la,lcap,hlv,hlc,hlm,hle⟩:=hl.is
 clear hle hlc hlm
 subst hlv
 simp only [Array.replicate_succ,Array.replicate_zero,List.push_toArray,List.append_toArray,List.nil_append,List.cons_append]
 refine abD (tgt:=p5a [1,2,3,4,5,6,7]) (by kernel_rfl) rfl hS ?_
 clear hS;intro w' hS
 refine au (aA ?_)
 go_wp2_with (fail)
 refine au (aA ?_)
 go_wp2_with (go_at_call 23;refine Aj hS ⟨_,_,SY ⟨_,_,_,rfl⟩,?_⟩;clear hS;(try clear w');intro bh w' hS)
 refine au (aA ?_)
 go_wp2_with (first | (first | (((with_reducible refine gS ?_);refine bQ hS rfl rfl rfl ?_);refine ⟨_,zd,?_⟩;clear hS;(try clear w');refine zF ?_;intro w' hS;(try simp only [sE] at hS)) | ((with_reducible refine gA ?_);refine aT 4 rfl hS rfl rfl ?_;clear hS;(try clear w');intro b4;refine zF ?_;intro w' hS)) | (go_at_call 38;refine (Ub (V:=V) ⟨⟨l,hl⟩,by decide,by decide⟩ (by decide) (by decide) (by decide) (St.view hS) (hS.off _ (List.mem_cons_self ..) bh rfl) (St.dR hS)).mono ?_;rintro _ w1 ⟨k,ws,vv,rv,mv,c1,s1,rfl,hok,hkn,hrl,htr,k1,k2,hS1⟩;have hS0:=hS.comp (j:=0) rfl (hS1.perm (List.perm_append_comm (l₁:=[_,_,_]) (l₂:=[_])));have hS00:St w [] V (.row mv 3 1 ws.length (aV ws) :: [.row vv 29 4 k.n (fD k.ves),.row rv 59 4 k.rdg.length (fH k.rdg),.blk bh 90 (jv _ c1 s1)]) w1:=(by rw [htr.len];exact hS0);obtain ⟨V0,hV0,hS2,hmv0⟩:=RP hS00;obtain ⟨V1,hV1,hS3,hk⟩:=Eh hS2 hg (hB.mono hV0) ⟨hok.pos,by have:=hok.le;omega,by omega⟩;clear hS hS0 hS00 hS1 hS2;(try clear w');have hS:=hS3;clear hS3;have hone2:=qB (wO hk.ves) (wO hk.rdg)))
 obtain ⟨V2,hV2,hc1,hS2⟩:=pin hS
 clear hS
 have hS:=hS2
 clear hS2
 have hB2:Bs V2:=((hB.mono hV0).mono hV1).mono hV2
 have hk2:=jf hk hV2
 have hto1:xB V2 bh (.slice la l.length lcap) c1:=⟨⟨l,pW.mono (pW.mono (pW.mono hl hV0) hV1) hV2⟩,by omega,by omega⟩
 have hr4:V2.Range b4 0 [vv,rv]:=fun j v hj=>by rw [Nat.zero_add];exact hc1 j v hj
 have hr4':([vv,rv]).length=2:=rfl
 have h0:=afi hok htr
 have hlost:=ae6 hok h0
 have hBd:=GH k hok.le (aN k aC) false fun i=>QU k hok aC i
 clear hk hc1 hmv0 htr hl
 refine au (aA ?_)
 go_wp2_with (go_at_call 39;refine eF hS ⟨1,_,fun hVb hg=>xC hto1 (by omega) (St.view hS) hVb hg,?_⟩;clear hS;(try clear w');intro v c4 s4 w' hp k7 k8 hS;(try simp only [sE] at hS);obtain ⟨err,rfl,hy0,hy1⟩:=hp)
 have he:0≤err∧err≤2:=by omega
 have hout:=fun w1 (u1 u2 u3 u5 u7 u8 u12 u13 u14 u15 u16 u17 u18 u19 u20 u21 u22 u23 u24 u25 u26 u27 u28 u29 u30 u31 u32 u33 u34 u35 u36 u37 u38 u39 u40 u41 u42 u43 u44 u45 u46 u47 u48 u49 u50 u51 u52 u53 u54 u55 u56 u57 u58 u59 u60 u61 u62 u63 u64 u65 u66 u67 u68 u69 u70 u71 u72 u73 u74 u75 u76 u77 u78 u79 u80 u81 u82 u83 u84 u85 u86 u87 u88 u89 u90 u91 u92 u93 u94 u95 u96 u97 u98 u99 u100 u101 u102 u103 u104 u105 u106 u107 u108 u109 u110 u111 u112 u113 u114 u115 u116 u117 u118 u119 u120 u121 u122 u123 u124 u125 u126 u127 u128 u129 u130 u131 u132 u133 u134:Value) hS=>aeO (w0:=w) (lv:=.slice la l.length lcap) hB2 hg hk2 hok (by omega) hr4 he h0 k.n 0 (Nat.zero_add _) w1 u1 u2 u3 u5 u7 u8 u12 u13 u14 u15 u16 u17 u18 u19 u20 u21 u22 u23 u24 u25 u26 u27 u28 u29 u30 u31 u32 u33 u34 u35 u36 u37 u38 u39 u40 u41 u42 u43 u44 u45 u46 u47 u48 u49 u50 u51 u52 u53 u54 u55 u56 u57 u58 u59 u60 u61 u62 u63 u64 u65 u66 u67 u68 u69 u70 u71 u72 u73 u74 u75 u76 u77 u78 u79 u80 u81 u82 u83 u84 u85 u86 u87 u88 u89 u90 u91 u92 u93 u94 u95 u96 u97 u98 u99 u100 u101 u102 u103 u104 u105 u106 u107 u108 u109 u110 u111 u112 u113 u114 u115 u116 u117 u118 u119 u120 u121 u122 u123 u124 u125 u126 u127 u128 u129 u130 u131 u132 u133 u134 hS
 have hz:fM k (aN k aC) err 0=(-1,(dW k (aN k aC) false).2 - (dW k (aN k aC) false).1+1):=rfl
 rw [hz] at hout
 dsimp only at hout
 generalize dW k (aN k aC) false=p at hout hlost hBd
 obtain ⟨p1,p2⟩:=p
 obtain ⟨z1,z2,z3,z4⟩:=hBd
 dsimp only at hout z1 z2 z3 z4
 clear hz
 replace hout:=aj hout
 refine au (ig (aa6 1 (by decide) ?_))
 simp only [List.take_succ_cons,List.take_zero]
 go_wp2_with (((with_reducible refine gL ?_);refine zQ hS rfl rfl rfl ?_);refine ⟨_,zd,?_⟩;clear hS;(try clear w');refine zF ?_;intro w' hS)
 refine bG (tgt:=p5a [1,2,3,4,5,6,7]) ?_
 refine acy 33 hS hB2 hk2 hlost rfl rfl rfl rfl rfl rfl ?_
 clear hS;(try clear w');intro w' a' hS hp
 simp only [fr] at hp
 subst hp
 refine abD (tgt:=aeA) (by kernel_rfl) rfl hS ?_
 clear hS;(try clear w');intro w' hS
 refine abr 2 rfl ?_
 simp only [List.drop_succ_cons,List.drop_zero]
 go_wp2_with (first | (((with_reducible refine gS ?_);refine bQ hS rfl rfl rfl ?_);refine ⟨_,zd,?_⟩;clear hS;(try clear w');refine zF ?_;intro w' hS;(try simp only [sE] at hS)) | ((with_reducible refine gA ?_);refine aT 7 rfl hS rfl rfl ?_;clear hS;(try clear w');intro b7;refine zF ?_;intro w' hS))
 refine dH (au (aA ?_))
 go_wp2_with (fail)
 refine au (aA ?_)
 (refine bF (S:=(St w [] V2 [.blk b7 27 [.int .i64 p1,.int .i64 p2]])) [false,false,false,false,false,false,false,false] rfl (by kernel_rfl) ?_;replace hS:=St.eY hS;(iterate 8 ((first | refine hxp 0 rfl ?_ | refine hxa 1 rfl ?_ | refine hxp 2 rfl ?_ | refine hxa 3 rfl ?_ | refine hxp 4 rfl ?_ | refine hxp 5 rfl ?_ | refine hxp 6 rfl ?_ | refine hxp 7 rfl ?_);refine zH ?_));refine wpAnyH_done (by kernel_rfl) ?_ _)
 refine ⟨rfl,?_⟩
 refine au (au (aA ?_))
 go_wp2_with (fail)
 refine jg (zh (bG (tgt:=aeA) ?_))
 exact hout.out _ _ _ _ _ _ _ _ _ _ _ _ _ _ _ _ _ _ _ _ _ _ _ _ _ _ _ _ _ _ _ _ _ _ _ _ _ _ _ _ _ _ _ _ _ _ _ _ _ _ _ _ _ _ _ _ _ _ _ _ _ _ _ _ _ _ _ _ _ _ _ _ _ _ _ _ _ _ _ _ _ _ _ _ _ _ _ _ _ _ _ _ _ _ _ _ _ _ _ _ _ _ _ _ _ _ _ _ _ _ _ _ _ _ _ _ _ _ _ _ _ _ _ _ _ _ _ _ _ _ hS.aG
theorem afg {lv:Value} {l:List Int} (hB:Bs V) (hg:Go.Wg.gN≤w.heap.size) (hl:VI V lv l) (hV:V.In w) (hh:ay OC w):kL Tryd.prog 5 #[lv] w fun r w'=>r=.returned (.bool true)∧Kp w w' :=
 abP (B:=B5) (m:=134) Tryd.func5 (show Tryd.f5.body=some B5 from rfl) (by kernel_rfl) hh (ae3 hB hg hl hV)
end Go.Proofs.YtjjmefieegcddaaDoor
