/- A part of the proof: W12, Q5, W18, W19, S18, S19, S20, W20, W21, W22, W23, Q6, W24. -/
import Derived.Test.YtjjmefieegcddaaDoorM05
import Derived.Test.YtjjmefieegcddaaDoorM06
import Derived.Test.YtjjmefieegcddaaDoorM07
import Derived.Defers
import Derived.Recover
set_option linter.unusedVariables false
set_option linter.unusedSimpArgs false
set_option maxHeartbeats 8000000
set_option maxRecDepth 20000
namespace Go.Proofs.YtjjmefieegcddaaDoor
open Go.RowKit Go.Wg Go.Mm
variable {x y:Int} {b cap:Nat} {t:TypeId} {w:World} {args:Array Value}
theorem fB (n lo hi:Int) (w:World) :
  Calls Tryd.prog 88 #[.int .i64 n,.int .i64 lo,.int .i64 hi] w fun r w'=>r=.returned (.bool (fQ n lo hi))/\Kp w w' :=
 (O9 n lo hi w).mono fun _ _ ⟨h1,h2⟩=>⟨h1,h2 ▸ Kp.refl _⟩
theorem jq (b:Bool) (e:Int) (w:World) :
  Calls Tryd.prog 87 #[.bool b,.int .i64 e] w fun r w'=>r=.returned (.int .i64 (bI b e))/\Kp w w' :=
 (SQ b e w).mono fun _ _ ⟨h1,h2⟩=>⟨h1,h2 ▸ Kp.refl _⟩
theorem LP (l:List Int) (m:Nat) (hm:m<l.length) (h0:bC (l.take m)=0) (h1:l.getD m 0≠0):bC l=l.getD m 0:=by
 have e:bC l=bC (l.take m ++ l.drop m):=by rw[List.take_append_drop]
 have e2:l.getD m 0=l[m]:=by simp[List.getD_eq_getElem?_getD,List.getElem?_eq_getElem hm]
 rw[e2]at h1 |-;rw[e,mV,if_pos h0,List.drop_eq_getElem_cons hm];simp only[bC,h1,if_false]
theorem NC (l:List Int) (m:Nat) (hm:m<l.length) (h0:bC (l.take m)=0) (h1:l.getD m 0=0):bC (l.take (m+1))=0:=by
 rw[List.take_succ_eq_append_getElem hm,mV,if_pos h0];have e2:l.getD m 0=l[m]:=by simp[List.getD_eq_getElem?_getD,List.getElem?_eq_getElem hm]
 rw[e2]at h1;simp[bC,h1]
theorem MX (l:List Int) (b cap:Nat) (t:TypeId) (hl:l.length<=100) (w:World) (hb:w.heap[b]? = some (.cells (l.map (Value.int .i64)).toArray t (0,0))) :
  Calls Tryd.prog 86 #[.slice (some ⟨b,0,none⟩) l.length cap] w fun r w'=>r=.returned (.int .i64 (bC l))/\Kp w w':=by
 obtain⟨V,hVV⟩:∃ V:View,V=fun k=>if k=b then some (.cells (l.map (Value.int .i64)).toArray t (0,0)) else none:=⟨_,rfl⟩
 have hS:=St.start w V (by
  rw[hVV];intro k o h;by_cases hk:k=b
  ·subst hk;simp at h;subst h;exact hb
  ·simp[hk]at h)
 have hcell:∀ m,m<l.length->V.Cell b m (.int .i64 (l.getD m 0)):=fun m hm=>by
  rw[hVV];exact⟨(l.map (Value.int .i64)).toArray,t,(0,0),by simp,by simp[List.getD_eq_getElem?_getD,List.getElem?_eq_getElem hm]⟩
 replace hVV:=aj hVV;clear hb;go_enter Tryd.func86,Tryd.ntmps86
 go_wp2_with (fail)
 go_loopw [7] (fun i wr=>∃ m:Nat,m<=l.length/\i=.int .i64 (m:Int)/\bC (l.take m)=0/\St w [] V [] wr) (fun i _=>l.length-(intOf i).toNat)
 case atStart=>exact⟨0,by omega,rfl,rfl,hS⟩
 case round =>
  clear hS;obtain⟨m,hm,rfl,hz,hS⟩:=hrel;by_cases hlt:m<l.length
  ·have h0:(0:Int)<=m:=by omega
   have h1:(m:Int)<l.length:=by omega
   have hc:=hcell m hlt;have HT:=LP l m hlt hz;have HN:=NC l m hlt hz;replace HT:=aj HT;replace HN:=aj HN;replace hz:=aj hz;clear hcell;generalize l.getD m 0=e at hc HT HN;by_cases he:e=0
   ·subst he;go_wp2_with (refine yy ?_;clear hS;intro w' hS)
    go_roundw
    case rel=>exact⟨m+1,by omega,by go_num,HN.out (by simp),hS⟩
    case measure=>simp only[intOf];omega
   ·have he':(e == 0)=false:=by rw [beq_eq_false_iff_ne];exact he
    go_wp2_with (refine yy ?_;clear hS;intro w' hS)
    go_ret
    exact⟨by rw[HT.out he];rfl,hS.bM⟩
  ·obtain rfl:m=l.length:=by omega
   rw[List.take_length]at hz;replace hz:=aj hz;go_wp2_with (fail)
   go_ret
   exact⟨by rw[hz.out];rfl,hS.bM⟩
structure iJ (V:View) (vv rv:Value) (k:Wk):Prop where
 ves:pW V vv k.n 4 fun i=>(k.v i).cells
 rdg:pW V rv k.rdg.length 4 fun i=>(k.rdg.getD i default).cells
 small:k.n<=100/\k.rdg.length<=100
 cl:∃ D0,Closed V D0/\IZ D0 vv/\IZ D0 rv
theorem Zt (x y:Int) (b cap:Nat) (t:TypeId) (w:World) (hb:w.heap[b]? = some (.cells [.int .i64 x,.int .i64 y].toArray t (0,0))) :
  Calls Tryd.prog 86 #[.slice (some ⟨b,0,none⟩) 2 cap] w fun r w'=>r=.returned (.int .i64 (bC [x,y]))/\Kp w w':=MX [x,y] b cap t (by simp) w hb
theorem Zu (x y z u:Int) (b cap:Nat) (t:TypeId) (w:World) (hb:w.heap[b]? = some (.cells [.int .i64 x,.int .i64 y,.int .i64 z,.int .i64 u].toArray t (0,0))) :
  Calls Tryd.prog 86 #[.slice (some ⟨b,0,none⟩) 4 cap] w fun r w'=>r=.returned (.int .i64 (bC [x,y,z,u]))/\Kp w w':=MX [x,y,z,u] b cap t (by simp) w hb
theorem JM (ha:args=#[.slice (some ⟨b,0,none⟩) 2 cap]) (hb:w.heap[b]? = some (.cells [.int .i64 x,.int .i64 y].toArray t (0,0))) :
  Calls Tryd.prog 86 args w fun r w'=>r=.returned (.int .i64 (bC [x,y]))/\Kp w w':=by subst ha;exact Zt x y b cap t w hb
theorem CQ {z u:Int} (ha:args=#[.slice (some ⟨b,0,none⟩) 4 cap]) (hb:w.heap[b]? = some (.cells [.int .i64 x,.int .i64 y,.int .i64 z,.int .i64 u].toArray t (0,0))) :
  Calls Tryd.prog 86 args w fun r w'=>r=.returned (.int .i64 (bC [x,y,z,u]))/\Kp w w':=by subst ha;exact Zu x y z u b cap t w hb
theorem Wq (V:View) (vv rv:Value) (k:Wk) (hk:iJ V vv rv k) (w:World) (hV:V.In w) :
  Calls Tryd.prog 29 #[.agg #[vv,rv]] w fun r w'=>r=.returned (.int .i64 (nS k))/\Kp w w':=by
 obtain⟨va,vcap,rfl,hvc,hvm,hve⟩:=hk.ves.is;obtain⟨ra,rcap,rfl,hrc,hrm,hre⟩:=hk.rdg.is;obtain⟨hs1,hs2⟩:=hk.small;have hS:=St.start w V hV;clear hk;have HC:nS k=bC [bC [bI (decide (0<k.n)) 7,bI (decide (k.n<=6)) 6],wo k k.n,if 6<k.rdg.length then 6 else 0,uz k k.rdg.length]:=rfl;replace HC:=aj HC;go_enter Tryd.func29,Tryd.ntmps29
 go_wp2_with (refine yb 1 ?_;clear hS;intro b1 w' hS)
 (refine bF (S:=(St w [] V [.blk b1 25 [.slice va k.n vcap,.slice ra k.rdg.length rcap]])) (List.replicate 13 false) rfl zk ?_;replace hS:=St.eY hS;(refine yh [.p 0,.a 1,.p 2,.p 3,.p 5,.a 6,.p 7,.p 8] ?_);(refine Jt 4 zk rfl hS rfl  ?_;refine⟨_,_,zo,?_⟩;refine⟨_,by(go_at_call 87;exact jq _ _ _),?_⟩;clear hS;refine zH ?_;intro w' hS;refine⟨(St.aG hS),?_⟩);(refine Jt 9 zk rfl hS rfl  ?_;refine⟨_,_,zo,?_⟩;refine⟨_,by(go_at_call 87;exact jq _ _ _),?_⟩;clear hS;refine zH ?_;intro w' hS;refine⟨(St.aG hS),?_⟩);(refine Ec 10 zk rfl hS rfl  rfl ?_;refine⟨_,zq,zd,?_⟩;clear hS;intro b25;refine zH ?_;intro w' hS;refine⟨(St.aG hS),?_⟩);(refine Jt 11 zk rfl hS rfl  ?_;refine⟨_,_,zo,?_⟩;refine⟨_,by(go_at_call 86;exact JM rfl (St.at (by assumption) (j:=0) rfl)),?_⟩;clear hS;refine zH ?_;intro w' hS;refine⟨(St.aG hS),?_⟩);(refine yh [.p 12] ?_);refine wpAnyH_done zk ?_ _)
 replace hS:=hS.drop;have E0:bC [bI (decide (0<k.n)) 7,bI (decide ((k.n:Int)<=6)) 6]=bC [bI (decide (0<k.n)) 7,bI (decide (k.n<=6)) 6]:=by
  have e:decide ((k.n:Int)<=6)=decide (k.n<=6):=by rw[decide_eq_decide];omega
  rw[e]
 rw[E0];have EN:bC [bI (decide (0<k.n)) 7,bI (decide (k.n<=6)) 6]=0->0<k.n/\k.n<=6:=by
  unfold bI;by_cases h1:0<k.n<;>by_cases h2:k.n<=6<;>simp[h1,h2,bC]
 clear E0;generalize bC [bI (decide (0<k.n)) 7,bI (decide (k.n<=6)) 6]=e0 at HC EN |-;by_cases h0:e0=0
 ·subst h0;obtain ⟨hn0,hn6⟩:=EN rfl;obtain ⟨vg,vo,rfl,hvr⟩:=hve hn0;clear EN hve;have hd1:decide (0 < k.n)=true:=by simpa using hn0
  have hd2:decide ((k.n:Int)<=6)=true:=by rw[decide_eq_true_iff];omega
  rw[hd1,hd2];go_wp2_with (refine yy ?_;clear hS;intro w' hS)
  go_loopw [33] (fun i wr=>∃ m:Nat,m<=k.n/\i=.int .i64 (m:Int)/\wo k m=0/\St w [] V [.blk b1 25 [.slice (some ⟨vg,vo,none⟩) k.n vcap,.slice ra k.rdg.length rcap]] wr) (fun i _=>k.n-(intOf i).toNat)
  case atStart=>exact⟨0,by omega,rfl,rfl,hS⟩
  case round =>
   clear hS;obtain⟨m,hm,rfl,hz,hS⟩:=hrel;by_cases hlt:m<k.n
   ·have h0:(0:Int)<=m:=by omega
    have h1:(m:Int)<k.n:=by omega
    have hcell:=hvr m hlt;have hcl:(k.v m).cells.length=4:=rfl;have HN:=D8 k m;rw[if_pos hz]at HN;have HH:=@Ri k m k.n hlt hz;replace HN:=aj HN;replace HH:=aj HH;replace hz:=aj hz;have HVE:bC [bI (!fQ (k.v m).from_ (-1) (m-1)) 3,bI (!fQ (k.v m).room 0 40) 1,bI (!fQ (k.v m).lo 0 20 && !fQ (k.v m).hi 0 20) 1,bI (decide ((k.v m).lo<=(k.v m).hi)) 5]=Le m (k.v m):=rfl;generalize Le m (k.v m)=e at HN HH HVE;clear hvr hre;cases hlo:fQ (k.v m).lo 0 20;all_goals
     simp only[hlo,Bool.not_true,Bool.not_false,Bool.true_and,Bool.false_and]at HVE;by_cases he:e=0
    ·subst he;go_wp2_with (first | (refine ym ?_;clear hS;intro w' hS) | (refine ys ?_;clear hS;intro w' hS) | (refine ye ?_;clear hS;intro _ w' hS) | (refine yg ?_;clear hS;intro _ w' hS) | ((with_reducible refine gC ?_);refine aH hS ⟨_,by (first | (go_at_call 88;exact fB _ _ _ _) | (go_at_call 87;exact jq _ _ _) | (go_at_call 86;exact CQ rfl (St.at (by assumption) (j:=0) rfl))),?_⟩;clear hS;intro w' hS))
     replace hS:=hS.drop.drop;go_roundw
     case rel=>exact⟨m+1,by omega,by go_num,by rw[HN.out],hS⟩
     case measure=>simp only[intOf];omega
    ·have he':(e == 0)=false:=by rw [beq_eq_false_iff_ne];exact he
     go_wp2_with (first|(refine ym ?_;clear hS;intro w' hS)|(refine ys ?_;clear hS;intro w' hS)|(refine ye ?_;clear hS;intro _ w' hS)|(refine yg ?_;clear hS;intro _ w' hS)|((with_reducible refine gC ?_);refine aH hS ⟨_,by(first|(go_at_call 88;exact fB _ _ _ _)|(go_at_call 87;exact jq _ _ _)|(go_at_call 86;exact CQ rfl (St.at (by assumption) (j:=0) rfl))),?_⟩;clear hS;intro w' hS))
     go_ret
     refine⟨?_,hS.bM⟩;rw[HC.out,HH.out he];simp[bC,he]
    ·subst he;go_wp2_with (first | (refine ym ?_;clear hS;intro w' hS) | (refine ys ?_;clear hS;intro w' hS) | (refine ye ?_;clear hS;intro _ w' hS) | (refine yg ?_;clear hS;intro _ w' hS) | ((with_reducible refine gC ?_);refine aH hS ⟨_,by (first | (go_at_call 88;exact fB _ _ _ _) | (go_at_call 87;exact jq _ _ _) | (go_at_call 86;exact CQ rfl (St.at (by assumption) (j:=0) rfl))),?_⟩;clear hS;intro w' hS))
     replace hS:=hS.drop.drop;go_roundw
     case rel=>exact⟨m+1,by omega,by go_num,by rw[HN.out],hS⟩
     case measure=>simp only[intOf];omega
    ·have he':(e == 0)=false:=by rw [beq_eq_false_iff_ne];exact he
     go_wp2_with (first|(refine ym ?_;clear hS;intro w' hS)|(refine ys ?_;clear hS;intro w' hS)|(refine ye ?_;clear hS;intro _ w' hS)|(refine yg ?_;clear hS;intro _ w' hS)|((with_reducible refine gC ?_);refine aH hS ⟨_,by(first|(go_at_call 88;exact fB _ _ _ _)|(go_at_call 87;exact jq _ _ _)|(go_at_call 86;exact CQ rfl (St.at (by assumption) (j:=0) rfl))),?_⟩;clear hS;intro w' hS))
     go_ret
     refine⟨?_,hS.bM⟩;rw[HC.out,HH.out he];simp[bC,he]
   ·obtain rfl:m=k.n:=by omega
    clear hvr;by_cases h6:6<k.rdg.length
    ·have h6':(6:Int) < k.rdg.length:=by omega
     replace hz:=aj hz;go_wp2_with (refine yy ?_;clear hS;intro w' hS)
     go_ret
     refine⟨?_,hS.bM⟩;rw[HC.out,hz.out,if_pos h6];simp[bC]
    ·have h6':(k.rdg.length:Int)<=6:=by omega
     have HC':nS k=uz k k.rdg.length:=by
      rw[HC.out,hz,if_neg h6];simp[bC];intro h;exact h.symm
     replace HC':=aj HC';clear hz HC;go_wp2_with (refine yy ?_;clear hS;intro w' hS)
     go_loopw [87] (fun i wr=>∃ m:Nat,m<=k.rdg.length/\i=.int .i64 (m:Int)/\uz k m=0/\St w [] V [.blk b1 25 [.slice (some ⟨vg,vo,none⟩) k.n vcap,.slice ra k.rdg.length rcap]] wr) (fun i _=>k.rdg.length-(intOf i).toNat)
     case atStart=>exact⟨0,by omega,rfl,rfl,hS⟩
     case round =>
      clear hS;obtain⟨m,hm,rfl,hz,hS⟩:=hrel;by_cases hlt:m<k.rdg.length
      ·have h0:(0:Int)<=m:=by omega
       have h1:(m:Int)<k.rdg.length:=by omega
       obtain⟨rg,ro,rfl,hrr⟩:=hre zw;have hcell:=hrr m hlt;have HN:=Et k m;rw[if_pos hz]at HN;have HH:=@Ru k m k.rdg.length hlt hz;replace HN:=aj HN;replace HH:=aj HH;replace hz:=aj hz;generalize k.rdg.getD m default=r at hcell HN HH;have hcl:r.cells.length=4:=rfl;have HVE:bC [bI (!fQ r.vessel 0 (k.n-1) && !fQ r.scale 0 2) 3,bI (!fQ r.shown 0 60 && !fQ r.err 0 9) 1]=KD k.n r:=rfl;generalize KD k.n r=e at HN HH HVE;clear hre hrr;have key:∀ b1 b2:Bool,fQ r.vessel 0 (k.n-1)=b1->fQ r.shown 0 60=b2->True:=fun _ _ _ _=>trivial
       clear key;cases hb1:fQ r.vessel 0 (k.n-1)<;>cases hb2:fQ r.shown 0 60<;>by_cases he:e=0;all_goals
        simp only[hb1,hb2,Bool.not_true,Bool.not_false,Bool.true_and,Bool.false_and]at HVE;first
         | (subst he
            go_wp2_with (first|(refine ym ?_;clear hS;intro w' hS)|(refine ys ?_;clear hS;intro w' hS)|(refine ye ?_;clear hS;intro _ w' hS)|(refine yg ?_;clear hS;intro _ w' hS)|((with_reducible refine gC ?_);refine aH hS ⟨_,by(first|(go_at_call 88;exact fB _ _ _ _)|(go_at_call 87;exact jq _ _ _)|(go_at_call 86;exact JM rfl (St.at (by assumption) (j:=0) rfl))),?_⟩;clear hS;intro w' hS))
            replace hS:=hS.drop.drop;go_roundw
            case rel=>exact⟨m+1,by omega,by go_num,by rw[HN.out],hS⟩
            case measure=>simp only[intOf];omega)
         | (have he':(e == 0)=false:=by rw [beq_eq_false_iff_ne];exact he
            go_wp2_with (first|(refine ym ?_;clear hS;intro w' hS)|(refine ys ?_;clear hS;intro w' hS)|(refine ye ?_;clear hS;intro _ w' hS)|(refine yg ?_;clear hS;intro _ w' hS)|((with_reducible refine gC ?_);refine aH hS ⟨_,by(first|(go_at_call 88;exact fB _ _ _ _)|(go_at_call 87;exact jq _ _ _)|(go_at_call 86;exact JM rfl (St.at (by assumption) (j:=0) rfl))),?_⟩;clear hS;intro w' hS))
            go_ret
            refine⟨?_,hS.bM⟩;rw[HC'.out,HH.out he];rfl)
      ·obtain rfl:m=k.rdg.length:=by omega
       replace hz:=aj hz;clear hre;go_wp2_with (fail)
       go_ret
       refine⟨?_,hS.bM⟩;rw[HC'.out,hz.out];rfl
 ·have he':(e0 == 0)=false:=by rw [beq_eq_false_iff_ne];exact h0
  go_wp2_with (fail)
  go_ret
  refine⟨?_,hS.bM⟩;rw[HC.out];simp[bC,h0]
end Go.Proofs.YtjjmefieegcddaaDoor
namespace Go.Mm
open Go
variable {P:Program} {w0:World} {X:List Nat} {V:View} {L:List dF} {w:World}
class Hw (L:List dF) (g:Nat) (j:outParam Nat) (t:outParam TypeId) (m cap s n:outParam Nat) (xs:outParam (List Value)):Prop where
 ok:L[j]? = some (.row (.slice (some ⟨g,0,none⟩) m cap) t s n xs)
instance Hw.here {L:List dF} {g:Nat} {t:TypeId} {m cap s n:Nat} {xs:List Value}:Hw (.row (.slice (some ⟨g,0,none⟩) m cap) t s n xs::L) g 0 t m cap s n xs:=⟨rfl⟩
instance Hw.there {L:List dF} {g j:Nat} {t:TypeId} {m cap s n:Nat} {xs:List Value} {e:dF} [h:Hw L g j t m cap s n xs]:Hw (e::L) g (j+1) t m cap s n xs:=⟨by simpa using h.ok⟩
theorem UF {t:TypeId} {g m cap s n q:Nat} {xs:List Value} {v:Value} (h:w.ownsRow 0 t s (.slice (some ⟨g,0,none⟩) m cap) n xs) (hq:xs[q]? = some v):w.cell? ⟨g,q,none⟩=some v:=by
 obtain⟨_,h2⟩:=h;rcases h2 with⟨h2,_⟩|⟨g',cap',cur,hv,_,h4,_,_,_,h8⟩
 ·cases h2
 ·cases hv;have h4':w.heap[g]? = some (.cells cur.toList.toArray t (0,0)):=by simpa using h4
  refine aX h4' ?_;rw[<- h8,List.getElem?_take]at hq;split at hq
  ·exact hq
  ·cases hq
section
variable {j n:Nat} {t:TypeId} {xs:List Value}
variable {ops:Array Oper} {rest:List Oper} {o:Oper} {a:Act} {Q:Exit->Act->World->Prop}
theorem dY (hS:St w0 X V L w) (v:Value) {s:Nat} [hj:Hr L v j t s n xs]:v.oneCell'=true:=by
 obtain⟨_,h⟩:=hS.wu hj.ok;rcases h with⟨rfl,_⟩|⟨g,cap,cur,rfl,_⟩<;>rfl
def Z8 (P:Program) (w:World) (t:TypeId) (v:Value) (b m c:Nat) (K:Value->World->Prop):Prop :=
 ∀ (o:Oper) (ρ:Operand->Value) (sl x:Operand),o.op=.call {callee:=.builtin .append,args:=#[sl,x],argTypes:=#[t,t]}->ρ sl=v->ρ x=.slice (some ⟨b,0,none⟩) m c->∃ v' w',(execOp ρ o).run P w=.ok (.value v') w'/\K v' w'
theorem eH (hS:St w0 X V L w) {e:TypeId} {size:Nat} [ht:Zz P t e size] {v:Value} [hj:Hr L v j e size n xs] {b m c jb:Nat} {te:TypeId} {news:List Value} [hjb:Hs L b jb te news]
 {K:Value->World->Prop} (hs:news.length=m * size/\(∀ u∈news,u.oneCell'=true)/\n+m<=1000) (h:∀ v' w',St w0 X V (L.set j (.row v' e size (n+m) (xs ++ news))) w'->K v' w'):Z8 P w t v b m c K :=
 fun o ρ sl x ho hv hx=>by
  obtain⟨v',w',hr,hS'⟩:=PK hS ho ht.ok hj.ok hv hjb.ok hx hs.1 hs.2.1 hs.2.2;exact⟨v',w',hr,h v' w' hS'⟩
theorem Ui (hgd:Region.wanted o (yielded ops a.tmps)=true) {sl x:Operand} (ho:o.op=.call {callee:=.builtin .append,args:=#[sl,x],argTypes:=#[t,t]})
 (h:∃ v b m c,kV a sl=some v/\kV a x=some (.slice (some ⟨b,0,none⟩) m c)/\Z8 P w t v b m c fun v' w'=>∀ a',a.put o.dst v'=a'->wpList P ops Q rest a' w'):wpList P ops Q (o::rest) a w:=by
 obtain⟨v,b,m,c,hv,hx,hA⟩:=h;obtain⟨v',w',hr,hK⟩:=hA o a.eval sl x ho (gU hv) (gU hx);exact dU hgd hr (hK _ rfl)
end
section
variable {t ty:TypeId} {x:Operand} {b j k:Nat} {cs:List Value}
variable {l:List Oper} {md:Region.Mode} {o:Oper} {a:Act} {Q:Exit->Act->World->Prop} {S:World->Prop} {fuel:Nat} {listed:Array Bool}
theorem aa0 (i:Nat) (hi₀:l[i]? = some o) (hs:Region.noSelect l.toArray=true) (hf:Region.free md l.toArray listed i=true) (hr:(Region.ready md l.toArray listed).contains i=true)
 (hQ:∀ v c a w,Q (.panic c) (a.put o.dst v) w->Q (.panic c) a w) (hw:Region.wanted o (yielded l.toArray a.tmps)=true) (hS:St w0 X V L w)
 (ho:o.op=.load ty x) (hx:a.eval x=.pointer (some ⟨b,k,none⟩)) {m cap s n:Nat} {xs:List Value} [hj:Hw L b j t m cap s n xs] [hty:iR P ty]
 (h:∃ v,xs[k]? = some v/\∀ a' l',a.put o.dst v=a'->listed.setIfInBounds i true=l'->wpAnyH P md l.toArray Q (St w0 X V L) fuel l' a' w):wpAnyH P md l.toArray Q (St w0 X V L) (fuel+1) listed a w:=by
 obtain⟨v,hv,h⟩:=h;exact wpAnyH_take (jV hi₀) hs hf hr (hQ v) (.inl ⟨hw,fun _ hS=>fP ho hx hty.ok (UF (hS.wu hj.ok) hv)⟩) hS (h _ _ rfl rfl)
theorem xA (i:Nat) (hr:Region.ready md l.toArray listed=[i]) (hi₀:l[i]? = some o) (hw:Region.wanted o (yielded l.toArray a.tmps)=true) {sl:Operand} 
 (ho:o.op=.call {callee:=.builtin .append,args:=#[sl,x],argTypes:=#[t,t]})
 (h:∃ v b m c,kV a sl=some v/\kV a x=some (.slice (some ⟨b,0,none⟩) m c)/\Z8 P w t v b m c fun v' w'=>∀ a' l',a.put o.dst v'=a'->listed.setIfInBounds i true=l'->S w'/\wpAnyH P md l.toArray Q S fuel l' a' w') :
  wpAnyH P md l.toArray Q S (fuel+1) listed a w:=by
 obtain⟨v,b,m,c,hv,hx,hA⟩:=h;obtain⟨v',w',hr',hK⟩:=hA o a.eval sl x ho (gU hv) (gU hx);exact mG hr (oO (jV hi₀) hw hr' (hK _ _ rfl rfl))
theorem nP (i j:Nat) (hr:Region.ready md l.toArray listed=[i,j])
 (h1:wpOp P l.toArray Q i (fun a' w'=>S w'/\wpAnyH P md l.toArray Q S fuel (listed.setIfInBounds i true) a' w') a w)
 (h2:wpOp P l.toArray Q j (fun a' w'=>S w'/\wpAnyH P md l.toArray Q S fuel (listed.setIfInBounds j true) a' w') a w):wpAnyH P md l.toArray Q S (fuel+1) listed a w :=
 wpAnyH_all hr (by simp) fun k hk=>by
  simp only[List.mem_cons,List.not_mem_nil,or_false]at hk;rcases hk with rfl|rfl
  ·exact h1
  ·exact h2
theorem yK (i:Nat) (hi₀:l[i]? = some o) (hS:St w0 X V L w) (hw:Region.wanted o (yielded l.toArray a.tmps)=true) (ho:o.op=.load ty x)
 (hx:a.eval x=.pointer (some ⟨b,k,none⟩)) [hj:Hs L b j t cs] [hty:iR P ty]
 (h:∃ v,cs[k]? = some v/\∀ a' l',a.put o.dst v=a'->listed.setIfInBounds i true=l'->∀ w',St w0 X V L w'->S w'/\wpAnyH P md l.toArray Q S fuel l' a' w') :
  wpOp P l.toArray Q i (fun a' w'=>S w'/\wpAnyH P md l.toArray Q S fuel (listed.setIfInBounds i true) a' w') a w:=by
 obtain⟨v,hv,h⟩:=h;exact oO (jV hi₀) hw (fP ho hx hty.ok (aX (hS.at hj.ok) hv)) (h _ _ rfl rfl w hS)
theorem AZ (i:Nat) (hr:Region.ready md l.toArray listed=[i]) (hi₀:l[i]? = some o) (hS:St w0 X V L w) (hw:Region.wanted o (yielded l.toArray a.tmps)=true) (ho:o.op=.load ty x)
 (hx:a.eval x=.pointer (some ⟨b,k,none⟩)) [hj:Hs L b j t cs] [hty:iR P ty]
 (h:∃ v,cs[k]? = some v/\∀ a' l',a.put o.dst v=a'->listed.setIfInBounds i true=l'->∀ w',St w0 X V L w'->S w'/\wpAnyH P md l.toArray Q S fuel l' a' w') :
  wpAnyH P md l.toArray Q S (fuel+1) listed a w:=mG hr (yK i hi₀ hS hw ho hx h)
theorem Iu (i:Nat) (hi₀:l[i]? = some o) (hS:St w0 X V L w) (hw:Region.wanted o (yielded l.toArray a.tmps)=true) {e:TypeId} {len:Nat} {parts:List (Nat × Operand)}
 (ho:o.op=.buildSlice t len parts.toArray) [ht:Xu P t e] (h:∃ vs,Parts a 0 parts vs/\(vs.length=len/\len<=100/\∀ v∈vs,v.oneCell'=true)/\∀ b a' l',a.put o.dst (.slice (some ⟨b,0,none⟩) len len)=a' ->
 listed.setIfInBounds i true=l'->∀ w',St w0 X V (.blk b e vs::L) w'->S w'/\wpAnyH P md l.toArray Q S fuel l' a' w') :
  wpOp P l.toArray Q i (fun a' w'=>S w'/\wpAnyH P md l.toArray Q S fuel (listed.setIfInBounds i true) a' w') a w:=by
 obtain⟨vs,hp,hc,h⟩:=h;exact DU hS (jV hi₀) hw ho (by simpa using Eo hp) hc.1 hc.2.1 hc.2.2 ht.ok fun b w' hS'=>h b _ _ rfl rfl w' hS'
end
section
variable {P:Program} {w0:World} {X:List Nat} {V:View} {L:List dF} {w:World} {l:List Oper} {md:Region.Mode} {o:Oper} {a:Act} {Q:Exit->Act->World->Prop} {S:World->Prop} {fuel:Nat} {listed:Array Bool}
theorem hxe {i:Nat} {is:List Hk} {ty:TypeId} {x:Operand} {b k:Nat} {j m cap s n:Nat} {t:TypeId} {xs:List Value} {v:Value} (h:∀ a' l',a.put o.dst v=a'->listed.setIfInBounds i true=l'->TD is (wpAnyH P md l.toArray Q (St w0 X V L) fuel l' a' w)) (hi₀:l[i]? = some o:=by exact rfl) (ho:o.op=.load ty x:=by exact rfl) (hx:a.eval x=.pointer (some ⟨b,k,none⟩):=by exact rfl) (hj:Hw L b j t m cap s n xs:=by exact inferInstance) (hty:iR P ty:=by exact inferInstance) (hv:xs[k]? = some v:=by exact zd) (hs:Region.noSelect l.toArray=true:=by kernel_rfl) (hf:Region.free md l.toArray listed i=true:=by kernel_rfl) (hr:(Region.ready md l.toArray listed).contains i=true:=by kernel_rfl) (hQ:∀ v c a w,Q (.panic c) (a.put o.dst v) w->Q (.panic c) a w:=by first|exact fun _ _ _ _ h=>h|exact fun _ _ _ _ h=>zX (by kernel_rfl) h|exact fun _ _ _ _ h=>nomatch h.1) (hw:Region.wanted o (yielded l.toArray a.tmps)=true:=by exact rfl) (hS':(St w0 X V L) w:=by first|exact St.aG hS|(refine⟨?_,?_,?_⟩<;>first|exact aX hS.dR rfl|exact aX hS.dR (by assumption))):TD (.e i::is) (wpAnyH P md l.toArray Q (St w0 X V L) (fuel+1) listed a w) :=
 aa0 i hi₀ hs hf hr hQ hw hS' ho hx ⟨v,hv,h⟩
end
end Go.Mm
namespace Go.Mm
theorem yp {P Q:Prop} (k:Q) (t:KQ Q->P:=by(intro kq;(with_reducible refine Q5 ?_);refine Ui rfl rfl ?_;refine⟨_,_,_,_,by exact rfl,by exact rfl,?_⟩;refine eH hS zd ?_;intro va w' hS;refine zF ?_;(try simp only[sE]at hS);revert va w';exact kq.out)):P:=t ⟨k⟩
end Go.Mm
namespace Go.Proofs.YtjjmefieegcddaaDoor
open Go.RowKit Go.Wg Go.Mm
theorem Dy {α:Type} (a b c d:α) (R:List α):(a::b::c::d::R).Perm (c::d::(R ++ [b,a])):=by
 have h1:(a::b::c::d::R).Perm (b::a::c::d::R):=List.Perm.swap _ _ _;have h2:([b,a] ++ (c::d::R)).Perm ((c::d::R) ++ [b,a]):=List.perm_append_comm;exact h1.trans h2
def Ib (ts:Nat->Nat) (i b:Nat):Nat->Nat:=fun x=>if x=i then b else ts x
theorem Jl (ts:Nat->Nat) (i b:Nat) (l:List Nat) (hl:∀ x∈l,x<i):(l.map fun x=>ptr (Ib ts i b x))=l.map fun x=>ptr (ts x) :=
 List.map_congr_left fun x hx=>by have:=hl x hx;simp[Ib,show ¬ x=i by omega]
theorem zV (ts:Nat->Nat) (i b:Nat):((List.range (i+1)).map fun x=>ptr (Ib ts i b x))=((List.range i).map fun x=>ptr (ts x)) ++ [ptr b]:=by
 rw[List.range_succ,List.map_append,Jl ts i b _ fun x hx=>List.mem_range.1 hx];simp[Ib]
theorem FC (k:Wk) (ts:Nat->Nat) (fv fv':Nat->Value) (i b j:Nat) (hj:j<i) (hf:(k.v i).from_≠(j:Int)) (hv:fv' j=fv j):nU k (Ib ts i b) fv' (i+1) j=nU k ts fv i j:=by
 unfold nU;rw[JG k i j hf,Jl ts i b _ fun x hx=>xU k i j x hx,hv];simp[Ib,show ¬ j=i by omega]
theorem Ef (k:Wk) (hok:k.Ok) (ts:Nat->Nat) (fv':Nat->Value) (i b:Nat) (hi:i<k.n):nU k (Ib ts i b) fv' (i+1) i =
  [.blk b 129 [.int .i64 (k.v i).from_,.int .i64 (k.v i).room,.int .i64 (k.v i).lo,.int .i64 (k.v i).hi,.int .i64 (i:Int),fv' i],.row (fv' i) 124 1 0 []]:=by
 unfold nU;rw[BN k hok (i+1) i zw zw];simp[Ib]
theorem L8 (k:Wk) (ts:Nat->Nat) (fv':Nat->Value) (i b j:Nat) (hj:j<i) (hf:(k.v i).from_=(j:Int)):nU k (Ib ts i b) fv' (i+1) j =
  [.blk (ts j) 129 [.int .i64 (k.v j).from_,.int .i64 (k.v j).room,.int .i64 (k.v j).lo,.int .i64 (k.v j).hi,.int .i64 (j:Int),fv' j],.row (fv' j) 124 1 ((fO k i j).length+1) (((fO k i j).map fun x=>ptr (ts x)) ++ [ptr b])]:=by
 unfold nU;rw[MK k i j hf,List.map_append,Jl ts i b _ fun x hx=>xU k i j x hx];simp[Ib,show ¬ j=i by omega]
theorem Xh (V:View) (vv rv:Value) (k:Wk) (hk:iJ V vv rv k) (hok:k.Ok) (w:World) (hV:V.In w) :
  Calls Tryd.prog 114 #[.agg #[vv,rv]] w fun r w'=>∃ p,r=.returned (.pointer (some ⟨p,0,none⟩))/\Kp w w'/\(newV V w w').In w'/\jh (newV V w w') p k/\∃ D,Closed (newV V w w') D/\p∈D:=by
 obtain⟨D0,hD0,hD1,hD2⟩:=hk.cl;have hcl:=fun b ts fv tv w'=>RG (V:=V) (w:=w) (w':=w') (k:=k) (vv:=vv) (rv:=rv) (tv:=tv) (b:=b) (ts:=ts) (fv:=fv) hV hD0 hD1 hD2
 clear hD0 hD1 hD2;have hc:=fun b ts fv tv w'=>Y4 (V:=V) (w:=w) (w':=w') (k:=k) (vv:=vv) (rv:=rv) (tv:=tv) (b:=b) (ts:=ts) (fv:=fv) hV hok hk.ves hk.rdg
 obtain⟨va,vcap,rfl,hvc,hvm,hve⟩:=hk.ves.is;obtain⟨ra,rcap,rfl,hrc,hrm,hre⟩:=hk.rdg.is;obtain⟨vg,vo,rfl,hvr⟩:=hve hok.pos;have hn6:=hok.le;have hpos:=hok.pos;have hves:=hok.ves;have hnil:=BN k hok;have hS:=St.start w V hV;clear hk hve hre;go_enter Tryd.func114,Tryd.ntmps114
 go_wp2_with (first|(refine yy ?_;clear hS;intro w' hS)|(refine yb 9 ?_;clear hS;intro b9 w' hS)|(refine yf ?_;clear hS;intro _ w' hS))
 have hS0:St w [] V ([.blk b9 112 [.slice (some ⟨vg,vo,none⟩) k.n vcap,.slice ra k.rdg.length rcap,.slice none 0 0],.row (.slice none 0 0) 124 1 0 ((List.range 0).map fun _=>ptr 0)] ++ iW k (fun _=>0) (fun _=>.bool true) 0 0) w':=by
  have h2:St w [] V [.blk b9 112 [.slice (some ⟨vg,vo,none⟩) k.n vcap,.slice ra k.rdg.length rcap,.slice none 0 0],.row (.slice none 0 0) 124 1 0 []] w':=((hS.nilRow 124 1).perm (List.Perm.swap _ _ _)).aG;exact h2
 clear hS;go_loopw [13] (fun iv wr=>∃ (i:Nat) (ts:Nat->Nat) (fv:Nat->Value) (tv:Value),i<=k.n/\iv=.int .i64 (i:Int) /\
  St w [] V ([.blk b9 112 [.slice (some ⟨vg,vo,none⟩) k.n vcap,.slice ra k.rdg.length rcap,tv],.row tv 124 1 i ((List.range i).map fun x=>ptr (ts x))] ++ iW k ts fv i i) wr) (fun iv _=>k.n-(intOf iv).toNat)
 case atStart=>exact⟨0,_,_,_,by omega,rfl,hS0⟩
 case round =>
  clear hS0;obtain⟨i,ts,fv,tv,hi,rfl,hS⟩:=hrel;by_cases hlt:i<k.n
  ·have h0:(0:Int)<=i:=by omega
   have h1:(i:Int)<k.n:=by omega
   have hcell:=hvr i hlt;have hcl:(k.v i).cells.length=4:=rfl;have hvi:=hves i hlt;unfold nN.cells at hcell;obtain⟨R,hR⟩:∃ R,iW k ts fv i i=R:=⟨_,rfl⟩;rw[hR]at hS;simp only[List.cons_append,List.nil_append]at hS;by_cases hfr:(k.v i).from_<0
   ·have hfr':¬ (0<=(k.v i).from_):=by omega
    replace hR:=aj hR;go_wp2_with (first|(refine ym ?_;clear hS;intro w' hS)|(refine ys ?_;clear hS;intro w' hS)|(refine ya 5 ?_;clear hS;intro b5 w' hS)|(refine yb 21 ?_;clear hS;intro b21 w' hS)|(refine yg ?_;clear hS;intro _ w' hS)|(refine yp ?_;clear hS;intro va w' hS;have hva:=dY hS va))
    go_roundw
    case rel =>
     refine⟨i+1,Ib ts i b21,fun x=>if x=i then .slice none 0 0 else fv x,va,by omega,by go_num,?_⟩;have e2:iW k (Ib ts i b21) (fun x=>if x=i then .slice none 0 0 else fv x) (i+1) (i+1)=R ++ [.blk b21 129 [.int .i64 (k.v i).from_,.int .i64 (k.v i).room,.int .i64 (k.v i).lo,.int .i64 (k.v i).hi,.int .i64 (i:Int),.slice none 0 0],.row (.slice none 0 0) 124 1 0 []]:=by
      rw[xP,Ef k hok ts _ i b21 hlt,<- hR.out];simp only[if_true];congr 1;exact Me fun j hj=>FC k ts fv _ i b21 j hj zw (by simp[show ¬ j=i by omega])
     rw[e2,zV];have hS2:=hS.nilRow 124 1;have hS3:=hS2.sub (List.Sublist.cons_cons _ (List.Sublist.cons _ (List.Sublist.cons_cons _ (List.Sublist.cons _ (List.Sublist.refl _)))));exact hS3.perm (Dy _ _ _ _ R)
    case measure=>simp only[intOf];omega
   ·obtain ⟨f,hf⟩:∃ f:Nat,(k.v i).from_=(f:Int):=⟨(k.v i).from_.toNat,by omega⟩;have hfi:f < i:=by have:=hvi.2.1;omega
    have hf0:(0:Int)<=f:=by omega
    rw[hf]at hcell;obtain⟨R',hp1,hp2⟩:=Qc k ts fv i i f hfi;rw[hR]at hp1;have hfl:(fO k i f).length<=6:=by have:=KW k i f;omega
    replace hf:=aj hf;clear hR hfr;go_wp2_with (first|(refine ym ?_;clear hS;intro w' hS)|(refine ys ?_;clear hS;intro w' hS)|(refine ya 5 ?_;clear hS;intro b5 w' hS)|(refine yb 21 ?_;clear hS;intro b21 w' hS)|(refine yg ?_;clear hS;intro _ w' hS)|(refine yp ?_;clear hS;intro va w' hS;have hva:=dY hS va))
    replace hS:=hS.perm (List.Perm.append_left [_,_,_,_,_] hp1);simp only[nU,List.cons_append,List.nil_append]at hS;obtain⟨g,cap,cur,rfl,hgc1,hgc2,_,_⟩:=oz (hS.wu (j:=4) rfl) zw;have hfi1:(f:Int)<(i:Int)+1:=by omega
    have hrow:(List.map (fun x=>ptr (ts x)) (List.range i) ++ [Value.pointer (some ⟨b21,0,none⟩)])[f]? = some (.pointer (some ⟨ts f,0,none⟩)):=by
     rw[List.getElem?_append_left (by simpa using hfi)];simp[hfi,ptr]
    have hpos1:0<i+1:=by omega
    (refine bF (S:=(St w [] V [.blk b5 29 [.int .i64 f,.int .i64 (k.v i).room,.int .i64 (k.v i).lo,.int .i64 (k.v i).hi],.blk b9 112 [.slice (some ⟨vg,vo,none⟩) k.n vcap,.slice ra k.rdg.length rcap,.slice (some ⟨g,0,none⟩) (i+1) cap],.row (.slice (some ⟨g,0,none⟩) (i+1) cap) 124 1 (i+1) (List.map (fun x=>ptr (ts x)) (List.range i) ++ [Value.pointer (some ⟨b21,0,none⟩)])])) (List.replicate 25 false) rfl zk ?_;replace hS:=St.eY hS;(refine yh [.m 0,.p 1,.p 2,.a 3,.p 4,.a 5,.p 6,.e 7,.m 8,.p 9,.p 10,.a 11,.p 12,.a 13,.p 14,.e 15,.p 16,.p 17,.m 19] ?_);refine nP 18 20 zk ?_ ?_;rotate_left;(refine Iu 20 rfl hS rfl  rfl ?_;refine⟨_,zq,zd,?_⟩;clear hS;intro b55;refine zH ?_;intro w' hS;refine⟨(St.aG hS),?_⟩);(refine AZ 18 zk rfl hS rfl rfl rfl ?_;refine⟨_,zd,?_⟩;clear hS;refine zH ?_;intro w' hS;refine⟨(St.aG hS),?_⟩);(refine xA 21 zk rfl rfl rfl ?_;refine⟨_,_,_,_,by exact rfl,by exact rfl,?_⟩;refine eH hS zd ?_;clear hS;intro v56 w' hS;refine zH ?_;(try simp only[sE]at hS);have hv56:=dY hS v56;refine⟨(St.aG hS),?_⟩);(refine yh [.p 22,.p 23] ?_);((refine jl 24 zk rfl hS rfl  rfl rfl ?_;refine⟨_,zd,?_⟩);clear hS;refine zH ?_;intro w' hS;(try simp only[sE]at hS);refine⟨(St.aG hS),?_⟩);refine wpAnyH_done zk ?_ _;rotate_left;(refine yK 18 rfl hS rfl  rfl rfl ?_;refine⟨_,zd,?_⟩;clear hS;refine zH ?_;intro w' hS;refine⟨(St.aG hS),?_⟩);(refine Ec 20 zk rfl hS rfl  rfl ?_;refine⟨_,zq,zd,?_⟩;clear hS;intro b55;refine zH ?_;intro w' hS;refine⟨(St.aG hS),?_⟩);(refine xA 21 zk rfl rfl rfl ?_;refine⟨_,_,_,_,by exact rfl,by exact rfl,?_⟩;refine eH hS zd ?_;clear hS;intro v56 w' hS;refine zH ?_;(try simp only[sE]at hS);have hv56:=dY hS v56;refine⟨(St.aG hS),?_⟩);(refine yh [.p 22,.p 23] ?_);((refine jl 24 zk rfl hS rfl  rfl rfl ?_;refine⟨_,zd,?_⟩);clear hS;refine zH ?_;intro w' hS;(try simp only[sE]at hS);refine⟨(St.aG hS),?_⟩);refine wpAnyH_done zk ?_ _)
    ·go_wp2_with (fail)
     go_roundw
     case rel =>
      refine⟨i+1,Ib ts i b21,fun x=>if x=i then .slice none 0 0 else if x=f then v56 else fv x,.slice (some ⟨g,0,none⟩) (i+1) cap,by omega,by go_num,?_⟩;have e2:iW k (Ib ts i b21) (fun x=>if x=i then .slice none 0 0 else if x=f then v56 else fv x) (i+1) (i+1)=iW k (Ib ts i b21) (fun x=>if x=i then .slice none 0 0 else if x=f then v56 else fv x) (i+1) i ++
        [.blk b21 129 [.int .i64 (f:Int),.int .i64 (k.v i).room,.int .i64 (k.v i).lo,.int .i64 (k.v i).hi,.int .i64 (i:Int),.slice none 0 0],.row (.slice none 0 0) 124 1 0 []]:=by
       rw[xP,Ef k hok ts _ i b21 hlt,hf.out];simp only[if_true]
      have hp:=hp2 (Ib ts i b21) (fun x=>if x=i then .slice none 0 0 else if x=f then v56 else fv x) (i+1) (fun x hx hxf=>FC k ts fv _ i b21 x hx (by rw[hf.out];omega) (by simp[show ¬ x=i by omega,hxf]));rw[L8 k ts _ i b21 f hfi hf.out]at hp;simp only[show ¬ f=i by omega,if_false,if_true]at hp;rw[e2,zV];have hS2:=hS.nilRow 124 1;have hS3:=hS2.sub (List.Sublist.cons_cons _ (List.Sublist.cons _ (List.Sublist.cons _ (List.Sublist.cons_cons _ (List.Sublist.cons _ (List.Sublist.refl _))))));have hS4:=hS3.perm (Dy _ _ _ _ _);exact hS4.perm (((hp.symm.append_right _).cons _).cons _)
     case measure=>simp only[intOf];omega
    ·go_wp2_with (fail)
     go_roundw
     case rel =>
      refine⟨i+1,Ib ts i b21,fun x=>if x=i then .slice none 0 0 else if x=f then v56 else fv x,.slice (some ⟨g,0,none⟩) (i+1) cap,by omega,by go_num,?_⟩;have e2:iW k (Ib ts i b21) (fun x=>if x=i then .slice none 0 0 else if x=f then v56 else fv x) (i+1) (i+1)=iW k (Ib ts i b21) (fun x=>if x=i then .slice none 0 0 else if x=f then v56 else fv x) (i+1) i ++
        [.blk b21 129 [.int .i64 (f:Int),.int .i64 (k.v i).room,.int .i64 (k.v i).lo,.int .i64 (k.v i).hi,.int .i64 (i:Int),.slice none 0 0],.row (.slice none 0 0) 124 1 0 []]:=by
       rw[xP,Ef k hok ts _ i b21 hlt,hf.out];simp only[if_true]
      have hp:=hp2 (Ib ts i b21) (fun x=>if x=i then .slice none 0 0 else if x=f then v56 else fv x) (i+1) (fun x hx hxf=>FC k ts fv _ i b21 x hx (by rw[hf.out];omega) (by simp[show ¬ x=i by omega,hxf]));rw[L8 k ts _ i b21 f hfi hf.out]at hp;simp only[show ¬ f=i by omega,if_false,if_true]at hp;rw[e2,zV];have hS2:=hS.nilRow 124 1;have hS3:=hS2.sub (List.Sublist.cons_cons _ (List.Sublist.cons _ (List.Sublist.cons _ (List.Sublist.cons_cons _ (List.Sublist.cons _ (List.Sublist.refl _))))));have hS4:=hS3.perm (Dy _ _ _ _ _);exact hS4.perm (((hp.symm.append_right _).cons _).cons _)
     case measure=>simp only[intOf];omega
  ·obtain rfl:i=k.n:=by omega
   go_wp2_with (fail)
   go_ret
   exact⟨b9,rfl,hS.bM,Qe hS.view,hc _ _ _ _ _ hS,hcl _ _ _ _ _ hS⟩
theorem rV {k:Wk} (hok:k.Ok) {i x:Nat} (hx:x∈k.fills i):i<x/\x<k.n:=by
 have h:=List.mem_filter.1 hx;have hn:=List.mem_range.1 h.1;have hf:(k.v x).from_=(i:Int):=by simpa using h.2
 have:=(hok.ves x hn).2.1;omega
theorem TJ (V:View) (p:Nat) (k:Wk) (ts:List Nat) (vv rv:Value) (hC:zO V p k ts vv rv) (hok:k.Ok) (s:SS) (hs:s.WF) (hlo:∀ i,0<=(s.aP i).1) (hhi:∀ i,(s.aP i).2<=1000) (st:Bool) :
  ∀ (f i:Nat),f<=6->i<k.n->k.n-i<=f->∀ (w:World),V.In w ->
  Calls Tryd.prog 124 #[ptr (ts.getD i 0),.agg (dJ s).toArray,.bool st] w fun r w'=>∃ g,r=.returned (.pointer (some ⟨g,0,none⟩))/\Kp w w'/\w.heap.size<=g/\w'.heap[g]? = some (.cells (sJ (jm k s st f i)).toArray 170 (0,0)):=by
 intro f
 induction f with
 |zero=>intro i _ hi hf;omega
 | succ f ih =>
  intro i h6 hi hf w hV;by_cases hfl:k.fills i=[]
  ·have:=Lm V p k ts vv rv hC s hs st i hi hfl w hV;rw[jm,if_pos hfl];exact this
  ·rw [jm,if_neg hfl];refine Jk V p k ts vv rv hC s hs st i hi hfl (jm k s st f) 11764900 (by decide) (by decide) (fun x hx=>⟨Du k s st hlo f x,(D9 k hok.le s st hlo f x).mono ?_⟩) (hlo i) (hhi i) (fun x hx=>?_) w hV
   ·have h7:(7:Int) ^ f<=7 ^ 6:=by
     have:(7:Nat) ^ f<=7 ^ 6:=Nat.pow_le_pow_right (by decide) zw
     exact_mod_cast this
    have e:(7:Int) ^ 6=117649:=by decide
    omega
   ·obtain⟨h1,h2⟩:=rV hok hx;exact ih x zw h2 zw
end Go.Proofs.YtjjmefieegcddaaDoor
namespace Go.Wg
open Go Go.Mm
variable {i:Nat} {k:Wk} {V:View}
def Cb (k:Wk):Nat->Nat->List Nat
 |0,_=>[]
 |f+1,i=>i::(k.fills i).flatMap (Cb k f)
def nG (k:Wk) (l:List Nat) (i:Nat):Bool:=(l.getD i 0 == 0) && (k.fills i).all fun x=>l.getD x 0 != 0
def Cj (k:Wk) (l:List Nat) (pre:List Nat):List Value:=(List.range k.n).map fun i=>.bool (pre.contains i && nG k l i)
def jI (k:Wk) (l:List Nat) (m:Nat):List Int:=((List.range m).filter (nG k l)).map fun i:Nat=>(i:Int)
def qQ (k:Wk):List Int × Int:=if aS k []=0 then(jI k (up k (aN k aC)) k.n,0) else([],aS k [])
theorem JI (k:Wk) (l:List Nat) (m:Nat):jI k l (m+1)=if nG k l m then jI k l m ++ [(m:Int)] else jI k l m:=by
 unfold jI;rw[List.range_succ,List.filter_append,List.map_append];by_cases h:nG k l m=true
 ·simp[h]
 ·simp[h]
theorem Kv (k:Wk) (l:List Nat) (m:Nat):(jI k l m).length<=m:=by
 unfold jI;rw[List.length_map];have:=List.length_filter_le (nG k l) (List.range m)
 rwa [List.length_range]at this
theorem zC (k:Wk) (l:List Nat) (pre:List Nat):(Cj k l pre).length=k.n:=by simp[Cj]
theorem PN (k:Wk) (l:List Nat) (pre:List Nat) (hi:i<k.n):(Cj k l pre)[i]? = some (.bool (pre.contains i && nG k l i)):=by
 simp[Cj,hi]
theorem XQ (k:Wk) (l:List Nat):Cj k l []=List.replicate k.n (.bool false):=by
 refine List.ext_getElem? fun i=>?_
 by_cases hi:i<k.n
 ·rw[PN k l [] hi];simp[hi]
 ·rw[List.getElem?_eq_none (by rw[zC];omega),List.getElem?_eq_none (by simp;omega)]
theorem X0 (k:Wk) (l:List Nat) (pre:List Nat) (hi:i<k.n) (h:nG k l i=true):(Cj k l pre).set i (.bool true)=Cj k l (pre ++ [i]):=by
 refine List.ext_getElem? fun j=>?_
 by_cases hj:j<k.n
 ·rw [PN k l _ hj,List.getElem?_set];by_cases e:i=j
  ·subst e;simp[zC,hi,h]
  ·rw [if_neg e,PN k l _ hj];have:(pre ++ [i]).contains j=pre.contains j:=by
    simp[List.contains_iff_mem,Ne.symm e,Bool.eq_iff_iff]
   rw[this]
 ·rw[List.getElem?_eq_none (by simp[zC];omega),List.getElem?_eq_none (by rw[zC];omega)]
theorem JW (k:Wk) (l:List Nat) (pre:List Nat) (h:nG k l i=false):Cj k l pre=Cj k l (pre ++ [i]):=by
 unfold Cj;refine List.map_congr_left fun j _=>?_
 by_cases e:j=i
 ·subst e;simp[h]
 ·have:(pre ++ [i]).contains j=pre.contains j:=by
   simp[List.contains_iff_mem,e,Bool.eq_iff_iff]
  rw[this]
theorem MS {k:Wk} (hok:k.Ok) {j i:Nat} (hi:i∈k.fills j):∀ (f s:Nat),s<k.n->k.n-s<=f->j∈Cb k f s->i∈Cb k f s
 |0,_,_,_,hj=>nomatch hj
 |f+1,s,hs,hf,hj=>by
  rw[Cb]at hj |-;have hgt:=Go.Proofs.YtjjmefieegcddaaDoor.rV hok hi;refine List.mem_cons_of_mem _ ?_;rcases List.mem_cons.1 hj with rfl|hj
  ·refine List.mem_flatMap.2 ⟨i,hi,?_⟩;obtain⟨g,rfl⟩:∃ g,f=g+1:=⟨f-1,by omega⟩;rw[Cb];exact List.mem_cons_self ..
  ·obtain⟨y,hy,hjy⟩:=List.mem_flatMap.1 hj;have hyy:=Go.Proofs.YtjjmefieegcddaaDoor.rV hok hy;exact List.mem_flatMap.2 ⟨y,hy,MS hok hi f y hyy.2 (by omega) hjy⟩
theorem Xx {k:Wk} (hok:k.Ok):∀ (i:Nat),i<k.n->∃ s∈k.sources,i∈Cb k (k.n-s) s:=by
 intro i
 induction i using Nat.strongRecOn with
 | ind i ih =>
  intro hi;have hv:=hok.ves i hi;by_cases h:(k.v i).from_<0
  ·refine⟨i,List.mem_filter.2 ⟨List.mem_range.2 hi,by simpa using h⟩,?_⟩;obtain⟨g,hg⟩:∃ g,k.n-i=g+1:=⟨k.n-i-1,by omega⟩;rw[hg,Cb];exact List.mem_cons_self ..
  ·obtain ⟨j,hj⟩:∃ j:Nat,(k.v i).from_=(j:Int):=⟨(k.v i).from_.toNat,by omega⟩;have h2:=hv.2.1;have hji:j < i:=by omega
   obtain⟨s,hs,hjs⟩:=ih j hji (by omega);have hsn:s<k.n:=List.mem_range.1 (List.mem_filter.1 hs).1;exact⟨s,hs,MS hok (List.mem_filter.2 ⟨List.mem_range.2 hi,by simpa using hj⟩) _ s hsn (Nat.le_refl _) hjs⟩
def DC (k:Wk) (m:Nat):List Nat:=(k.sources.take m).flatMap fun s=>Cb k (k.n-s) s
theorem Tj (k:Wk) {m:Nat} (hm:m<k.sources.length):DC k (m+1)=DC k m ++ Cb k (k.n-k.sources.getD m 0) (k.sources.getD m 0):=by
 unfold DC;rw[List.take_add_one,List.getElem?_eq_getElem hm,List.flatMap_append];simp[List.getD_eq_getElem?_getD,List.getElem?_eq_getElem hm]
theorem Xo (hok:k.Ok) (l:List Nat):Cj k l (DC k k.sources.length)=(List.range k.n).map fun i=>.bool (nG k l i):=by
 unfold Cj;refine List.map_congr_left fun i hi=>?_
 have hm:i∈DC k k.sources.length:=by
  obtain⟨s,hs,h⟩:=Xx hok i (List.mem_range.1 hi);unfold DC;rw[List.take_length];exact List.mem_flatMap.2 ⟨s,hs,h⟩
 have:(DC k k.sources.length).contains i=true:=by simpa[List.contains_iff_mem]using hm
 rw[this,Bool.true_and]
open Go.Proofs.YtjjmefieegcddaaDoor
def nJ (more:List je):Wk:=⟨[⟨-1,40,1,4⟩,⟨0,20,0,2⟩,⟨0,20,0,0⟩,⟨1,20,0,0⟩],[⟨0,0,30,1⟩,⟨2,1,12,1⟩,⟨3,1,15,0⟩] ++ more⟩
def fD (l:List nN):List Value:=l.flatMap nN.cells
def fH (l:List je):List Value:=l.flatMap je.cells
theorem Ei {α:Type} (f:α->List Value) (hf:∀ x,(f x).length=4):∀ (l:List α) (i:Nat) (x:α),l[i]? = some x->∀ j,j<4->(l.flatMap f)[i * 4+j]? = (f x)[j]?
 | [],i,x,h,_,_=>by simp at h
 |y::l,0,x,h,j,hj=>by
  simp at h;subst h;rw[List.flatMap_cons,Nat.zero_mul,Nat.zero_add,List.getElem?_append_left (by rw[hf];exact hj)]
 |y::l,i+1,x,h,j,hj=>by
  rw[List.flatMap_cons,List.getElem?_append_right (by rw[hf];omega),hf,show(i+1) * 4+j-4=i * 4+j by omega];exact Ei f hf l i x (by simpa using h) j hj
theorem jK {α:Type} (f:α->List Value) (hf:∀ x,(f x).length=4) (l:List α):(l.flatMap f).length=l.length * 4:=by
 induction l with
 |nil=>rfl
 |cons y l ih =>
  rw[List.flatMap_cons,List.length_append,hf,ih,List.length_cons];omega
theorem Gw (l:List nN):∀ c∈fD l,iL c=true:=by
 intro c hc;obtain⟨v,_,hv⟩:=List.mem_flatMap.1 hc;simp[nN.cells]at hv;rcases hv with rfl|rfl|rfl|rfl<;>rfl
theorem zS (l:List je):∀ c∈fH l,iL c=true:=by
 intro c hc;obtain⟨v,_,hv⟩:=List.mem_flatMap.1 hc;simp[je.cells]at hv;rcases hv with rfl|rfl|rfl|rfl<;>rfl
structure Bs (V:View):Prop where
 gv:V.Cell 0 0 XF
 last:∃ o,V (gN-1)=some o
theorem Bs.mono {V':View} (h:Bs V) (hV:∀ j o,V j=some o->V' j=some o):Bs V':=⟨h.gv.mono hV,by obtain⟨o,ho⟩:=h.last;exact⟨o,hV _ _ ho⟩⟩
theorem Yx {w w':World} {bV gR cap:Nat} {cur:Array Value} (hB:Bs V) (hV:V.In w) (hk:Kp w w') (hn:k.n<=100/\k.rdg.length<=100) (l1:w.heap.size<=bV) (l2:w.heap.size<=gR)
 (h1:w'.heap[bV]? = some (.cells (fD k.ves).toArray 29 (0,0))) (h2:w'.heap[gR]? = some (.cells cur 59 (0,0))) (hcap:k.rdg.length<=cap) (hmax:cap<=maxLen) (hcur:cur.toList.take (k.rdg.length * 4)=fH k.rdg)
 (hpad:∀ i c,k.rdg.length * 4<=i->cur[i]? = some c->iL c=true) :
  ∃ V':View,(∀ i,i<w.heap.size->V' i=V i)/\V'.In w'/\iJ V' (.slice (some ⟨bV,0,none⟩) k.n k.n) (.slice (some ⟨gR,0,none⟩) k.rdg.length cap) k:=by
 have hne:bV≠gR:=by
  rintro rfl;rw[h1]at h2;cases h2
 let V':View:=fun j=>if j=bV then some (.cells (fD k.ves).toArray 29 (0,0)) else if j=gR then some (.cells cur 59 (0,0)) else V j
 have e1:V' bV=some (.cells (fD k.ves).toArray 29 (0,0)):=by simp[V']
 have e2:V' gR=some (.cells cur 59 (0,0)):=by simp[V',Ne.symm hne]
 have e3:∀ i,i<w.heap.size->V' i=V i:=fun i hi=>by
  have:i≠bV:=by omega
  have:i≠gR:=by omega
  simp[V', *]
 obtain⟨o,ho⟩:=hB.last;have hgl:gN-1<w.heap.size:=lt_of_heap (hV _ _ ho);have hv4:∀ v:nN,v.cells.length=4:=fun _=>rfl
 have hr4:∀ r:je,r.cells.length=4:=fun _=>rfl
 refine⟨V',e3,fun j u hj=>?_,⟨⟨_,k.n,rfl,Nat.le_refl _,by unfold maxLen;omega,fun _=>⟨bV,0,rfl,fun i hi j v hj=>?_⟩⟩,⟨_,cap,rfl,hcap,hmax,fun _=>⟨gR,0,rfl,fun i hi j v hj=>?_⟩⟩,hn,?_⟩⟩
 ·by_cases c1:j=bV
  ·subst c1;rw[e1]at hj;cases hj;exact h1
  ·by_cases c2:j=gR
   ·subst c2;rw[e2]at hj;cases hj;exact h2
   ·have:V' j=V j:=by simp [V',c1,c2]
    rw[this]at hj;have:=hV j u hj;rw[hk.old j (lt_of_heap this)];exact this
 ·have hj4:j < 4:=by
   have:=(List.getElem?_eq_some_iff.1 hj).1;simpa[nN.cells]using this
  refine⟨_,_,_,e1,?_⟩;have hl:k.ves[i]? = some (k.v i):=by
   unfold Wk.n at hi;simp[Wk.v,List.getD_eq_getElem?_getD,List.getElem?_eq_getElem hi]
  have:=Ei nN.cells hv4 k.ves i (k.v i) hl j hj4;rw[hj]at this;rw[List.getElem?_toArray,Nat.zero_add];exact this
 ·have hj4:j < 4:=by
   have:=(List.getElem?_eq_some_iff.1 hj).1;simpa[je.cells]using this
  refine⟨_,_,_,e2,?_⟩;have hl:k.rdg[i]? = some (k.rdg.getD i default):=by simp[List.getD_eq_getElem?_getD,List.getElem?_eq_getElem hi]
  have:=Ei je.cells hr4 k.rdg i _ hl j hj4;rw[hj]at this;have h3:(cur.toList.take (k.rdg.length * 4))[i * 4+j]? = some v:=by rw[hcur];exact this
  rw[List.getElem?_take,if_pos (by omega)]at h3;rw[Nat.zero_add];simpa using h3
 ·refine ⟨[bV,gR],⟨fun b hb=>?_,fun b hb=>?_,⟨o,by rw [e3 _ hgl];exact ho⟩⟩,.inr (.inr ⟨bV,0,_,_,rfl,by simp⟩),.inr (.inr ⟨gR,0,_,_,rfl,by simp⟩)⟩
  ·rcases List.mem_cons.1 hb with rfl | hb
   ·exact⟨_,_,e1,fun v hv=>.inl (Gw _ v (by simpa using hv))⟩
   ·obtain rfl:b=gR:=by simpa using hb
    refine⟨_,_,e2,fun v hv=>.inl ?_⟩;obtain⟨i,hi,hiv⟩:=Array.mem_iff_getElem.1 hv;rcases Nat.lt_or_ge i (k.rdg.length * 4)with h|h
    ·refine zS k.rdg v ?_;rw [<- hcur];have:(cur.toList.take (k.rdg.length * 4))[i]? = some v:=by
      rw[List.getElem?_take,if_pos h];simp[hi,hiv]
     exact List.mem_of_getElem? this
    ·exact hpad i v h (by rw[Array.getElem?_eq_getElem hi,hiv])
  ·have:b=bV\/b=gR:=by simpa using hb
   rcases this with rfl|rfl<;>omega
end Go.Wg
namespace Go.Proofs.YtjjmefieegcddaaDoor
open Go.RowKit Go.Wg Go.Mm
variable {k:Wk} {rv sl vv:Value} {ns:List Int} {R:Ending->World->Prop}
def Bj (k:Wk) (i:Nat):List Nat:=(List.range i).filter fun x=>decide ((k.v x).from_<0)
theorem sD (k:Wk) (i:Nat):(Bj k i).length<=i:=by
 unfold Bj;have:=List.length_filter_le (fun x=>decide ((k.v x).from_<0)) (List.range i)
 rwa [List.length_range]at this
theorem Fq (V:View) (p:Nat) (k:Wk) (ts:List Nat) (vv rv:Value) (hC:zO V p k ts vv rv) (w:World) (hV:V.In w) :
  Calls Tryd.prog 93 #[ptr p] w fun r w'=>∃ v,r=.returned v/\Kp w w'/\(dF.row v 124 1 k.sources.length (k.sources.map fun x=>ptr (ts.getD x 0))).Holds w'/\∀ b,v.ownBlock=some b->w.heap.size<=b:=by
 obtain⟨cg,ccap,hc2,hcc⟩:=hC.c2;have hn6:=hC.le;have htun:=hC.tun;have hS:=(St.start w V hV).nilRow 124 1;clear hC;unfold ptr at hcc |-;go_enter Tryd.func93,Tryd.ntmps93
 go_wp2_with (refine yy ?_;clear hS;intro w' hS)
 go_loopw [3,11] (fun sv iv wr=>∃ (i:Nat),i<=k.n/\iv=.int .i64 (i:Int)/\sv.oneCell'=true/\St w [] V [.row sv 124 1 (Bj k i).length ((Bj k i).map fun x=>ptr (ts.getD x 0))] wr) (fun _ iv _=>k.n-(intOf iv).toNat)
 case atStart=>exact⟨0,by omega,rfl,rfl,hS⟩
 case round =>
  clear hS;obtain⟨i,hi,rfl,hone,hS⟩:=hrel;by_cases hlt:i<k.n
  ·have h0:(0:Int)<=i:=by omega
   have h1:(i:Int)<k.n:=by omega
   have hpx:=hcc i hlt;have hfr:=htun i hlt 0 _ rfl;have hsl:=sD k i;simp only[Nat.zero_add]at hfr;have HE:Bj k (i+1)=if (k.v i).from_<0 then Bj k i ++ [i] else Bj k i:=by
    unfold Bj;rw[List.range_succ,List.filter_append];by_cases h:(k.v i).from_<0<;>simp[h]
   clear hcc htun;generalize hti:ts.getD i 0=ti at hpx hfr;replace hti:=aj hti;by_cases hneg:(k.v i).from_<0
   ·rw [if_pos hneg] at HE;replace HE:=aj HE;go_wp2_with (first | (refine yy ?_;clear hS;intro w' hS) | (refine yg ?_;clear hS;intro _ w' hS) | (refine yp ?_;clear hS;intro va w' hS;have hva:=dY hS va))
    go_roundw
    case rel =>
     refine⟨i+1,by omega,by go_num,hva,?_⟩;rw[HE.out,List.map_append,List.length_append];simp only[List.map_cons,List.map_nil,List.length_cons,List.length_nil,ptr];rw[hti.out];exact hS.drop
    case measure=>simp only[intOf];omega
   ·rw [if_neg hneg] at HE;replace HE:=aj HE;go_wp2_with (refine yy ?_;clear hS;intro w' hS)
    go_roundw
    case rel =>
     refine⟨i+1,by omega,by go_num,hone,?_⟩;rw[HE.out];exact hS
    case measure=>simp only[intOf];omega
  ·obtain rfl:i=k.n:=by omega
   go_wp2_with (fail)
   (refine yj ?_;refine bK ⟨_,by exact bH (r1:=.tmp 2) zk (by exact bD rfl),?_⟩ rfl)
   refine⟨_,rfl,hS.bM,hS.has _ (List.mem_cons_self ..),fun b hb=>?_⟩;rcases hS.new _ (List.mem_cons_self ..) b hb with h|h
   ·exact h
   ·cases h
theorem J3 {V V':View} {p:Nat} (h:jh V p k) (hV:∀ i o,V i=some o->V' i=some o):jh V' p k:=by
 obtain⟨ts,vv,rv,hC⟩:=h;exact⟨ts,vv,rv,hC.mono hV⟩
theorem Ho {V:View} {w w1 w':World} (hV:V.In w) (hk:w.heap.size<=w1.heap.size):∀ i o,newV V w1 w' i=some o->newV V w w' i=some o:=fun i o h=>by
 unfold newV at h |-;split at h
 ·rename_i h1;have:=lt_of_heap (hV i o h);simp[this,h]
 ·rename_i h1;rw[if_neg zw];exact h
structure abj (V:View) (w w':World) (k:Wk) (ns:List Int) (c:Value):Prop where
 kp:Kp w w'
 bad:aS k ns≠0->c=.pointer none
 good:aS k ns=0->∃ p,c=.pointer (some ⟨p,0,none⟩)/\(newV V w w').In w'/\jh (newV V w w') p k/\∃ D,Closed (newV V w w') D/\p∈D
theorem EF (V:View) (vv rv:Value) (k:Wk) (hk:iJ V vv rv k) (sl:Value) (ns:List Int) (hsl:pW V sl ns.length 1 fun j=>[.int .i64 (ns.getD j 0)]) (hlen:ns.length<=100) (w:World) (hV:V.In w) :
  Calls Tryd.prog 77 #[.agg #[vv,rv],sl] w fun r w'=>∃ c,r=.returned (.tuple #[c,.int .i64 (aS k ns)])/\abj V w w' k ns c:=by
 have hopen:=fun hok w1 hV1=>Xh V vv rv k hk hok w1 hV1
 have hcheck:=fun w1 hV1=>Wq V vv rv k hk w1 hV1
 obtain⟨va,vcap,rfl,hvc,hvm,hve⟩:=hk.ves.is;obtain⟨ra,rcap,rfl,hrc,hrm,hre⟩:=hk.rdg.is;obtain⟨na,ncap,rfl,hnc,hnm,hne⟩:=hsl.is;have hn100:=hk.small.1;have hS:=St.start w V hV;clear hk hsl hve hre;by_cases hck:nS k=0
 ·have hok:=AU hck;have hpos:=hok.pos;have hn6:=hok.le;have hB:aS k ns=if ns.all (fun n=>!fQ n 0 (k.n - 1)) then 0 else 3:=by unfold aS;rw [if_neg (by simp [hck])]
  have hopen:=hopen hok;rw[hck]at hcheck;replace hck:=aj hck;replace hB:=aj hB;go_enter Tryd.func77,Tryd.ntmps77
  go_wp2_with (first|(refine yy ?_;clear hS;intro w' hS)|(refine yb 2 ?_;clear hS;intro b2 w' hS)|(go_at_call 29;refine aH hS ⟨_,hcheck _ (St.view hS),?_⟩;clear hS;intro w' hS))
  go_loopw [16] (fun iv wr=>∃ i:Nat,i<=ns.length/\iv=.int .i64 (i:Int)/\(ns.take i).all (fun n=>!fQ n 0 (k.n-1))=true/\St w [] V [.blk b2 25 [.slice va k.n vcap,.slice ra k.rdg.length rcap]] wr) (fun iv _=>ns.length-(intOf iv).toNat)
  case atStart=>exact⟨0,by omega,rfl,rfl,hS⟩
  case round =>
   clear hS;obtain⟨i,hi,rfl,hall,hS⟩:=hrel;by_cases hlt:i<ns.length
   ·have h0:(0:Int)<=i:=by omega
    have h1:(i:Int)<ns.length:=by omega
    obtain⟨ng,no,rfl,hnr⟩:=hne zw;have hc:=hnr i hlt 0 _ rfl;simp only[Nat.mul_one,Nat.add_zero]at hc;have hT:(ns.take (i+1)).all (fun n=>!fQ n 0 (k.n-1))=!fQ (ns.getD i 0) 0 (k.n-1):=by
     rw[List.take_succ_eq_append_getElem hlt,List.all_append,hall];simp[List.getD_eq_getElem?_getD,List.getElem?_eq_getElem hlt]
    have hA:fQ (ns.getD i 0) 0 (k.n-1)=true->ns.all (fun n=>!fQ n 0 (k.n-1))=false:=fun h=>by
     rw[List.all_eq_false];exact⟨ns.getD i 0,by rw[List.getD_eq_getElem?_getD,List.getElem?_eq_getElem hlt];exact List.getElem_mem _,by rw[h];decide⟩
    clear hne hnr hall;generalize ns.getD i 0=n at hc hT hA;cases ho:fQ n 0 (k.n-1)
    ·rw [ho] at hT;replace hT:=aj hT;clear hA;go_wp2_with (first | (refine yy ?_;clear hS;intro w' hS) | (go_at_call 88;refine aH hS ⟨_,fB _ _ _ _,?_⟩;rw [ho];clear hS;intro w' hS))
     go_roundw
     case rel=>exact⟨i+1,by omega,by go_num,hT.out,hS⟩
     case measure=>simp only[intOf];omega
    ·have hA:=hA ho;replace hA:=aj hA;clear hT;go_wp2_with (first | (refine yy ?_;clear hS;intro w' hS) | (go_at_call 88;refine aH hS ⟨_,fB _ _ _ _,?_⟩;rw [ho];clear hS;intro w' hS))
     (refine yj ?_;refine bK ⟨_,by exact dA (r1:=.tmp 4) (r2:=.tmp 5) zk (by exact bD rfl) (by exact bD rfl),?_⟩ rfl)
     have hB3:aS k ns=3:=by rw[hB.out,hA.out];rfl
     refine⟨_,by rw[hB3],hS.bM,fun _=>rfl,fun h=>?_⟩;rw[hB3]at h;cases h
   ·obtain rfl:i=ns.length:=by omega
    rw[List.take_length]at hall;have hB0:aS k ns=0:=by rw[hB.out,hall];rfl
    replace hall:=aj hall;replace hB0:=aj hB0;go_wp2_with (first|(refine yy ?_;clear hS;intro w' hS)|(go_at_call 114;refine(hopen _ (St.view hS)).mono ?_;rintro _ w2 ⟨p,rfl,hkp,hin,hcel,D,hD,hpD⟩))
    (refine yj ?_;refine bK ⟨_,by exact dA (r1:=.tmp 4) (r2:=.tmp 5) zk (by exact bD rfl) (by exact bD rfl),?_⟩ rfl)
    refine⟨_,by rw[hB0.out],hS.bM.trans hkp,fun h=>absurd hB0.out h,fun _=>⟨p,rfl,Qe (hS.view.kp hkp),J3 hcel (Ho hV hS.size),D,kM hD (Ho hV hS.size),hpD⟩⟩
 ·have hB:aS k ns=nS k:=by unfold aS;rw [if_pos hck]
  have hck':(nS k == 0)=false:=by rw[beq_eq_false_iff_ne];exact hck
  replace hB:=aj hB;generalize nS k=e at hcheck hck hck' hB;clear hopen;go_enter Tryd.func77,Tryd.ntmps77
  go_wp2_with (first|(refine yy ?_;clear hS;intro w' hS)|(refine yb 2 ?_;clear hS;intro b2 w' hS)|(go_at_call 29;refine aH hS ⟨_,hcheck _ (St.view hS),?_⟩;clear hS;intro w' hS))
  (refine yj ?_;refine bK ⟨_,by exact dA (r1:=.tmp 4) (r2:=.tmp 5) zk (by exact bD rfl) (by exact bD rfl),?_⟩ rfl)
  refine⟨_,by rw[hB.out],hS.bM,fun _=>rfl,fun h=>?_⟩;exact absurd (hB.out.symm.trans h) hck
theorem MP (w:World) (t:TypeId) (v:Value):Kp w (w.alloc (.cells #[v] t)) :=
 ⟨rfl,rfl,by show _<=(w.heap.push _).size;simp,fun k hk=>heap_alloc_old w _ hk⟩
theorem Zv (w:World):(Instr.typeAssert .nilIface 20 152 true).run Tryd.prog w=.ok (.tuple #[.agg #[.int .i64 0],.bool false]) w:=by kernel_rfl
theorem Zl (i:Int) (w:World):(Instr.typeAssert (.iface 152 (.agg #[.int .i64 i])) 20 152 true).run Tryd.prog w=.ok (.tuple #[.agg #[.int .i64 i],.bool true]) w:=by kernel_rfl
theorem MC (p:Addr) (w:World) :
  CallsD Tryd.prog 82 #[.pointer (some p)] .returning w fun e u' w'=>e=.returned (.tuple #[])/\u'=.returning/\Kp w w':=by
 have hta:=Zv;refine callsD_of_wpS Tryd.func82 rfl fun c₀ cs hu=>?_
 apply wpS_seq;apply wpS_region;simp[wpOpsS,go_sem,recoverD,hu,Tryd.ntmps82,Exit.thenS,hta];apply wpS_seq;apply wpS_region;simp[wpOpsS,go_sem,hu,Exit.thenS];refine wpS_cond (t:=false) (by simp[Act.eval,Array.replicate]) ?_;simp only[Bool.false_eq_true,if_false];refine wpS_of_wp (wp_skip ?_);have hk:=MP w 152 (.int .i64 0);cases c₀
 simp_all[bodyPostS,results,Tryd.results82]
theorem Pv (b:Nat) (x:Value) (i:Int) (older:List PanicEntry) (w:World) (hb:w.heap[b]? = some (.cells #[x] 38 (0,0))) :
  CallsD Tryd.prog 82 #[.pointer (some ⟨b,0,none⟩)] (.panicking ({v:=.iface 152 (.agg #[.int .i64 i]),recovered:=false}::older)) w fun e u' w' =>
   e=.returned (.tuple #[])/\u'=.panicking ({v:=.iface 152 (.agg #[.int .i64 i]),recovered:=true}::older)/\ni b w w'/\w'.heap[b]? = some (.cells #[.int .i64 9] 38 (0,0)):=by
 have hta:=Zl i;have hlt:=lt_of_heap hb;refine callsD_of_wpS Tryd.func82 rfl fun c₀ cs hu=>?_
 apply wpS_seq;apply wpS_region;simp[wpOpsS,go_sem,recoverD,hu,Tryd.ntmps82,Exit.thenS,hta];apply wpS_seq;apply wpS_region;simp[wpOpsS,go_sem,hu,Exit.thenS];refine wpS_cond (t:=true) (by simp[Act.eval,Array.replicate]) ?_;simp only[if_true];apply wpS_region;have hh:(w.alloc (.cells #[.int .i64 i] 152)).heap[b]? = some (.cells [x].toArray 38 (0,0)):=by rw[heap_alloc_old w _ hlt];exact hb
 have hc:=aX (o:=0) (v:=x) hh rfl;have hz:=frozen_of_row _ b 0 _ _ hh;have hk:=MP w 152 (.int .i64 i);have hend:ni b w ((w.alloc (.cells #[.int .i64 i] 152)).setCell ⟨b,0,none⟩ (.int .i64 9))/\((w.alloc (.cells #[.int .i64 i] 152)).setCell ⟨b,0,none⟩ (.int .i64 9)).heap[b]? = some (.cells #[.int .i64 9] 38 (0,0)):=by
  refine⟨⟨hk.os,hk.output,?_,fun k hk1 hk2=>?_⟩,?_⟩
  ·have:=hk.size;have e:((w.alloc (.cells #[.int .i64 i] 152)).setCell ⟨b,0,none⟩ (.int .i64 9)).heap.size=(w.alloc (.cells #[.int .i64 i] 152)).heap.size:=by simp [World.setCell]
   omega
  ·rw[qL _ _ _ _ hk2];exact hk.old k hk1
  ·rw[heap_setCell_same _ b 0 _ 38 _ hh];simp
 generalize w.alloc (.cells #[.int .i64 i] 152)=W at hc hz hend |-;simp[wpOpsS,go_sem,hc,hz,bodyPostS,results,Tryd.results82];exact hend
variable {w0 w:World} {X:List Nat} {V:View} {L:List dF}
theorem fF (hS:St w0 X V L w) (hk:iJ V vv rv k) (hsl:pW V sl ns.length 1 fun j=>[.int .i64 (ns.getD j 0)]) (hlen:ns.length<=100) (hb:aS k ns≠0)
  (h:∀ w',St w0 X V L w'->R (.returned (.tuple #[.pointer none,.int .i64 (aS k ns)])) w'):Calls Tryd.prog 77 #[.agg #[vv,rv],sl] w R :=
 (EF V vv rv k hk sl ns hsl hlen w hS.view).mono fun e w' ⟨c,he,hr⟩=>by
  subst he;rw[hr.bad hb];exact h w' (hS.kp hr.kp)
theorem eG (hS:St w0 X V L w) (hk:iJ V vv rv k) (hsl:pW V sl ns.length 1 fun j=>[.int .i64 (ns.getD j 0)]) (hlen:ns.length<=100) (hb:aS k ns=0)
  (h:∀ p V' w',(∀ j o,V j=some o->V' j=some o)->jh V' p k->St w0 X V' L w'->R (.returned (.tuple #[.pointer (some ⟨p,0,none⟩),.int .i64 0])) w'):Calls Tryd.prog 77 #[.agg #[vv,rv],sl] w R :=
 (EF V vv rv k hk sl ns hsl hlen w hS.view).mono fun e w' ⟨c,he,hr⟩=>by
  subst he;obtain⟨p,rfl,hin,hcel,_⟩:=hr.good hb;rw[hb];exact h p _ w' (rD hS.view) hcel (hS.call hr.kp hin Ku)
theorem zG (hS:St w0 X V L w) (hk:iJ V vv rv k) (hsl:pW V sl ns.length 1 fun j=>[.int .i64 (ns.getD j 0)]) (hlen:ns.length<=100) (hb:aS k ns=0)
  (h:∀ p V' w' D,(∀ j o,V j=some o->V' j=some o)->jh V' p k->Closed V' D->p∈D->St w0 X V' L w'->R (.returned (.tuple #[.pointer (some ⟨p,0,none⟩),.int .i64 0])) w'):Calls Tryd.prog 77 #[.agg #[vv,rv],sl] w R :=
 (EF V vv rv k hk sl ns hsl hlen w hS.view).mono fun e w' ⟨c,he,hr⟩=>by
  subst he;obtain⟨p,rfl,hin,hcel,D,hD,hpD⟩:=hr.good hb;rw[hb];exact h p _ w' D (rD hS.view) hcel hD hpD (hS.call hr.kp hin Ku)
theorem pG {V:View} {get:Nat->List Value}:pW V (.slice none 0 0) 0 1 get:=⟨⟨none,0,rfl,by omega,by omega,fun h=>absurd h zw⟩⟩
theorem dP (h:aS k ns=0):k.Ok:=by
 unfold aS at h;split at h
 ·rename_i h1;exact absurd h h1
 ·rename_i h1;exact AU (by simpa using h1)
def abV (k:Wk):Bool × Int:=if aS k []=0 then(can k (aN k aC),0) else(false,aS k [])
theorem adf (vv rv:Value) (k:Wk) (hk:iJ V vv rv k) (hG:GV V) (hV:V.In w) :
  Calls Tryd.prog 25 #[.agg #[vv,rv]] w fun r w'=>r=.returned (.tuple #[.bool (abV k).1,.int .i64 (abV k).2])/\Kp w w':=by
 have hbad:=fun(w1:World) (R:Ending->World->Prop) (L:List dF) (h1:St w [] V L w1)=>fF (R:=R) h1 hk pG (ns:=[]) (by simp)
 have hgood:=fun(w1:World) (R:Ending->World->Prop) (L:List dF) (h1:St w [] V L w1)=>eG (R:=R) h1 hk pG (ns:=[]) (by simp)
 obtain⟨va,vcap,rfl,hvc,hvm,hve⟩:=hk.ves.is;obtain⟨ra,rcap,rfl,hrc,hrm,hre⟩:=hk.rdg.is;have hS:=St.start w V hV;clear hk hve hre;by_cases hb:aS k []=0
 ·have hok:=dP hb;have hC:abV k=(can k (aN k aC),0):=by unfold abV;rw [if_pos hb]
  rw[hC];simp only;have hgood:=fun w1 R L h1=>hgood w1 R L h1 hb
  clear hbad;replace hb:=aj hb;replace hC:=aj hC;go_enter Tryd.func25,Tryd.ntmps25
  go_wp2_with (first|(refine yy ?_;clear hS;intro w' hS)|(refine yf ?_;clear hS;intro _ w' hS)|(go_at_call 77;refine hgood _ _ _ hS ?_;clear hS;intro p V' w' hVV hcel hS;have hG':GV V':=hG.mono hVV)|(go_at_call 79;refine aH hS ⟨_,zL V' p k hcel hok _ rfl _ (St.view hS),?_⟩;clear hS;intro w' hS)|(go_at_call 78;refine aH hS ⟨_,Dx V' p k hcel hG' _ (gG _ _) _ (St.view hS),?_⟩;clear hS;intro w' hS))
  (refine yj ?_;refine bK ⟨_,by exact dA (r1:=.tmp 2) (r2:=.tmp 3) zk (by exact bD rfl) (by exact bD rfl),?_⟩ rfl)
  exact⟨rfl,hS.bM⟩
 ·have hC:abV k=(false,aS k []):=by unfold abV;rw [if_neg hb]
  rw[hC];simp only;have hbad:=fun w1 R L h1=>hbad w1 R L h1 hb
  have hb':(aS k [] == 0)=false:=by rw[beq_eq_false_iff_ne];exact hb
  clear hgood;generalize aS k []=e at hb hb' hbad |-;replace hC:=aj hC;go_enter Tryd.func25,Tryd.ntmps25
  go_wp2_with (first|(refine yy ?_;clear hS;intro w' hS)|(refine yf ?_;clear hS;intro _ w' hS)|(go_at_call 77;refine hbad _ _ _ hS ?_;clear hS;intro w' hS))
  (refine yj ?_;refine bK ⟨_,by exact dA (r1:=.tmp 2) (r2:=.tmp 3) zk (by exact bD rfl) (by exact bD rfl),?_⟩ rfl)
  exact⟨rfl,hS.bM⟩
end Go.Proofs.YtjjmefieegcddaaDoor
namespace Go.Mm
open Go
variable {d:Nat} {v:Value} {fn:Func}
variable {P:Program}
def uZ (d:Nat):ResultVar->Bool
 |.tmp t=>t != d
 |.cell t _=>t != d
theorem mQ {tmps:Array Value} {r:ResultVar} (h:uZ d r=true):iI (tmps.setIfInBounds d v) r=iI tmps r:=by
 cases r with
 |tmp t =>
  have h':¬ d=t:=fun e=>by subst e;simp[uZ]at h
  simp[iI,Array.getElem?_setIfInBounds,h']
 |cell t ty =>
  have h':¬ d=t:=fun e=>by subst e;simp[uZ]at h
  simp[iI,Array.getElem?_setIfInBounds,h']
def CS (d:Nat) (rs:Array ResultVar):Bool:=decide (rs.toList.length<=3) && rs.toList.all (uZ d)
theorem KI (h:CS d fn.results=true) (tmps:Array Value) (v:Value) (w:World):(results fn (tmps.setIfInBounds d v)).run P w=(results fn tmps).run P w:=by
 rw[mO,mO];unfold CS at h;generalize fn.results=rs at h |-;obtain⟨l,rfl⟩:∃ l:List ResultVar,rs=l.toArray:=⟨rs.toList,by simp⟩;simp only[Bool.and_eq_true,decide_eq_true_eq]at h;obtain⟨h1,h3⟩:=h;have h2:∀ r∈l,uZ d r=true:=List.all_eq_true.1 h3;clear h3
 match l,h1,h2 with
 | [],_,_=>simp
 | [a],_,h2=>simp[mQ (h2 a (by simp))]
 | [a,b],_,h2=>simp[mQ (h2 a (by simp)),mQ (h2 b (by simp))]
 | [a,b,c],_,h2=>simp[mQ (h2 a (by simp)),mQ (h2 b (by simp)),mQ (h2 c (by simp))]
 |_::_::_::_::_,h1,_=>simp at h1
theorem yx {fn:Func} {d:Nat} {R:Ending->World->Prop} (h:CS d fn.results=true) {tmps:Array Value} {v:Value}:∀ (ds:List Deferred) (u:FrameMode) (w:World),
  Leaves P fn (tmps.setIfInBounds d v) R ds u w->Leaves P fn tmps R ds u w
 | [],.returning,w,hl=>by
  obtain⟨x,h1,h2⟩:=hl;rw[KI (P:=P) h]at h1;exact⟨x,h1,h2⟩
 | [],.panicking _,_,hl=>hl
 | [],.run,_,hl=>hl
 |e::ds,u,w,⟨h1,fv,cap,f,args,h2,h3,h4⟩=>by
  refine⟨h1,fv,cap,f,args,h2,h3,h4.mono ?_⟩;intro e u' w' hk;cases e with
  |returned _=>exact yx h ds _ _ hk
  |panicked _=>exact yx h ds _ _ hk
  |outgrown=>exact hk
theorem zX {R:Ending->World->Prop} {c:List PanicEntry} {a:Act} {w:World} (h:CS d fn.results=true) (hl:bodyPostD P fn R (.panic c) (a.put (some d) v) w):bodyPostD P fn R (.panic c) a w :=
 yx h a.defers (.panicking c) w hl
section
variable {l:List Oper} {md:Region.Mode} {o:Oper} {a:Act} {Q:Exit->Act->World->Prop} {S:World->Prop} {fuel:Nat} {listed:Array Bool} {w:World}
theorem C9 (i:Nat) (hr:Region.ready md l.toArray listed=[i]) (hi₀:l[i]? = some o) (hw:Region.wanted o (yielded l.toArray a.tmps)=true) (hS:S w)
  (h:∃ v,(∀ w,(execOp a.eval o).run P w=.ok (.value v) w)/\∀ a' l',a.put o.dst v=a'->listed.setIfInBounds i true=l'->wpAnyH P md l.toArray Q S fuel l' a' w):wpAnyH P md l.toArray Q S (fuel+1) listed a w:=by
 obtain⟨v,hv,h⟩:=h;exact mG hr (oO (jV hi₀) hw (hv w) ⟨hS,h _ _ rfl rfl⟩)
end
end Go.Mm
namespace Go.Proofs.YtjjmefieegcddaaDoor
open Go.RowKit Go.Wg Go.Mm
variable {b:Nat} {V':View} {v:Int} {k:Wk} {fn:Func} {tmps:Array Value} {R:Ending->World->Prop}
variable {w0 w:World} {X:List Nat} {V:View} {L:List dF}
theorem pin {t:TypeId} {cs:List Value} (h:St w0 X V (.blk b t cs::L) w):∃ V',(∀ j o,V j=some o->V' j=some o)/\(∀ i v,cs[i]? = some v->V'.Cell b i v)/\St w0 X V' L w:=by
 refine⟨_,fun j o hj=>?_,fun i v hi=>⟨cs.toArray,t,(0,0),by simp,by simpa using hi⟩,h.freeze⟩;have hn:=h.off _ (List.mem_cons_self ..) b rfl;have:j≠b:=by rintro rfl;rw[hn]at hj;cases hj
 simp[this,hj]
theorem pW.mono {V:View} {v:Value} {n sz:Nat} {get:Nat->List Value} (h:pW V v n sz get) (hV:∀ i o,V i=some o->V' i=some o):pW V' v n sz get:=by
 obtain⟨a,cap,h1,h2,h3,h4⟩:=h;exact⟨a,cap,h1,h2,h3,fun hn=>by obtain⟨g,off,h5,h6⟩:=h4 hn;exact⟨g,off,h5,fun i hi=>(h6 i hi).mono hV⟩⟩
theorem jf {V:View} {vv rv:Value} (h:iJ V vv rv k) (hV:∀ i o,V i=some o->V' i=some o):iJ V' vv rv k:=⟨pW.mono h.ves hV,pW.mono h.rdg hV,h.small,by obtain⟨D0,h1,h2,h3⟩:=h.cl;exact⟨D0,kM h1 hV,h2,h3⟩⟩
theorem GZ {V:View} (h:∀ i u,[Value.int .i64 v][i]? = some u->V.Cell b i u):pW V (.slice (some ⟨b,0,none⟩) 1 1) [v].length 1 fun j=>[.int .i64 ([v].getD j 0)]:=by
 refine⟨⟨some ⟨b,0,none⟩,1,rfl,by simp,by decide,fun _=>⟨b,0,rfl,fun i hi=>?_⟩⟩⟩;obtain rfl:i=0:=by simpa using hi
 intro j u hj;cases j with
 |zero=>simp at hj;subst hj;exact h 0 _ rfl
 |succ j=>simp at hj
theorem EZ (h:aS k [v]=0):0<=v/\v<k.n:=by
 unfold aS at h;split at h
 ·rename_i h1;exact absurd h h1
 ·split at h
  ·rename_i h2;simp only[List.all_cons,List.all_nil,Bool.and_true]at h2;have:=iV h2;omega
  ·cases h
theorem iF {q:Addr} (hS:St w0 X V L w) (h:∀ w',St w0 X V L w'->∃ v,(results fn tmps).run Tryd.prog w'=.ok v w'/\R (.returned v) w') :
  bodyPostD Tryd.prog fn R .ret ⟨tmps,[{target:=.fn (.func 82) #[],args:=#[.pointer (some q)]}]⟩ w:=by
 show Leaves Tryd.prog fn tmps R [{target:=.fn (.func 82) #[],args:=#[.pointer (some q)]}] .returning w;refine leaves_cons (f:=82) (args:=#[.pointer (some q)]) (by simp) (by simp[go_sem]) ?_;refine(MC q w).mono ?_;rintro e u' w' ⟨rfl,rfl,hk⟩;exact h w' (hS.kp hk)
theorem vJ {j:Nat} {x:Value} {i:Int} (hS:St w0 X V L w) [hj:Hs L b j 38 [x]]
  (h:∀ w',St w0 X V (L.set j (.blk b 38 [.int .i64 9])) w'->∃ v,(results fn tmps).run Tryd.prog w'=.ok v w'/\R (.returned v) w') :
  bodyPostD Tryd.prog fn R (.panic [{v:=.iface 152 (.agg #[.int .i64 i]),recovered:=false}]) ⟨tmps,[{target:=.fn (.func 82) #[],args:=#[.pointer (some ⟨b,0,none⟩)]}]⟩ w:=by
 show Leaves Tryd.prog fn tmps R [{target:=.fn (.func 82) #[],args:=#[.pointer (some ⟨b,0,none⟩)]}] (.panicking [{v:=.iface 152 (.agg #[.int .i64 i]),recovered:=false}]) w;refine leaves_cons (f:=82) (args:=#[.pointer (some ⟨b,0,none⟩)]) (by simp) (by simp[go_sem]) ?_;refine(Pv b x i [] w (hS.at hj.ok)).mono ?_;rintro e u' w' ⟨rfl,rfl,hk,hb⟩;exact h w' (hS.mut hj.ok hk hb rfl)
theorem nH {f:FuncId} {args:Array Value} {c:List PanicEntry} (hS:St w0 X V L w) (hc:Calls Tryd.prog f args w fun r w'=>r=.panicked c/\Kp w w') (h:∀ w',St w0 X V L w'->R (.panicked c) w'):Calls Tryd.prog f args w R :=
 hc.mono fun e w' ⟨he,hk⟩=>by subst he;exact h w' (hS.kp hk)
def iw (k:Wk) (v:Int):(Int × Int) × Int :=
 if aS k [v]=0 then(if (Go.Wg.settle k (aN k aC)).isNone then(aO k (aN k aC) v.toNat,0) else((0,0),9)) else((0,0),aS k [v])
theorem RY (vv rv:Value) (k:Wk) (hk:iJ V vv rv k) (hG:GV V) (hV:V.In w) (v:Int) :
  Calls Tryd.prog 54 #[.agg #[vv,rv],.int .i64 v] w fun r w'=>r=.returned (.tuple #[aJ (iw k v).1,.int .i64 (iw k v).2])/\Kp w w':=by
 have hk0:=hk;obtain⟨va,vcap,rfl,hvc,hvm,hve⟩:=hk0.ves.is;obtain⟨ra,rcap,rfl,hrc,hrm,hre⟩:=hk0.rdg.is;have hS:=St.start w V hV;clear hk0 hve hre;by_cases hb:aS k [v]=0
 ·have hok:=dP hb;obtain ⟨hv0,hv1⟩:=EZ hb;obtain ⟨vn,rfl⟩:∃ vn:Nat,v=(vn:Int):=⟨v.toNat,by omega⟩;have hv6:vn < 6:=by have:=hok.le;omega
  cases hst:Go.Wg.settle k (aN k aC)with
  |none =>
   have hcan:can k (aN k aC)=true:=by unfold can;rw[hst];rfl
   have hC:iw k vn=(aO k (aN k aC) vn,0):=by unfold iw;rw[if_pos hb,hst];rfl
   rw[hC];simp only;replace hC:=aj hC;replace hst:=aj hst;replace hcan:=aj hcan;replace hb:=aj hb
   go_enter_defers Tryd.func54,Tryd.ntmps54
   go_wp2_with (first|(refine ym ?_;clear hS;intro w' hS)|(refine ys ?_;clear hS;intro w' hS)|(refine ya 5 ?_;clear hS;intro b5 w' hS)|(refine ye ?_;clear hS;intro _ w' hS)|(refine yf ?_;clear hS;intro _ w' hS)|(refine yg ?_;clear hS;intro _ w' hS;obtain⟨V1,hV1,hcell,hS'⟩:=pin hS;clear hS;have hS:=hS';clear hS';have hsl:=GZ hcell;have hk1:=jf hk hV1;clear hcell)|(go_at_call 77;refine eG hS hk1 hsl (by simp) hb.out ?_;clear hS;intro p V' w' hVV hcel hS;have hG':GV V':=(hG.mono hV1).mono hVV)|(go_at_call 83;refine aH hS ⟨_,y8 V' p k hcel hok hcan.out _ (St.view hS),?_⟩;clear hS;intro w' hS)|(go_at_call 99;refine aH hS ⟨_,Af V' p k hcel hG' _ (gG _ _) vn hv6 _ (St.view hS),?_⟩;clear hS;intro w' hS))
   (refine iF hS ?_;clear hS;intro w' hS;(try simp only[sE]at hS);refine⟨_,by exact dA (r1:=.cell 4 27) (r2:=.cell 5 38) zk (by exact rX hS rfl zd) (by exact zA hS rfl zd),?_⟩)
   exact⟨rfl,hS.bM⟩
  |some i =>
   have hC:iw k vn=((0,0),9):=by unfold iw;rw[if_pos hb,hst];rfl
   rw[hC];simp only;replace hC:=aj hC;replace hst:=aj hst;replace hb:=aj hb
   go_enter_defers Tryd.func54,Tryd.ntmps54
   go_wp2_with (first|(refine ym ?_;clear hS;intro w' hS)|(refine ys ?_;clear hS;intro w' hS)|(refine ya 5 ?_;clear hS;intro b5 w' hS)|(refine ye ?_;clear hS;intro _ w' hS)|(refine yf ?_;clear hS;intro _ w' hS)|(refine yg ?_;clear hS;intro _ w' hS;obtain⟨V1,hV1,hcell,hS'⟩:=pin hS;clear hS;have hS:=hS';clear hS';have hsl:=GZ hcell;have hk1:=jf hk hV1;clear hcell)|(go_at_call 77;refine eG hS hk1 hsl (by simp) hb.out ?_;clear hS;intro p V' w' hVV hcel hS;have hG':GV V':=(hG.mono hV1).mono hVV)|(go_at_call 83;refine nH hS (zN V' p k hcel hok i hst.out _ (St.view hS)) ?_;clear hS;intro w' hS))
   (refine vJ hS ?_;clear hS;intro w' hS;(try simp only[sE]at hS);refine⟨_,by exact dA (r1:=.cell 4 27) (r2:=.cell 5 38) zk (by exact rX hS rfl zd) (by exact zA hS rfl zd),?_⟩)
   exact⟨rfl,hS.bM⟩
 ·have hC:iw k v=((0,0),aS k [v]):=by unfold iw;rw [if_neg hb]
  rw[hC];simp only;have hb':(aS k [v] == 0)=false:=by rw[beq_eq_false_iff_ne];exact hb
  have hE:Go.RowKit.Hid (∃ e,aS k [v]=e):=aj ⟨_,rfl⟩;obtain⟨e,he⟩:=hE.out;rw[he]at hb' |-;replace hC:=aj hC;replace he:=aj he
  go_enter_defers Tryd.func54,Tryd.ntmps54
  go_wp2_with (first|(refine ym ?_;clear hS;intro w' hS)|(refine ys ?_;clear hS;intro w' hS)|(refine ya 5 ?_;clear hS;intro b5 w' hS)|(refine ye ?_;clear hS;intro _ w' hS)|(refine yf ?_;clear hS;intro _ w' hS)|(refine yg ?_;clear hS;intro _ w' hS;obtain⟨V1,hV1,hcell,hS'⟩:=pin hS;clear hS;have hS:=hS';clear hS';have hsl:=GZ hcell;have hk1:=jf hk hV1;clear hcell)|(go_at_call 77;refine fF hS hk1 hsl (by simp) hb ?_;rw[he.out];clear hS;intro w' hS))
  (refine bF (S:=(St w [] V1 [.blk b5 38 [.int .i64 e]])) [false,false,false,false] rfl zk ?_;replace hS:=St.eY hS;(refine yh [.p 0,.a 1] ?_);((refine wQ 2 zk rfl hS rfl  rfl rfl ?_;refine⟨_,zd,?_⟩);clear hS;refine zH ?_;intro w' hS;(try simp only[sE]at hS);refine⟨(St.aG hS),?_⟩);((refine jl 3 zk rfl hS rfl  rfl rfl ?_;refine⟨_,zd,?_⟩);clear hS;refine zH ?_;intro w' hS;(try simp only[sE]at hS);refine⟨(St.aG hS),?_⟩);refine wpAnyH_done zk ?_ _)
  go_wp2_with (fail)
  (refine iF hS ?_;clear hS;intro w' hS;(try simp only[sE]at hS);refine⟨_,by exact dA (r1:=.cell 4 27) (r2:=.cell 5 38) zk (by exact rX hS rfl zd) (by exact zA hS rfl zd),?_⟩)
  exact⟨by rfl,(hS.bM)⟩
end Go.Proofs.YtjjmefieegcddaaDoor
