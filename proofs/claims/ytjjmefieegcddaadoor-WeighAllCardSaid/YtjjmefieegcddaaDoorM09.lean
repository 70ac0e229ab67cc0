/- A part of the proof: W25, W26, W27, W28, W62, W63, W64, W65, Q7, W29, V5, T13, T14, T15, T16, T17, T18, W30, T19. -/
import Derived.Test.YtjjmefieegcddaaDoorM08
import Derived.Scope
import Derived.Test.YtjjmefieegcddaaDoorM05
import Derived.Test.YtjjmefieegcddaaDoorM01
import Derived.DyingOn
import Derived.Test.YtjjmefieegcddaaDoorM02
import Derived.Conc.TokenTrace
import Derived.Conc.CrowdComm
import Derived.Conc.Own2
set_option linter.unusedVariables false
set_option linter.unusedSimpArgs false
set_option maxHeartbeats 8000000
set_option maxRecDepth 20000
namespace Go.Proofs.YtjjmefieegcddaaDoor
open Go.RowKit Go.Wg Go.Mm
variable {k:Wk} {s:SS} {i:Nat}
variable {w:World} {V:View}
def su (k:Wk) (s:SS) (i:Nat):Option Nat:=(List.range 41).find? fun n=>can k (s.weighed i n)
def dQ (k:Wk):Nat->SS × List Int
 |0=>(aN k aC,[])
 |i+1=>match su k (dQ k i).1 i with
  |some n=>((dQ k i).1.weighed i n,(dQ k i).2 ++ [(n:Int)])
  |none=>dQ k i
def qN (k:Wk):List Int × Int :=
 if aS k []=0 then(if (Go.Wg.settle k (aN k aC)).isNone then((dQ k k.n).2,0) else([],9)) else([],aS k [])
theorem IJ {m:Nat} (hm:m<41) (h0:∀ j,j<m->can k (s.weighed i j)=false) (h1:can k (s.weighed i m)=true):su k s i=some m:=by
 unfold su;rw[List.find?_range_eq_some];exact⟨h1,List.mem_range.2 hm,fun j hj=>by simp[h0 j hj]⟩
theorem Gh (h0:∀ j:Nat,j<41->can k (s.weighed i j)=false):su k s i=none:=by
 unfold su;rw[List.find?_eq_none];intro j hj;rw[h0 j (List.mem_range.1 hj)];decide
theorem Py (k:Wk) (i:Nat):(dQ k i).1.WF:=by
 induction i with
 |zero=>exact gG _ _
 |succ i ih =>
  rw[dQ];split
  ·exact ih.weighed _ _
  ·exact ih
theorem Lu (k:Wk) (i:Nat):(dQ k i).2.length<=i:=by
 induction i with
 |zero=>simp[dQ]
 |succ i ih =>
  rw[dQ];split
  ·simp;omega
  ·omega
def aV (l:List Int):List Value:=l.map fun n=>.int .i64 n
theorem iD (l:List Int):(aV l).length=l.length:=by simp[aV]
def tY (w w':World) (v:Value) (l:List Int):Prop:=w'.ownsRow 0 3 1 v l.length (aV l)/\∀ b,v.ownBlock=some b->w.heap.size<=b
theorem vK {v:Value} {l:List Int} {V':View} {L:List dF} {w':World} (hS:St w [] V' L w') {j:Nat} (hj:L[j]? = some (.row v 3 1 l.length (aV l))):tY w w' v l :=
 ⟨hS.wu hj,fun b hb=>by
  rcases hS.new _ (List.mem_of_getElem? hj) b hb with h|h
  ·exact h
  ·cases h⟩
theorem Vh (vv rv:Value) (k:Wk) (hk:iJ V vv rv k) (hG:GV V) (hV:V.In w) :
  Calls Tryd.prog 27 #[.agg #[vv,rv]] w fun r w'=>∃ v,r=.returned (.tuple #[v,.int .i64 (qN k).2])/\Kp w w'/\tY w w' v (qN k).1:=by
 have hk0:=hk;obtain⟨va,vcap,rfl,hvc,hvm,hve⟩:=hk0.ves.is;obtain⟨ra,rcap,rfl,hrc,hrm,hre⟩:=hk0.rdg.is;have hS:=(St.start w V hV).nilRow 3 1;clear hk0 hve hre;by_cases hb:aS k []=0
 ·have hok:=dP hb;have hpos:=hok.pos;have hn6:=hok.le;cases hst:Go.Wg.settle k (aN k aC) with
  | none =>
   have hcan:can k (aN k aC)=true:=by unfold can;rw[hst];rfl
   have hC:qN k=((dQ k k.n).2,0):=by unfold qN;rw[if_pos hb,hst];rfl
   rw[hC];simp only;have HL0:(dJ (aN k aC)).length=18:=dG (gG _ _);have HT0:(dQ k 0).1=aN k aC:=rfl;have HT1:(dQ k 0).2=[]:=rfl;replace hC:=aj hC;replace hst:=aj hst;replace hcan:=aj hcan;replace hb:=aj hb;replace HT0:=aj HT0;replace HT1:=aj HT1
   go_enter_defers Tryd.func27,Tryd.ntmps27
   go_wp2_with (first|(refine ym ?_;clear hS;intro w' hS)|(refine ys ?_;clear hS;intro w' hS)|(refine ya 3 ?_;clear hS;intro b3 w' hS)|(refine ya 5 ?_;clear hS;intro b5 w' hS)|(refine yf ?_;clear hS;intro _ w' hS)|(go_at_call 77;refine eG hS hk pG (by simp) hb.out ?_;clear hS;intro p V' w' hVV hcel hS;have hG':GV V':=hG.mono hVV;obtain⟨ts,vv',rv',hC'⟩:=id hcel;obtain⟨g,cap,hc2,hts⟩:=hC'.c2;clear hC' hts)|(go_at_call 83;refine aH hS ⟨_,y8 V' p k hcel hok hcan.out _ (St.view hS),?_⟩;clear hS;intro w' hS))
   go_loopw [2,23] (fun sv iv wr=>∃ i:Nat,i<=k.n/\iv=.int .i64 (i:Int)/\sv.oneCell'=true/\St w [] V' [.blk b5 100 (dJ (dQ k i).1),.blk b3 38 [.int .i64 0],.row sv 3 1 (dQ k i).2.length (aV (dQ k i).2)] wr) (fun _ iv _=>k.n-(intOf iv).toNat)
   case atStart=>exact⟨0,by omega,rfl,rfl,by
    have h2:St w [] V' [.blk b5 100 (dJ (aN k aC)),.blk b3 38 [.int .i64 0],.row (.slice none 0 0) 3 1 0 []] w':=hS.aG;exact h2⟩
   case round =>
    clear hS;obtain⟨i,hi,rfl,hone,hS⟩:=hrel;by_cases hlt:i<k.n
    ·have h0:(0:Int)<=i:=by omega
     have h1:(i:Int)<k.n:=by omega
     have hi6:i<6:=by omega
     have hs:=Py k i;have hll:=Lu k i;have HT:dQ k (i+1)=match su k (dQ k i).1 i with|some n=>((dQ k i).1.weighed i n,(dQ k i).2 ++ [(n:Int)])|none=>((dQ k i).1,(dQ k i).2):=by
      rw[dQ]
     replace HT:=aj HT;generalize (dQ k i).1=s at hS hs HT;generalize (dQ k i).2=l at hS hll HT;have hls:(dJ s).length=18:=dG hs;have hil:=iD l;go_wp2_with (fail)
     refine wp_scope_straight ?_;go_wp2_with (fail)
     refine wp_label ?_;go_wp2_with (fail)
     go_loopw [2,26] (fun sv' nv wr=>∃ m:Nat,m<=41/\sv'=u2/\nv=.int .i64 (m:Int)/\(∀ j:Nat,j<m->can k (s.weighed i j)=false)/\St w [] V' [.blk b5 100 (dJ s),.blk b3 38 [.int .i64 0],.row u2 3 1 l.length (aV l)] wr) (fun _ nv _=>41-(intOf nv).toNat)
     case atStart=>exact⟨0,by omega,rfl,rfl,fun j hj=>absurd hj zw,hS⟩
     case round =>
      clear hS;obtain⟨m,hm,rfl,rfl,hno,hS⟩:=hrel;by_cases hm4:m<41
      ·have hm0:(0:Int)<=m:=by omega
       have hm1:(m:Int)<41:=by omega
       have hsw:=hs.weighed i m;have hlw:(dJ (s.weighed i m)).length=18:=dG hsw;generalize hcn:can k (s.weighed i m)=cn;have hcon:∀ w',V'.In w'->Calls Tryd.prog 78 #[.pointer (some ⟨p,0,none⟩),.agg (dJ (s.weighed i m)).toArray] w' fun r w''=>r=.returned (.bool cn)/\Kp w' w'':=fun w' hV'=>by rw[<- hcn];exact Dx V' p k hcel hG' _ hsw w' hV'
       replace hno:=aj hno;cases cn
       ·replace hcn:=aj hcn;go_wp2_with (first | (refine yy ?_;clear hS;intro w' hS) | (go_at_call 84;refine aH hS ⟨_,sV s hs i hi6 m _,?_⟩;clear hS;intro w' hS) | (go_at_call 78;refine aH hS ⟨_,hcon _ (St.view hS),?_⟩;clear hS;intro w' hS))
        go_roundw
        case rel=>exact⟨m+1,by omega,rfl,by go_num,fun j hj=>by
         by_cases hjm:j=m
         ·subst hjm;exact hcn.out
         ·exact hno.out j zw,hS⟩
        case measure=>simp only[intOf];omega
       ·have hfc:=IJ hm4 hno.out hcn;replace hcn:=aj hcn;replace hfc:=aj hfc;go_wp2_with (first | (refine ym ?_;clear hS;intro w' hS) | (refine ys ?_;clear hS;intro w' hS) | (refine yg ?_;clear hS;intro _ w' hS) | (refine yp ?_;clear hS;intro va w' hS;have hva:=dY hS va) | (go_at_call 84;refine aH hS ⟨_,sV s hs i hi6 m _,?_⟩;clear hS;intro w' hS) | (go_at_call 78;refine aH hS ⟨_,hcon _ (St.view hS),?_⟩;clear hS;intro w' hS))
        simp only[Exit.noGoto];go_wp2_with (fail)
        go_roundw
        case rel =>
         refine⟨i+1,by omega,by go_num,hva,?_⟩;rw[HT.out,hfc.out];have ei:aV (l ++ [(m:Int)])=aV l ++ [.int .i64 (m:Int)]:=by simp[aV]
         simp only[ei,List.length_append,List.length_cons,List.length_nil,Nat.zero_add];exact hS.aG
        case measure=>simp only[intOf];omega
      ·obtain rfl:m=41:=by omega
       have hfc:=Gh hno;replace hno:=aj hno;replace hfc:=aj hfc;go_wp2_with (fail)
       simp only[Exit.noGoto];go_wp2_with (fail)
       go_roundw
       case rel =>
        refine⟨i+1,by omega,by go_num,hone,?_⟩;rw[HT.out,hfc.out];exact hS
       case measure=>simp only[intOf];omega
    ·obtain rfl:i=k.n:=by omega
     go_wp2_with (refine ys ?_;clear hS;intro w' hS)
     (refine iF hS ?_;clear hS;intro w' hS;(try simp only[sE]at hS);refine⟨_,by exact dA (r1:=.tmp 2) (r2:=.cell 3 38) zk (by exact bD rfl) (by exact zA hS rfl zd),?_⟩)
     exact⟨_,rfl,hS.bM,vK hS (j:=2) rfl⟩
  |some i =>
   have hC:qN k=([],9):=by unfold qN;rw[if_pos hb,hst];rfl
   rw[hC];simp only;replace hC:=aj hC;replace hst:=aj hst;replace hb:=aj hb
   go_enter_defers Tryd.func27,Tryd.ntmps27
   go_wp2_with (first|(refine ym ?_;clear hS;intro w' hS)|(refine ys ?_;clear hS;intro w' hS)|(refine ya 3 ?_;clear hS;intro b3 w' hS)|(refine yf ?_;clear hS;intro _ w' hS)|(go_at_call 77;refine eG hS hk pG (by simp) hb.out ?_;clear hS;intro p V' w' hVV hcel hS;have hG':GV V':=hG.mono hVV)|(go_at_call 83;refine nH hS (zN V' p k hcel hok i hst.out _ (St.view hS)) ?_;clear hS;intro w' hS))
   (refine vJ hS ?_;clear hS;intro w' hS;(try simp only[sE]at hS);refine⟨_,by exact dA (r1:=.tmp 2) (r2:=.cell 3 38) zk (by exact bD rfl) (by exact zA hS rfl zd),?_⟩)
   exact⟨_,rfl,hS.bM,vK hS (l:=[]) (j:=2) rfl⟩
 ·have hC:qN k=([],aS k []):=by unfold qN;rw [if_neg hb]
  rw[hC];simp only;have hb':(aS k [] == 0)=false:=by rw[beq_eq_false_iff_ne];exact hb
  have hE:Go.RowKit.Hid (∃ e,aS k []=e):=aj ⟨_,rfl⟩;obtain⟨e,he⟩:=hE.out;rw[he]at hb' |-;replace hC:=aj hC;replace he:=aj he
  go_enter_defers Tryd.func27,Tryd.ntmps27
  go_wp2_with (first|(refine ym ?_;clear hS;intro w' hS)|(refine ys ?_;clear hS;intro w' hS)|(refine ya 3 ?_;clear hS;intro b3 w' hS)|(refine yf ?_;clear hS;intro _ w' hS)|(go_at_call 77;refine fF hS hk pG (by simp) hb ?_;rw[he.out];clear hS;intro w' hS))
  (refine bF (S:=(St w [] V [.blk b3 38 [.int .i64 e]])) [false,false,false] rfl zk ?_;replace hS:=St.eY hS;(refine yh [.a 0] ?_);(refine C9 1 zk rfl rfl (St.aG hS) ?_;refine⟨_,zp,?_⟩;refine zH ?_);((refine jl 2 zk rfl hS rfl  rfl rfl ?_;refine⟨_,zd,?_⟩);clear hS;refine zH ?_;intro w' hS;(try simp only[sE]at hS);refine⟨(St.aG hS),?_⟩);refine wpAnyH_done zk ?_ _)
  go_wp2_with (fail)
  (refine iF hS ?_;clear hS;intro w' hS;(try simp only[sE]at hS);refine⟨_,by exact dA (r1:=.tmp 2) (r2:=.cell 3 38) zk (by exact bD rfl) (by exact zA hS rfl zd),?_⟩)
  exact⟨_,rfl,hS.bM,vK hS (l:=[]) (j:=2) rfl⟩
end Go.Proofs.YtjjmefieegcddaaDoor
namespace Go.Proofs.YtjjmefieegcddaaDoor
open Go.RowKit Go.Wg Go.Mm
variable {w0 w:World} {X:List Nat} {V:View} {L:List dF}
def aaG (k:Wk) (v:Int):(Int × Int) × Int :=
 if aS k [v]=0 then(if (Go.Wg.settle k (aN k aC)).isNone then(aal k (aN k aC) v.toNat,0) else((0,0),9)) else((0,0),aS k [v])
theorem ac6 (vv rv:Value) (k:Wk) (hk:iJ V vv rv k) (hG:GV V) (hV:V.In w) (v:Int) :
  Calls Tryd.prog 63 #[.agg #[vv,rv],.int .i64 v] w fun r w'=>r=.returned (.tuple #[aJ (aaG k v).1,.int .i64 (aaG k v).2])/\Kp w w':=by
 have hk0:=hk;obtain⟨va,vcap,rfl,hvc,hvm,hve⟩:=hk0.ves.is;obtain⟨ra,rcap,rfl,hrc,hrm,hre⟩:=hk0.rdg.is;have hS:=St.start w V hV;clear hk0 hve hre;by_cases hb:aS k [v]=0
 ·have hok:=dP hb;obtain ⟨hv0,hv1⟩:=EZ hb;obtain ⟨vn,rfl⟩:∃ vn:Nat,v=(vn:Int):=⟨v.toNat,by omega⟩;have hv1':vn < k.n:=by omega
  cases hst:Go.Wg.settle k (aN k aC)with
  |none =>
   have hcan:can k (aN k aC)=true:=by unfold can;rw[hst];rfl
   have hC:aaG k vn=(aal k (aN k aC) vn,0):=by unfold aaG;rw[if_pos hb,hst];rfl
   rw[hC];simp only;replace hC:=aj hC;replace hst:=aj hst;replace hcan:=aj hcan;replace hb:=aj hb
   go_enter_defers Tryd.func63,Tryd.ntmps63
   go_wp2_with (first|(refine ym ?_;clear hS;intro w' hS)|(refine ys ?_;clear hS;intro w' hS)|(refine ya 5 ?_;clear hS;intro b5 w' hS)|(refine ye ?_;clear hS;intro _ w' hS)|(refine yf ?_;clear hS;intro _ w' hS)|(refine yg ?_;clear hS;intro _ w' hS;obtain⟨V1,hV1,hcell,hS'⟩:=pin hS;clear hS;have hS:=hS';clear hS';have hsl:=GZ hcell;have hk1:=jf hk hV1;clear hcell)|(go_at_call 77;refine eG hS hk1 hsl (by simp) hb.out ?_;clear hS;intro p V' w' hVV hcel hS;have hG':GV V':=(hG.mono hV1).mono hVV)|(go_at_call 83;refine aH hS ⟨_,y8 V' p k hcel hok hcan.out _ (St.view hS),?_⟩;clear hS;intro w' hS)|(go_at_call 110;refine aH hS ⟨_,ac9 V' p k hcel hG' _ (gG _ _) vn hv1' (QU k hok _ vn) (Int.le_trans (Jy k hok _ vn) (by decide)) _ (St.view hS),?_⟩;clear hS;intro w' hS))
   (refine iF hS ?_;clear hS;intro w' hS;(try simp only[sE]at hS);refine⟨_,by exact dA (r1:=.cell 4 27) (r2:=.cell 5 38) zk (by exact rX hS rfl zd) (by exact zA hS rfl zd),?_⟩)
   exact⟨rfl,hS.bM⟩
  |some i =>
   have hC:aaG k vn=((0,0),9):=by unfold aaG;rw[if_pos hb,hst];rfl
   rw[hC];simp only;replace hC:=aj hC;replace hst:=aj hst;replace hb:=aj hb
   go_enter_defers Tryd.func63,Tryd.ntmps63
   go_wp2_with (first|(refine ym ?_;clear hS;intro w' hS)|(refine ys ?_;clear hS;intro w' hS)|(refine ya 5 ?_;clear hS;intro b5 w' hS)|(refine ye ?_;clear hS;intro _ w' hS)|(refine yf ?_;clear hS;intro _ w' hS)|(refine yg ?_;clear hS;intro _ w' hS;obtain⟨V1,hV1,hcell,hS'⟩:=pin hS;clear hS;have hS:=hS';clear hS';have hsl:=GZ hcell;have hk1:=jf hk hV1;clear hcell)|(go_at_call 77;refine eG hS hk1 hsl (by simp) hb.out ?_;clear hS;intro p V' w' hVV hcel hS;have hG':GV V':=(hG.mono hV1).mono hVV)|(go_at_call 83;refine nH hS (zN V' p k hcel hok i hst.out _ (St.view hS)) ?_;clear hS;intro w' hS))
   (refine vJ hS ?_;clear hS;intro w' hS;(try simp only[sE]at hS);refine⟨_,by exact dA (r1:=.cell 4 27) (r2:=.cell 5 38) zk (by exact rX hS rfl zd) (by exact zA hS rfl zd),?_⟩)
   exact⟨rfl,hS.bM⟩
 ·have hC:aaG k v=((0,0),aS k [v]):=by unfold aaG;rw [if_neg hb]
  rw[hC];simp only;have hb':(aS k [v] == 0)=false:=by rw[beq_eq_false_iff_ne];exact hb
  have hE:Go.RowKit.Hid (∃ e,aS k [v]=e):=aj ⟨_,rfl⟩;obtain⟨e,he⟩:=hE.out;rw[he]at hb' |-;replace hC:=aj hC;replace he:=aj he
  go_enter_defers Tryd.func63,Tryd.ntmps63
  go_wp2_with (first|(refine ym ?_;clear hS;intro w' hS)|(refine ys ?_;clear hS;intro w' hS)|(refine ya 5 ?_;clear hS;intro b5 w' hS)|(refine ye ?_;clear hS;intro _ w' hS)|(refine yf ?_;clear hS;intro _ w' hS)|(refine yg ?_;clear hS;intro _ w' hS;obtain⟨V1,hV1,hcell,hS'⟩:=pin hS;clear hS;have hS:=hS';clear hS';have hsl:=GZ hcell;have hk1:=jf hk hV1;clear hcell)|(go_at_call 77;refine fF hS hk1 hsl (by simp) hb ?_;rw[he.out];clear hS;intro w' hS))
  (refine bF (S:=(St w [] V1 [.blk b5 38 [.int .i64 e]])) [false,false,false,false] rfl zk ?_;replace hS:=St.eY hS;(refine yh [.p 0,.a 1] ?_);((refine wQ 2 zk rfl hS rfl  rfl rfl ?_;refine⟨_,zd,?_⟩);clear hS;refine zH ?_;intro w' hS;(try simp only[sE]at hS);refine⟨(St.aG hS),?_⟩);((refine jl 3 zk rfl hS rfl  rfl rfl ?_;refine⟨_,zd,?_⟩);clear hS;refine zH ?_;intro w' hS;(try simp only[sE]at hS);refine⟨(St.aG hS),?_⟩);refine wpAnyH_done zk ?_ _)
  go_wp2_with (fail)
  (refine iF hS ?_;clear hS;intro w' hS;(try simp only[sE]at hS);refine⟨_,by exact dA (r1:=.cell 4 27) (r2:=.cell 5 38) zk (by exact rX hS rfl zd) (by exact zA hS rfl zd),?_⟩)
  exact⟨by rfl,(hS.bM)⟩
end Go.Proofs.YtjjmefieegcddaaDoor
namespace Go.Proofs.YtjjmefieegcddaaDoor
open Go.RowKit Go.Wg Go.Mm
variable {o:Oper} {ρ:Operand->Value} {x y z:Operand} {a:Act} {bm g m n:Nat} {w0:World} {X:List Nat} {L:List dF} {ops:Array Oper} {rest:List Oper} {Q:Exit->Act->World->Prop} {e:TypeId} {v:Value} {cs news:List Value}
variable {w:World} {V:View}
def qx (k:Wk) (v:Int):Int × Int :=
 if aS k [v]=0 then(match zn k v.toNat with|some n=>((n:Int),0)|none=>(0,11)) else(0,aS k [v])
theorem RS (vv rv:Value) (k:Wk) (hk:iJ V vv rv k) (hG:GV V) (hV:V.In w) (v:Int) :
  Calls Tryd.prog 51 #[.agg #[vv,rv],.int .i64 v] w fun r w'=>r=.returned (.tuple #[.int .i64 (qx k v).1,.int .i64 (qx k v).2])/\Kp w w':=by
 have hk0:=hk;obtain⟨va,vcap,rfl,hvc,hvm,hve⟩:=hk0.ves.is;obtain⟨ra,rcap,rfl,hrc,hrm,hre⟩:=hk0.rdg.is;have hS:=St.start w V hV;clear hk0 hve hre;by_cases hb:aS k [v]=0
 ·have hok:=dP hb;obtain ⟨hv0,hv1⟩:=EZ hb;obtain ⟨vn,rfl⟩:∃ vn:Nat,v=(vn:Int):=⟨v.toNat,by omega⟩;have hv6:vn < 6:=by have:=hok.le;omega
  have hhi:=Jy k hok aC vn;have hlo0:0<=((aN k aC).aP vn).2:=by
   have h1:=rW k hok aC vn;rw[if_pos (by omega:vn<k.n)]at h1;rw[h1];exact(hok.ves vn zw).2.2.2.2.2.2.1
  have hcon:=fun V' p hcel hG' w' hV'=>Ti V' p k hcel hok hG' vn hv6 hlo0 (Int.le_trans hhi (by decide)) w' hV'
  have hC:qx k vn=(match zn k vn with|some n=>((n:Int),0)|none=>(0,11)):=by unfold qx;rw[if_pos hb];rfl
  clear hhi hlo0;cases hst:zn k vn with
  |none =>
   rw[hst]at hC hcon;rw[hC];simp only;unfold IQ at hcon;replace hC:=aj hC;replace hst:=aj hst;replace hb:=aj hb;go_enter Tryd.func51,Tryd.ntmps51
   go_wp2_with (first|(refine yy ?_;clear hS;intro w' hS)|(refine yf ?_;clear hS;intro _ w' hS)|(refine yg ?_;clear hS;intro _ w' hS;obtain⟨V1,hV1,hcell,hS'⟩:=pin hS;clear hS;have hS:=hS';clear hS';have hsl:=GZ hcell;have hk1:=jf hk hV1;clear hcell)|(go_at_call 77;refine eG hS hk1 hsl (by simp) hb.out ?_;clear hS;intro p V' w' hVV hcel hS;have hG':GV V':=(hG.mono hV1).mono hVV)|(go_at_call 101;refine aH hS ⟨_,hcon V' p hcel hG' _ (St.view hS),?_⟩;clear hS;intro w' hS))
   (refine yj ?_;refine bK ⟨_,by exact dA (r1:=.tmp 4) (r2:=.tmp 5) zk (by exact bD rfl) (by exact bD rfl),?_⟩ rfl)
   exact⟨rfl,hS.bM⟩
  |some n =>
   rw[hst]at hC hcon;rw[hC];simp only;unfold IQ at hcon;replace hC:=aj hC;replace hst:=aj hst;replace hb:=aj hb;go_enter Tryd.func51,Tryd.ntmps51
   go_wp2_with (first|(refine yy ?_;clear hS;intro w' hS)|(refine yf ?_;clear hS;intro _ w' hS)|(refine yg ?_;clear hS;intro _ w' hS;obtain⟨V1,hV1,hcell,hS'⟩:=pin hS;clear hS;have hS:=hS';clear hS';have hsl:=GZ hcell;have hk1:=jf hk hV1;clear hcell)|(go_at_call 77;refine eG hS hk1 hsl (by simp) hb.out ?_;clear hS;intro p V' w' hVV hcel hS;have hG':GV V':=(hG.mono hV1).mono hVV)|(go_at_call 101;refine aH hS ⟨_,hcon V' p hcel hG' _ (St.view hS),?_⟩;clear hS;intro w' hS))
   (refine yj ?_;refine bK ⟨_,by exact dA (r1:=.tmp 4) (r2:=.tmp 5) zk (by exact bD rfl) (by exact bD rfl),?_⟩ rfl)
   exact⟨rfl,hS.bM⟩
 ·have hC:qx k v=(0,aS k [v]):=by unfold qx;rw [if_neg hb]
  rw[hC];simp only;have hb':(aS k [v] == 0)=false:=by rw[beq_eq_false_iff_ne];exact hb
  have hE:Go.RowKit.Hid (∃ e,aS k [v]=e):=aj ⟨_,rfl⟩;obtain⟨e,he⟩:=hE.out;rw[he]at hb' |-;replace hC:=aj hC;replace he:=aj he;go_enter Tryd.func51,Tryd.ntmps51
  go_wp2_with (first|(refine yy ?_;clear hS;intro w' hS)|(refine yf ?_;clear hS;intro _ w' hS)|(refine yg ?_;clear hS;intro _ w' hS;obtain⟨V1,hV1,hcell,hS'⟩:=pin hS;clear hS;have hS:=hS';clear hS';have hsl:=GZ hcell;have hk1:=jf hk hV1;clear hcell)|(go_at_call 77;refine fF hS hk1 hsl (by simp) hb ?_;rw[he.out];clear hS;intro w' hS))
  (refine yj ?_;refine bK ⟨_,by exact dA (r1:=.tmp 4) (r2:=.tmp 5) zk (by exact bD rfl) (by exact bD rfl),?_⟩ rfl)
  exact⟨rfl,hS.bM⟩
theorem EI (r:je) (w:World):Calls Tryd.prog 42 #[.int .i64 r.vessel,.int .i64 r.scale,.int .i64 r.shown,.int .i64 r.err] w fun e w'=>e=.returned (.agg r.cells.toArray)/\Kp w w':=by
 have hS:=St.start w (fun _=>none) (fun k o h=>by cases h);unfold je.cells;go_enter Tryd.func42,Tryd.ntmps42
 go_wp2_with (first|(refine ys ?_;clear hS;intro w' hS)|(refine ye ?_;clear hS;intro _ w' hS))
 (refine yj ?_;refine bK ⟨_,by exact bH (r1:=.cell 8 59) zk (by exact rX hS rfl zd),?_⟩ rfl)
 exact⟨rfl,hS.bM⟩
theorem TM (v:nN) (w:World):Calls Tryd.prog 76 #[.int .i64 v.from_,.int .i64 v.room,.int .i64 v.lo,.int .i64 v.hi] w fun e w'=>e=.returned (.agg v.cells.toArray)/\Kp w w':=by
 have hS:=St.start w (fun _=>none) (fun k o h=>by cases h);unfold nN.cells;go_enter Tryd.func76,Tryd.ntmps76
 go_wp2_with (first|(refine ys ?_;clear hS;intro w' hS)|(refine ye ?_;clear hS;intro _ w' hS))
 (refine yj ?_;refine bK ⟨_,by exact bH (r1:=.cell 8 29) zk (by exact rX hS rfl zd),?_⟩ rfl)
 exact⟨rfl,hS.bM⟩
theorem Df {a b c:je} (ho:o.op=.buildSlice 23 3 #[(0,x),(1,y),(2,z)]) (hx:ρ x=.agg a.cells.toArray) (hy:ρ y=.agg b.cells.toArray) (hz:ρ z=.agg c.cells.toArray) (w:World) :
  (execOp ρ o).run Tryd.prog w=.ok (.value (.slice (some ⟨w.heap.size,0,none⟩) 3 3)) (w.alloc (.cells (fH [a,b,c]).toArray 59)):=by
 unfold execOp;simp only[ho,List.map_toArray,List.map_cons,List.map_nil,hx,hy,hz];kernel_rfl
theorem oP {a:je} (ho:o.op=.buildSlice 23 1 #[(0,x)]) (hx:ρ x=.agg a.cells.toArray) (w:World) :
  (execOp ρ o).run Tryd.prog w=.ok (.value (.slice (some ⟨w.heap.size,0,none⟩) 1 1)) (w.alloc (.cells (fH [a]).toArray 59)):=by
 unfold execOp;simp only[ho,List.map_toArray,List.map_cons,List.map_nil,hx];kernel_rfl
theorem E5 {u:Operand} {a b c d:nN} (ho:o.op=.buildSlice 22 4 #[(0,x),(1,y),(2,z),(3,u)]) (hx:ρ x=.agg a.cells.toArray) (hy:ρ y=.agg b.cells.toArray) (hz:ρ z=.agg c.cells.toArray) (hu:ρ u=.agg d.cells.toArray) (w:World) :
  (execOp ρ o).run Tryd.prog w=.ok (.value (.slice (some ⟨w.heap.size,0,none⟩) 4 4)) (w.alloc (.cells (fD [a,b,c,d]).toArray 29)):=by
 unfold execOp;simp only[ho,List.map_toArray,List.map_cons,List.map_nil,hx,hy,hz,hu];kernel_rfl
theorem pK {a:nN} (ho:o.op=.buildSlice 22 1 #[(0,x)]) (hx:ρ x=.agg a.cells.toArray) (w:World) :
  (execOp ρ o).run Tryd.prog w=.ok (.value (.slice (some ⟨w.heap.size,0,none⟩) 1 1)) (w.alloc (.cells (fD [a]).toArray 29)):=by
 unfold execOp;simp only[ho,List.map_toArray,List.map_cons,List.map_nil,hx];kernel_rfl
theorem Rj (ho:o.op=.call {callee:=.builtin .append,args:=#[x,y],argTypes:=#[23,23]}) (hx:ρ x=.slice (some ⟨g,0,none⟩) 3 3) (hy:ρ y=.slice none 0 0) (w:World) :
  (execOp ρ o).run Tryd.prog w=.ok (.value (.slice (some ⟨g,0,none⟩) 3 3)) w:=by
 unfold execOp;simp only[ho,List.map_toArray,List.map_cons,List.map_nil,hx,hy,resolve];kernel_rfl
theorem zU (hS:St w0 X V L w) (hgd:Region.wanted o (yielded ops a.tmps)=true) {vs:List Value}
  (hr:∀ w,(execOp a.eval o).run Tryd.prog w=.ok (.value (.slice (some ⟨w.heap.size,0,none⟩) n n)) (w.alloc (.cells vs.toArray e)))
  (h:∀ b a',a.put o.dst (.slice (some ⟨b,0,none⟩) n n)=a'->∀ w',St w0 X V (.blk b e vs::L) w'->wpList Tryd.prog ops Q rest a' w'):wpList Tryd.prog ops Q (o::rest) a w :=
 dU hgd (hr w) (h _ _ rfl _ (hS.alloc e vs))
theorem Gx (hgd:Region.wanted o (yielded ops a.tmps)=true) (hr:∀ w,(execOp a.eval o).run Tryd.prog w=.ok (.value v) w)
 (h:∀ a',a.put o.dst v=a'->wpList Tryd.prog ops Q rest a' w):wpList Tryd.prog ops Q (o::rest) a w :=
 dU hgd (hr w) (h _ rfl)
theorem Fv {s:Nat} (h:St w0 X V (.blk g e cs::L) w) (hl:cs.length=n * s) (hn:n<=maxLen):St w0 X V (.row (.slice (some ⟨g,0,none⟩) n n) e s n cs::L) w:=by
 have hb:w.heap[g]? = some (.cells cs.toArray e (0,0)):=h.has _ (List.mem_cons_self ..);refine⟨h.os,h.output,h.size,h.old,h.view,fun f hf=>?_,fun f hf b hb'=>?_,fun f hf b hb'=>?_,?_⟩
 ·rcases List.mem_cons.1 hf with rfl | hf
  ·refine ⟨⟨hl,.inr ⟨g,n,cs.toArray,rfl,Nat.zero_le _,hb,Nat.le_refl _,hn,by simpa using hl,by rw [List.take_of_length_le (by simp [hl])]⟩⟩,fun g' hg' cur t fr hcur i c hi hc=>?_⟩;have:g'=g:=by simpa [Value.ownBlock] using hg'.symm
   subst this;rw[hb]at hcur;cases hcur;have:=(Array.getElem?_eq_some_iff.1 hc).1;simp[hl]at this;omega
  ·exact h.has f (List.mem_cons_of_mem _ hf)
 ·rcases List.mem_cons.1 hf with rfl | hf
  ·exact h.new (.blk g e cs) (List.mem_cons_self ..) b hb'
  ·exact h.new f (List.mem_cons_of_mem _ hf) b hb'
 ·rcases List.mem_cons.1 hf with rfl | hf
  ·exact h.off (.blk g e cs) (List.mem_cons_self ..) b hb'
  ·exact h.off f (List.mem_cons_of_mem _ hf) b hb'
 ·exact h.nd
theorem Jm {P:Program} (hS:St w0 X V L w) {sl:Operand} {t:TypeId} {size:Nat} (ho:o.op=.call {callee:=.builtin .append,args:=#[sl,x],argTypes:=#[t,t]})
 (ht:Yv P t e size=true) {j:Nat} {xs:List Value} (hj:L[j]? = some (.row v e size n xs)) (hv:ρ sl=v)
 {b c:Nat} (hjb:V.Range b 0 news) (hx:ρ x=.slice (some ⟨b,0,none⟩) m c) (hm:news.length=m * size) (h1:∀ u∈news,u.oneCell'=true) (hn:n+m<=1000) :
  ∃ v' w',(execOp ρ o).run P w=.ok (.value v') w'/\St w0 X V (L.set j (.row v' e size (n+m) (xs ++ news))) w':=by
 have hcell:∀ i u,news[i]? = some u->w.cell? ⟨b,i,none⟩=some u:=fun i u hi=>by
  have:=(hjb i u hi).cell hS.view
  rwa [Nat.zero_add]at this
 unfold Yv at ht;simp only[Bool.and_eq_true]at ht;obtain⟨⟨ht1,ht2⟩,ht3⟩:=ht;have hu:P.underlying t=some (.slice e):=by
  cases hd:P.underlying t with
  |none=>rw[hd]at ht1;cases ht1
  |some d=>rw[hd]at ht1;cases d<;>simp_all
 cases hq:P.info? e with
 |none=>rw[hq]at ht2;cases ht2
 | some q =>
  rw[hq]at ht2;simp only[Option.any_some,Bool.and_eq_true,beq_iff_eq,decide_eq_true_eq]at ht2;obtain⟨⟨hqs,hqz⟩,hqb⟩:=ht2;cases hz:q.zero with
  |none=>rw[hz]at hqz;cases hqz
  | some z =>
   rw[hz]at hqz;simp only[Option.any_some,Bool.and_eq_true,beq_iff_eq]at hqz;obtain⟨hqz,hqf⟩:=hqz;have hsz:0<size:=by simpa using ht3
   obtain⟨v',w',hr,h2,h3,_,h5⟩:=run_append_own_at (P:=P) w 0 t o.type e q z size q.bytes hu hq hz hqs rfl hqz hsz v n xs (hS.wu hj) ⟨b,0,none⟩ m c news hm
    (fun i u hi=>by rw [Addr.add_mid];simpa using hcell i u hi) h1 (by unfold maxLen;omega) (by
     have:(n+m) * q.bytes<=1000 * 1000:=Nat.mul_le_mul hn hqb;omega) (Nat.zero_le _)
   refine⟨v',w',?_,hS.grow hj h3 h2 (hqs ▸ yw (P:=P) hu hq hz hqf (hqs ▸ hS.wu hj) (hqs ▸ hS.Wj hj) (a:=⟨b,0,none⟩) (hqs ▸ hm) (fun i u hi=>by rw[Addr.add_mid];simpa using hcell i u hi) h1 (by unfold maxLen;omega) (by
     have:(n+m) * q.bytes<=1000 * 1000:=Nat.mul_le_mul hn hqb;omega) hr) h5⟩
   unfold execOp;simp only[ho,resolve,invoke,builtin,Sem.run_bind,Sem.run_pure,Result.andThen_ok,List.map_toArray,List.map_cons,List.map_nil,hv,hx,hr]
theorem Z9 {e1:dF} (hS:St w0 X V (e1::.blk g 59 cs::L) w) (hgd:Region.wanted o (yielded ops a.tmps)=true)
 (ho:o.op=.call { callee:=.builtin .append,args:=#[x,y],argTypes:=#[23,23] }) (hx:a.eval x=.slice (some ⟨g,0,none⟩) n n) (hy:a.eval y=.slice (some ⟨bm,0,none⟩) m m) (hl:cs.length=n * 4) (hm:V.Range bm 0 news) (hlm:news.length=m * 4) (h1:∀ u∈news,u.oneCell'=true) (hn:n+m<=1000) (hm0:0 < m)
  (h:∀ g' cap a',a.put o.dst (.slice (some ⟨g',0,none⟩) (n+m:Nat) cap)=a'->∀ w',St w0 X V (.row (.slice (some ⟨g',0,none⟩) (n+m:Nat) cap) 59 4 (n+m) (cs ++ news)::e1::L) w'->wpList Tryd.prog ops Q rest a' w'):wpList Tryd.prog ops Q (o::rest) a w:=by
 have hS1:=Fv (hS.perm (List.Perm.swap _ _ _)) hl (by unfold maxLen;omega);obtain⟨v',w',hr,hS2⟩:=Jm (P:=Tryd.prog) hS1 ho zk (j:=0) rfl hx hm hy hlm h1 hn;rw[List.set_cons_zero]at hS2;have hrow:=(hS2.has _ (List.mem_cons_self ..)).1;rcases hrow.2 with⟨_,h0⟩|⟨g',cap,cur,rfl,_⟩
 ·omega
 ·exact dU hgd hr (h g' cap _ rfl w' hS2)
theorem y9 (a b c d:Int) (w:World):Calls Tryd.prog 42 #[.int .i64 a,.int .i64 b,.int .i64 c,.int .i64 d] w fun e w'=>e=.returned (.agg (je.cells ⟨a,b,c,d⟩).toArray)/\Kp w w':=EI ⟨a,b,c,d⟩ w
theorem QV (a b c d:Int) (w:World):Calls Tryd.prog 76 #[.int .i64 a,.int .i64 b,.int .i64 c,.int .i64 d] w fun e w'=>e=.returned (.agg (nN.cells ⟨a,b,c,d⟩).toArray)/\Kp w w':=TM ⟨a,b,c,d⟩ w
def U5 (V:View) (w:World) (k:Wk) (e:Ending) (w':World):Prop :=
 ∃ (V':View) (vv rv:Value),e=.returned (.agg #[vv,rv])/\Kp w w'/\(∀ i,i<w.heap.size->V' i=V i)/\V'.In w'/\iJ V' vv rv k
theorem UM (hB:Bs V) (hV:V.In w):Calls Tryd.prog 75 #[.slice none 0 0] w (U5 V w (nJ [])):=by
 have hS:=St.start w V hV;go_enter Tryd.func75,Tryd.ntmps75
 go_wp2_with (first|(refine ys ?_;clear hS;intro w' hS)|(refine ye ?_;clear hS;intro _ w' hS)|(go_at_call 42;refine aH hS ⟨_,y9 _ _ _ _ _,?_⟩;clear hS;intro w' hS)|(go_at_call 76;refine aH hS ⟨_,QV _ _ _ _ _,?_⟩;clear hS;intro w' hS)|((with_reducible refine uP ?_);refine zU hS rfl (Df (a:=⟨0,0,30,1⟩) (b:=⟨2,1,12,1⟩) (c:=⟨3,1,15,0⟩) rfl rfl rfl rfl) ?_;clear hS;intro bR a' hp;(try simp only[fr]at hp);subst hp;intro w' hS)|((with_reducible refine uP ?_);refine zU hS rfl (E5 (a:=⟨-1,40,1,4⟩) (b:=⟨0,20,0,2⟩) (c:=⟨0,20,0,0⟩) (d:=⟨1,20,0,0⟩) rfl rfl rfl rfl rfl) ?_;clear hS;intro bV a' hp;(try simp only[fr]at hp);subst hp;intro w' hS)|((with_reducible refine Q5 ?_);refine Gx rfl (Rj rfl rfl rfl) ?_;refine zF ?_))
 (refine yj ?_;refine bK ⟨_,by exact bH (r1:=.cell 2 25) zk (by exact rX hS rfl zd),?_⟩ rfl)
 have h1:=hS.dR (b:=bV);have h2:=hS.dR (b:=bR);obtain⟨V',h3,h4,h5⟩:=Yx (k:=nJ []) hB hV hS.bM (by decide) (hS.newAt (b:=bV)) (hS.newAt (b:=bR)) h1 h2 (Nat.le_refl _) (by decide) (by rfl) (fun i c hi hc=>by
  have:=(Array.getElem?_eq_some_iff.1 hc).1;have e:(fH [⟨0,0,30,1⟩,⟨2,1,12,1⟩,⟨3,1,15,0⟩]).toArray.size=12:=rfl;have e2:(nJ []).rdg.length=3:=rfl;omega)
 exact⟨V',_,_,rfl,hS.bM,h3,h4,h5⟩
theorem Va (hB:Bs V) (hV:V.In w) (r:je) (hm:V.Range bm 0 (fH [r])):Calls Tryd.prog 75 #[.slice (some ⟨bm,0,none⟩) 1 1] w (U5 V w (nJ [r])):=by
 have hS:=St.start w V hV;have hro:∀ u∈fH [r],u.oneCell'=true:=fun u hu=>by
  simp[fH,je.cells]at hu;rcases hu with rfl|rfl|rfl|rfl<;>rfl
 go_enter Tryd.func75,Tryd.ntmps75
 go_wp2_with (first|(refine ys ?_;clear hS;intro w' hS)|(refine ye ?_;clear hS;intro _ w' hS)|(go_at_call 42;refine aH hS ⟨_,y9 _ _ _ _ _,?_⟩;clear hS;intro w' hS)|(go_at_call 76;refine aH hS ⟨_,QV _ _ _ _ _,?_⟩;clear hS;intro w' hS)|((with_reducible refine uP ?_);refine zU hS rfl (Df (a:=⟨0,0,30,1⟩) (b:=⟨2,1,12,1⟩) (c:=⟨3,1,15,0⟩) rfl rfl rfl rfl) ?_;clear hS;intro bR a' hp;(try simp only[fr]at hp);subst hp;intro w' hS)|((with_reducible refine uP ?_);refine zU hS rfl (E5 (a:=⟨-1,40,1,4⟩) (b:=⟨0,20,0,2⟩) (c:=⟨0,20,0,0⟩) (d:=⟨1,20,0,0⟩) rfl rfl rfl rfl rfl) ?_;clear hS;intro bV a' hp;(try simp only[fr]at hp);subst hp;intro w' hS)|((with_reducible refine Q5 ?_);refine Z9 hS rfl rfl rfl rfl rfl hm rfl hro (by decide) (by decide) ?_;clear hS;intro gR cap a' hp;(try simp only[fr]at hp);subst hp;intro w' hS))
 (refine yj ?_;refine bK ⟨_,by exact bH (r1:=.cell 2 25) zk (by exact rX hS rfl zd),?_⟩ rfl)
 have h1:=hS.dR (b:=bV);obtain⟨hrw,hpd⟩:=hS.has _ (List.mem_cons_self ..);have hnew:=(hS.new _ (List.mem_cons_self ..) gR rfl).elim id (fun h=>nomatch h);rcases hrw.2 with⟨h0,_⟩|⟨g',cap',cur,he,_,h2,hc1,hc2,hcs,hct⟩
 ·cases h0
 ·cases he;obtain⟨V',h3,h4,h5⟩:=Yx (k:=nJ [r]) hB hV hS.bM ⟨by show(4:Nat)<=100;decide,by show(4:Nat)<=100;decide⟩ (hS.newAt (b:=bV)) hnew h1 h2 hc1 hc2 hct (fun i c hi hc=>hpd gR rfl cur 59 (0,0) h2 i c hi hc);exact⟨V',_,_,rfl,hS.bM,h3,h4,h5⟩
end Go.Proofs.YtjjmefieegcddaaDoor
namespace Go.Wk
open Go
variable {P:Program}
def Reach (P:Program) (ops:Array Oper) (l:List Nat) (S:Act->World->Prop) (c:Code) (a:Act) (w:World):Prop :=
 ∀ (b:Frame) (cs:List Frame),∃ a' w',S a' w'/\Steps P (lone (b.at a [.code c]) cs w) (lone (b.at a' [.inRegion ops l]) cs w')
def EK (P:Program) (ops:Array Oper) (l:List Nat) (S:Act->World->Prop) (l0:List Nat) (a:Act) (w:World):Prop :=
 ∀ (b:Frame) (cs:List Frame),∃ a' w',S a' w'/\Steps P (lone (b.at a [.inRegion ops l0]) cs w) (lone (b.at a' [.inRegion ops l]) cs w')
variable {ops:Array Oper} {l:List Nat} {S:Act->World->Prop} {a:Act} {w:World}
theorem wR {x y:Code} (h:x.wp P (fun e a' w'=>e=.normal/\Reach P ops l S y a' w') a w):Reach P ops l S (.seq x y) a w:=by
 intro b cs;obtain⟨e,a₁,w₁,⟨rfl,hR⟩,harr⟩:=h b [.code y] cs;obtain⟨a',w',hs,hst⟩:=hR b cs;exact⟨a',w',hs,.head step_seq (Steps.trans harr hst)⟩
theorem Jv {id:Nat} (h:EK P ops l S (List.range ops.size) a w):Reach P ops l S (.region id ops false) a w:=by
 intro b cs;obtain⟨a',w',hs,hst⟩:=h b cs;exact⟨a',w',hs,.head step_region hst⟩
theorem Kt (h:S a w):EK P ops l S l a w:=fun _ _=>⟨a,w,h,.refl _ _⟩
theorem H8 {i:Nat} {rest:List Nat} {o:Oper} {v:Value} {w':World} (ho:ops[i]? = some o) (hw:Region.wanted o (yielded ops a.tmps)=true) (hr:(execOp a.eval o).run P w=.ok (.value v) w')
  (h:EK P ops l S rest (a.put o.dst v) w'):EK P ops l S (i::rest) a w:=by
 intro b cs;obtain⟨a',w'',hs,hst⟩:=h b cs;have hg:=stepG_op (P:=P) (b:=b) (k:=[]) (cs:=cs) (w:=w) (rest:=rest) ho hw;have hfin:(b.at a (.inRegion ops (i::rest)::[])).finish v=b.at (a.put o.dst v) (.inRegion ops rest::[]):=by rw[Frame.finish_at,ho];rfl
 refine⟨a',w'',hs,.head (step_lone_go ?_) hst⟩;rw[hg,<- hfin];simp[stepG.apply,hr]
theorem LQ {f:FuncId} {fn:Func} {c:Code} {args:Array Value} (hf:P.funcs[f]? = some fn) (hb:fn.body=some c) (h:Reach P ops l S c {tmps:=args ++ Array.replicate (fn.ntmps-args.size) undef,defers:=[]} w) (cs:List Frame) :
  ∃ a' w',S a' w'/\Steps P (lone (Frame.enter P f args .normal) cs w) (lone ((Frame.enter P f args .normal).at a' [.inRegion ops l]) cs w'):=by
 obtain⟨a',w',hs,hst⟩:=h (Frame.enter P f args .normal) cs;refine⟨a',w',hs,?_⟩;have e:(Frame.enter P f args .normal).at {tmps:=args ++ Array.replicate (fn.ntmps-args.size) undef,defers:=[]} [.code c]=Frame.enter P f args .normal:=by
  simp[Frame.at,Frame.enter,hf,hb]
 rw[e]at hst;exact hst
end Go.Wk
namespace Go.Proofs.YtjjmefieegcddaaDoor
open Go.RowKit Go.Wg Go.Mm Go.Wk
variable {w:World} {V:View}
noncomputable def wJ:Array Oper:=match Tryd.f123.body with
 |some (.seq _ (.seq _ (.seq _ (.seq _ (.region _ ops _)))))=>ops
 |_=>#[]
theorem Md (p:Nat) (k:Wk) (ts:List Nat) (vv rv:Value) (hC:zO V p k ts vv rv) (hok:k.Ok) (s:SS) (hs:s.WF) (hlo:∀ i,0<=(s.aP i).1) (hhi:∀ i,(s.aP i).2<=1000) (st:Bool) (i:Nat) (hi:i<k.n)
  (bt bs bst bf c:Nat) (h1:V.Cell bt 0 (ptr (ts.getD i 0))) (h2:V.Range bs 0 (dJ s)) (h3:V.Cell bst 0 (.bool st)) (h4:V.Cell bf 0 (.chan (some c))) (hV:V.In w) (cs:List Frame) :
  ∃ a' w',(a'.defers=[]/\a'.tmps.toList[40]? = some (.chan (some c))/\a'.tmps.toList[41]? = some (aJ (kX k s st i))/\Kp w w') /\
   Steps Tryd.prog (lone (Frame.enter Tryd.prog 123 #[ptr bt,ptr bs,ptr bst,ptr bf] .normal) cs w) (lone ((Frame.enter Tryd.prog 123 #[ptr bt,ptr bs,ptr bst,ptr bf] .normal).at a' [.inRegion wJ [2]]) cs w'):=by
 have hn6:=hC.le;have hlen:(dJ s).length=18:=dG hs;have hsp:=TJ V p k ts vv rv hC hok s hs hlo hhi st (k.n-i) i zw hi (Nat.le_refl _);have hgw:=Du k s st hlo (k.n-i) i;have hF:kX k s st i=(gy (jm k s st (k.n-i) i) 41).getD (0,0):=rfl;rw[hF];generalize jm k s st (k.n-i) i=G at hsp hgw;have hS:=St.start w V hV;clear hC hlo hhi hF hi;unfold ptr at *
 generalize ts.getD i 0=ti at h1 hsp;refine LQ Tryd.func123 rfl ?_ cs;simp only[Tryd.ntmps123,List.size_toArray,List.length_cons,List.length_nil,Nat.reduceAdd,Nat.reduceSub,Array.replicate_succ,Array.replicate_zero,List.push_toArray,List.append_toArray,List.nil_append,List.cons_append];refine wR ?_;go_wp2_with (first|(refine yy ?_;clear hS;intro w' hS)|(go_at_call 124;refine Aj hS ⟨_,_,hsp _ (St.view hS),?_⟩;clear hS;intro g w' hS))
 refine wR ?_;go_wp2_with (refine ya 5 ?_;clear hS;intro b5 w' hS)
 refine wR ?_;go_wp2_with (fail)
 refine wR ?_;go_wp2_with (fail)
 have hha:=sN hgw;have hsa:=hgw.small;go_loopw [6,12] (fun sv mv wr=>∃ m:Nat,m<=41/\sv=.bool (gy G m).isSome/\mv=.int .i64 (m:Int)/\St w [] V [.blk b5 27 [.int .i64 ((gy G m).getD (0,0)).1,.int .i64 ((gy G m).getD (0,0)).2],.blk g 170 (sJ G)] wr) (fun _ mv _=>41-(intOf mv).toNat)
 case atStart=>exact⟨0,by omega,rfl,rfl,hS⟩
 case round =>
  clear hS;obtain⟨m,hm,rfl,rfl,hS⟩:=hrel;by_cases hm4:m<41
  ·have hm0:(0:Int)<=m:=by omega
   have hm1:(m:Int)<41:=by omega
   have hga:=Fb hgw hm4;have HR:gy G (m+1)=if G.has.testBit m then some (match gy G m with|none=>G.get m|some r=>sO r (G.get m)) else gy G m:=rfl
   cases hb:G.has.testBit m
   ·rw [hb] at HR;replace HR:=aj HR;generalize gy G m=fo at hS HR;go_wp2_with (first | (refine yy ?_;clear hS;intro w' hS) | (go_at_call 125;refine (ji G.has m zw zw _).mono ?_;rw [hb];rintro _ w' ⟨rfl,rfl⟩))
    go_roundw
    case rel=>exact⟨m+1,by omega,by rw[HR.out];rfl,by go_num,by rw[HR.out];exact hS⟩
    case measure=>simp only[intOf];omega
   ·rw [hb] at HR;cases hfo:gy G m with
    |none =>
     rw[hfo]at HR hS;replace HR:=aj HR;replace hfo:=aj hfo;go_wp2_with (first|(refine ym ?_;clear hS;intro w' hS)|(refine ys ?_;clear hS;intro w' hS)|(go_at_call 125;refine(ji G.has m zw zw _).mono ?_;rw[hb];rintro _ w' ⟨rfl,rfl⟩))
     go_roundw
     case rel=>exact⟨m+1,by omega,by rw[HR.out];rfl,by go_num,by rw[HR.out];exact hS⟩
     case measure=>simp only[intOf];omega
    |some r =>
     rw[hfo]at HR hS;have hwid:=fun w=>MO r (G.get m) w
     unfold aJ at hwid;simp only at HR;generalize sO r (G.get m)=u at hwid HR;replace HR:=aj HR;replace hfo:=aj hfo;go_wp2_with (first|(refine yy ?_;clear hS;intro w' hS)|(go_at_call 125;refine(ji G.has m zw zw _).mono ?_;rw[hb];rintro _ w' ⟨rfl,rfl⟩))
     (refine aY 8 zk zk (St.eY hS) ?_;simp only[List.take_succ_cons,List.take_zero,List.drop_succ_cons,List.drop_zero];clear hS;(repeat ((go_big_quiet_want;(first|((with_reducible refine Xf ?_);refine jW rfl rfl ?_;refine zF ?_)|((with_reducible refine Uj ?_);(refine wB rfl rfl ?_);refine⟨_,zd,?_⟩;refine zF ?_)|((with_reducible refine YW ?_);refine mF ?_;refine⟨_,_,by(intro _;go_simp;exact⟨rfl,rfl⟩),?_⟩;refine⟨_,by(intro w' hS;(exact hwid _)),?_⟩;refine zF ?_)|(refine gu ?_;refine⟨_,zp,?_⟩;refine zF ?_));go_big_quiet_on)));refine wpQuiet_nil ?_;intro w' hS)
     go_wp2_with (refine ys ?_;clear hS;intro w' hS)
     go_roundw
     case rel=>exact⟨m+1,by omega,by rw[HR.out];rfl,by go_num,by rw[HR.out];exact hS⟩
     case measure=>simp only[intOf];omega
  ·obtain rfl:m=41:=by omega
   go_wp2_with (fail)
   have hc4:=h4.cell hS.view;have hr5:=lK (o:=0) (n:=2) (vs:=[.int .i64 ((gy G 41).getD (0,0)).1,.int .i64 ((gy G 41).getD (0,0)).2]) (hS.dR (b:=b5)) rfl;refine Jv ?_;show EK Tryd.prog wJ [2] _ [0,1,2] _ _;refine H8 rfl rfl (fP rfl rfl iR.ok hc4) ?_;refine H8 rfl rfl (iy (n:=2) rfl rfl jS.ok rfl hr5) ?_;exact Kt ⟨rfl,rfl,rfl,hS.bM⟩
end Go.Proofs.YtjjmefieegcddaaDoor
namespace Go.Tm
open Go
open Go.Conc (G solo stepT_solo)
def floor (P:Program):Frame:={ fn:=P.funcs.size,tmps:=#[],todo:=[.call default false "fmt's door" #[]],defers:=[],mode:=.run,kind:=.normal }
section
variable {fr:Frame} {w:World}
variable {P:Program} {S:FuncId->Prop} {f0:FuncId}
def Gone (P:Program) (m:Machine):Prop:=∀ fr mine w,¬ Steps P m (lone fr (mine ++ [floor P]) w)
theorem Ug:Extern.next "fmt's door" = none:=by kernel_rfl
theorem KF {m m':Machine} (h:Steps P m m'):m.gs.size<=m'.gs.size:=OH (stepsIn_wide.2 h)
theorem OX {g:Goroutine} {w:World} (h:g.dyingOn P):Gone P (oneG g w):=by
 intro fr mine w1 hs;have hs:=stepsIn_wide.2 hs;have key:∀ m m',StepsIn (Machine.fenced P Fence.wide) P m m'->∀ g w,m=oneG g w->g.dyingOn P->∃ g' w',m'=oneG g' w'/\g'.dyingOn P:=by
  intro m m' h
  induction h with
  |refl=>exact fun g w e h=>⟨g,w,e,h⟩
  |head _ hst _ ih =>
   intro g w e h;subst e;rcases step_dyingOn (w:=w) h with⟨g',w',h1,h2⟩|⟨o,w',h1,_⟩
   ·rw[h1]at hst;cases hst;exact ih g' w' rfl h2
   ·rw[h1]at hst;cases hst
 obtain⟨g',w',e,h2⟩:=key _ _ hs g w rfl h;obtain⟨_,d,hd,_⟩:=h2;simp only[lone,oneG,Machine.mk.injEq,Array.mk.injEq,List.cons.injEq,and_true]at e;rw[<- e.2]at hd;cases hd
theorem EY {m:Machine} (h:∀ m',step P m≠.next m') (hne:∀ fr mine w,m≠lone fr (mine ++ [floor P]) w):Gone P m:=by
 intro fr mine w hs;have hs:=stepsIn_wide.2 hs;cases hs with
 |refl=>exact hne _ _ _ rfl
 |head _ hst _=>exact h _ hst
theorem Bl {cs:List Frame} (h:CP (stepG P true (G fr cs) w)) {m1:Machine} (hs:step P (lone fr cs w)=.next m1):Gone P m1:=by
 cases hg:stepG P true (G fr cs) w with
 |ended o w' es=>rw[um hg]at hs;cases hs
 |go g w' es =>
  rw[hg]at h;rw[jZ hg]at hs;cases hs;obtain⟨h0,d,hd,hc,ht⟩:=h;exact OX (g:=g) (w:=w') ⟨.inl h0,d,hd,hc,by rw[ht];exact NoEnter.nil P⟩
 |spawn g ch w' es =>
  have hs':(stepT P (solo (G fr cs) w)).1=.next m1:=hs;rw[stepT_solo rfl]at hs';have e0:solo (G fr cs) w=Go.Conc.crowd #[G fr cs] w none:=rfl;rw[e0,Go.Conc.runT_crowd_spawn (i:=0) (g:=G fr cs) rfl (show stepG P (0 == 0) (G fr cs) w=_ from hg)]at hs';cases hs';intro fr' mine' w2 hst;have:=KF hst;simp[Go.Conc.crowd,lone]at this
 | comm g cases b sh w' es =>
  rw[hg]at h;obtain⟨⟨rfl,c,rfl⟩,hw⟩:=h;obtain⟨a,ha,rfl⟩:=Ll hg hw hs;refine EY (Ip ha) fun fr' cs' w2 e=>?_
  have e2:a=G fr' (cs' ++ [floor P]):=by
   simp only[solo,lone,Machine.mk.injEq,Array.mk.injEq,List.cons.injEq,and_true]at e;exact e.2
  rw[e2]at ha;cases ha
 |_=>rw[hg]at h;exact h.elim
theorem Zg {mine:List Frame} {c:Frame}:([]:List Frame)≠mine ++ [c]:=by cases mine<;>simp
theorem tC (fr:Frame) (w:World) (h:(∃ v,fr=(floor P).finish v)\/∃ ch,fr=(floor P).raise ch):Gone P (lone fr [] w):=by
 refine EY (fun m' hs=>?_) fun fr' mine w' e=>?_
 ·rcases h with ⟨v,rfl⟩ | ⟨ch,rfl⟩
  ·have hst:∃ o w' es,stepG P true (G ((floor P).finish v) []) w=.ended o w' es:=by
    refine ⟨.stuck "no extern row fmt's door" (((floor P).finish v).pos P),w,#[],?_⟩
    simp only[stepG,G,floor,Frame.finish,stepG.exec,Ug,Option.elim_none];rfl
   obtain⟨o,w1,es,hst⟩:=hst;rw[um hst]at hs;cases hs
  ·have hcat:((floor P).raise ch).catches P=true:=by
    unfold Frame.catches floor Frame.raise;have:P.funcs[P.funcs.size]? = none:=by simp
    simp only[this]
    have hst:("fmt's door".startsWith "fmt's door")=true:=by kernel_rfl
    exact hst
   have hst:∃ o w' es,stepG P true (G ((floor P).raise ch) []) w=.ended o w' es:=by
    refine ⟨.unsupported (.noEntry "a panic or Goexit out of a method that fmt calls behind a cut's door") (((floor P).raise ch).pos P),w,#[],?_⟩
    have hm:((floor P).raise ch).mode=.panicking ch:=rfl;have hd:((floor P).raise ch).defers=[]:=rfl;have h2:stepG P true (G ((floor P).raise ch) []) w=unwind P true ((floor P).raise ch) [] none w:=by simp only[stepG,G,hm]
    rw[h2];unfold unwind;simp only[hd,hm,hcat,if_true]
   obtain⟨o,w1,es,hst⟩:=hst;rw[um hst]at hs;cases hs
 ·simp only[lone,Machine.mk.injEq,Array.mk.injEq,List.cons.injEq,Goroutine.mk.injEq,and_true]at e;exact Zg e.2.2
theorem G5 (hst:uw f0 fr []) (hm:fr.mode≠.run) (hd:fr.defers=[]) {m1:Machine} (hs:step P (lone fr [floor P] w)=.next m1):Gone P m1:=by
 obtain⟨hk,hro,hkind,hfn⟩:=hst;have hcat:fr.catches P=false:=by
  unfold Frame.catches;split
  ·rename_i d wr resume sv k h1 h2;exact(Ey hk h2).1.elim
  ·rfl
 have h2:stepG P true (G fr [floor P]) w=unwind P true fr [floor P] none w:=by
  cases hmm:fr.mode with
  |run=>exact(hm hmm).elim
  |_=>simp only[stepG,G,hmm]
 cases hmm:fr.mode with
 |run=>exact(hm hmm).elim
 | panicking chain =>
  have h3:stepG P true (G fr [floor P]) w=.go (G ((floor P).raise chain) []) w #[]:=by
   rw[h2];unfold unwind;simp only[hd,hmm,hcat,Bool.false_eq_true,if_false,G]
  rw[jZ h3]at hs;cases hs;exact tC _ _ (.inr ⟨chain,rfl⟩)
 | returning =>
  cases hf:P.funcs[fr.fn]? with
  | none =>
   have h3:stepG P true (G fr [floor P]) w=.go (G ((floor P).finish (fr.tmps.getD 0 undef)) []) w #[]:=by
    rw[h2];unfold unwind;simp only[hd,hmm,hf,doReturn,hkind,G]
   rw[jZ h3]at hs;cases hs;exact tC _ _ (.inl ⟨_,rfl⟩)
  | some fn =>
   cases hr:(results fn fr.tmps).run P w with
   | ok v w1 =>
    have h3:stepG P true (G fr [floor P]) w=.go (G ((floor P).finish v) []) w1 (seen P fr.fn ((results fn fr.tmps).events P w #[])):=by
     rw[h2];unfold unwind;simp only[hd,hmm,hf,Sem.runT_eq,hr,doReturn,hkind,GStep.after,Array.append_empty,G]
    rw[jZ h3]at hs;cases hs;exact tC _ _ (.inl ⟨_,rfl⟩)
   | halt hh w1 =>
    have h3:∃ o w' es,stepG P true (G fr [floor P]) w=.ended o w' es:=by
     rw[h2];unfold unwind;simp only[hd,hmm,hf,Sem.runT_eq,hr];cases hh<;>exact⟨_,_,_,rfl⟩
    obtain⟨o,w',es,h3⟩:=h3;rw[um h3]at hs;cases hs
structure IB (P:Program) (f0:FuncId) (Stop:Frame->List Frame->World->Prop) (T:Nat->Question->Nat) where
 fr:Frame
 mine:List Frame
 w:World
 stk:uw f0 fr mine
 heap:ay OC w
 not:¬ Term P Stop fr mine w
 tape:w.tape=T
def NxV (P:Program) (f0:FuncId) {Stop:Frame->List Frame->World->Prop} {T:Nat->Question->Nat} (c:IB P f0 Stop T) (d j:Nat):Option (IB P f0 Stop T)->Prop
 |some c'=>∀ τ p,(∀ i,i<j->∀ q,τ (p+i) q=T (d+i) q)->step P (lone c.fr (c.mine ++ [floor P]) (c.w.re τ p))=.next (lone c'.fr (c'.mine ++ [floor P]) (c'.w.re τ (p+j)))
 |none=>∀ τ p,(∀ i,i<j->∀ q,τ (p+i) q=T (d+i) q)->∀ m1,step P (lone c.fr (c.mine ++ [floor P]) (c.w.re τ p))=.next m1->Gone P m1
theorem QX (hS:ED P fun _=>True) {Stop:Frame->List Frame->World->Prop} {T:Nat->Question->Nat} (c:IB P f0 Stop T):∃ d j o,NxV P f0 c d j o:=by
 obtain⟨fr,mine,w,hst,hw,hn,htp⟩:=c;have h1:∃ d,∀ fr' mine' w' es,(∀ e∈es,ND e)->w.heap.size<=w'.heap.size->(∀ main cs,stepG P main (G fr (mine ++ cs)) (w.at d)=.go (G fr' (mine' ++ cs)) w' es)->¬ Term P Stop fr' mine' w':=by
  apply Classical.byContradiction;intro hc;refine hn (.step' fun d=>?_);apply Classical.byContradiction;intro hd;exact hc ⟨d,fun fr' mine' w' es a b c' t=>hd ⟨fr',mine',w',es,a,b,c',t⟩⟩
 obtain⟨d,hd⟩:=h1;refine⟨d,?_⟩;have hag:∀ {j τ p},(∀ i,i<j->∀ q,τ (p+i) q=T (d+i) q)->Agree (w.at d) j τ p:=fun h i hi q=>by
  rw[h i hi q,<- htp];rfl
 by_cases hb:mine=[]/\fr.mode≠.run/\fr.defers=[]
 ·obtain⟨rfl,hm,hds⟩:=hb;exact⟨0,none,fun τ p _ m1 hs=>G5 hst hm hds hs⟩
 obtain⟨j,hm⟩:=moves (S:=fun _=>True) hS hst (w:=w.at d) hw (fun h=>by
   by_cases hm:fr.mode=.run
   ·exact .inl hm
   ·exact .inr fun hds=>hb ⟨h,hm,hds⟩) (fun _ _=>trivial)
 rcases hm with⟨fr',mine',w',es,h1,h2,h3,h4,h5,h6,h7⟩|hbad
 ·have hstep:∀ main cs,stepG P main (G fr (mine ++ cs)) (w.at d)=.go (G fr' (mine' ++ cs)) w' es:=by
   intro main cs;have:=h7 main cs (w.at d).tape (w.at d).drawn (fun i hi q=>rfl);rw[mY]at this;exact this.trans (by rw[<- h5,<- h6,mY])
  refine⟨j,some ⟨fr',mine',w',h1,h2,hd fr' mine' w' es h3 h4 hstep,h6.trans htp⟩,fun τ p ha=>?_⟩;exact jZ (h7 true [floor P] τ p (hag ha))
 ·refine⟨j,none,fun τ p ha m1 hs=>?_⟩;exact Bl (hbad [floor P] τ p (hag ha)) hs
theorem qU (hS:ED P fun _=>True) {Stop:Frame->List Frame->World->Prop} (hstop:∀ fr mine w τ d,ay OC w->Stop fr mine w->Stop fr mine (w.re τ d))
  {fr:Frame} {mine:List Frame} {w:World} (hst:uw f0 fr mine) (hw:ay OC w)
  (hrun:∀ τ d,∃ fr' mine' w',Stop fr' mine' w'/\Steps P (lone fr (mine ++ [floor P]) (w.re τ d)) (lone fr' (mine' ++ [floor P]) w')):Term P (SH f0 Stop) fr mine w:=by
 apply Classical.byContradiction;intro hn;let T:=w.tape;let c0:IB P f0 (SH f0 Stop) T:=⟨fr,mine,w,hst,hw,hn,rfl⟩;let D:IB P f0 (SH f0 Stop) T->Nat:=fun c=>Classical.choose (QX hS c)
 let J:IB P f0 (SH f0 Stop) T->Nat:=fun c=>Classical.choose (Classical.choose_spec (QX hS c))
 let O:IB P f0 (SH f0 Stop) T->Option (IB P f0 (SH f0 Stop) T):=fun c=>Classical.choose (Classical.choose_spec (Classical.choose_spec (QX hS c)))
 have hO:∀ c,NxV P f0 c (D c) (J c) (O c):=fun c=>Classical.choose_spec (Classical.choose_spec (Classical.choose_spec (QX hS c)))
 let seq:Nat->IB P f0 (SH f0 Stop) T:=fun n=>Nat.rec c0 (fun _ c=>(O c).getD c) n
 let pos:Nat->Nat:=fun n=>Nat.rec 0 (fun n p=>p+J (seq n)) n
 have hseq:∀ n,seq (n+1)=(O (seq n)).getD (seq n):=fun n=>rfl
 have hpos:∀ n,pos (n+1)=pos n+J (seq n):=fun n=>rfl
 have hmono:∀ n k,pos n<=pos (n+k):=by
  intro n k
  induction k with
  |zero=>exact Nat.le_refl _
  |succ k ih=>rw[<- Nat.add_assoc,hpos];omega
 have huniq:∀ n m k,pos n<=k->k<pos n+J (seq n)->pos m<=k->k<pos m+J (seq m)->n=m:=by
  intro n m k h1 h2 h3 h4;rcases Nat.lt_trichotomy n m with h|h|h
  ·have:=hmono (n+1) (m-(n+1));rw[show n+1+(m-(n+1))=m from by omega,hpos]at this;omega
  ·exact h
  ·have:=hmono (m+1) (n-(m+1));rw[show m+1+(n-(m+1))=n from by omega,hpos]at this;omega
 let τ:Nat->Question->Nat:=fun k q =>
  open Classical in if h:∃ n,pos n<=k/\k<pos n+J (seq n) then T (D (seq (Classical.choose h))+(k-pos (Classical.choose h))) q else 0
 have hτ:∀ n i,i<J (seq n)->∀ q,τ (pos n+i) q=T (D (seq n)+i) q:=by
  intro n i hi q;have hex:∃ m,pos m<=pos n+i/\pos n+i<pos m+J (seq m):=⟨n,by omega,by omega⟩;have hch:=Classical.choose_spec hex;have he:Classical.choose hex=n:=huniq _ _ _ hch.1 hch.2 (by omega) (by omega);show(open Classical in if h:∃ m,pos m<=pos n+i/\pos n+i<pos m+J (seq m) then _ else _)=_;rw[dif_pos hex,he,show pos n+i-pos n=i from by omega]
 obtain⟨fr',mine',w',hS',hsteps⟩:=hrun τ 0;have hsteps:=stepsIn_wide.2 hsteps;have key:∀ m,StepsIn (Machine.fenced P Fence.wide) P m (lone fr' (mine' ++ [floor P]) w')->∀ n,m=lone (seq n).fr ((seq n).mine ++ [floor P]) ((seq n).w.re τ (pos n))->False:=by
  intro m hm;generalize hend:lone fr' (mine' ++ [floor P]) w'=mend at hm
  induction hm with
  |refl =>
   intro n hn;subst hend;simp only[lone,Machine.mk.injEq,Array.mk.injEq,List.cons.injEq,Goroutine.mk.injEq,and_true]at hn;obtain⟨hw,hf,hc⟩:=hn;have hc':=List.append_cancel_right hc;subst hw hf hc';have:=hstop _ _ _ (seq n).w.tape (seq n).w.drawn (show ay OC ((seq n).w.re τ (pos n))from(seq n).heap) hS';rw[Ih,mY]at this;exact(seq n).not (.stop ⟨this,(seq n).heap,(seq n).stk⟩)
  | head hI hst' hrest ih =>
   intro n hn;subst hn;have hx:=hO (seq n);cases ho:O (seq n)with
   |none =>
    rw[ho]at hx;refine hx τ (pos n) (hτ n) _ hst' fr' mine' w' ?_;rw[hend];exact stepsIn_wide.1 hrest
   |some c' =>
    rw[ho]at hx;have h1:=hx τ (pos n) (hτ n);rw[h1]at hst';cases hst';refine ih hend (n+1) ?_;rw[hseq,ho,hpos];rfl
 exact key _ hsteps 0 rfl
end
end Go.Tm
namespace Go.Sr
open Go
open Go.Tm
open Go.Conc (G solo)
section
variable {wa wl:World} {c c' fr fr':Frame} {rest rest':List Frame}
variable {P:Program} {K:CallKind} {D:Nat->Prop} {R:BR} {csl:List Frame}
theorem Q7 [bT] {R1:BR} {wl1 wa1:World} {v v':Value} (h:ou P K R1 c rest c' rest') (hv:VR R1 v v') (hk:fr.kind=.normal) (hk':fr'.kind=.normal)
 (hw:WR P.globals.size R1 D wl1 wa1) (hg:Grow R R1 D wl wa) (hgu:FX R D wa wa1) (hs:wl.heap.size<=wl1.heap.size) {fl:GStep} {fa:Bool->List Frame->GStep} {es es':Array Event}
 (hev:∀ e∈es',mZ R1 D e)
  (hl:fl=GStep.after es (doReturn P true fr (c::(rest ++ csl)) none v wl1)) (ha:∀ main cs,fa main cs=GStep.after es' (doReturn P main fr' (c'::(rest' ++ cs)) none v' wa1)):Sim P K csl D R wl wa fl fa:=by
 have hf:=tN h.top hv;refine .inl ⟨c.finish v,rest,wl1,es,c'.finish v',rest',wa1,es',R1,?_,fun main cs=>?_,h.set hf.1 hf.2,hw,hg,hgu,hev,hs⟩
 ·rw[hl];simp only[doReturn,hk,GStep.after,Array.append_empty,G]
 ·rw[ha];simp only[doReturn,hk',GStep.after,Array.append_empty,G]
theorem P9 [bT] (h:ou P K R fr (c::rest) fr' (c'::rest')) (hw:WR P.globals.size R D wl wa) (hm:fr.mode=.returning) :
  Sim P K csl D R wl wa (stepG P true (G fr ((c::rest) ++ csl)) wl) (fun main cs=>stepG P main (G fr' ((c'::rest') ++ cs)) wa):=by
 obtain⟨ht,⟨hk,hk'⟩,hr⟩:=h;have hm':fr'.mode=.returning:=ht.mode.trans hm;have e1:stepG P true (G fr ((c::rest) ++ csl)) wl=unwind P true fr (c::(rest ++ csl)) none wl:=by simp only[stepG,G,hm,List.cons_append]
 have e2:∀ main cs,stepG P main (G fr' ((c'::rest') ++ cs)) wa=unwind P main fr' (c'::(rest' ++ cs)) none wa:=fun main cs=>by simp only[stepG,G,hm',List.cons_append]
 rw[e1];simp only[e2];cases hf:P.funcs[fr.fn]? with
 |none =>
  have hf':P.funcs[fr'.fn]? = none:=by rw[ht.fn];exact hf
  refine Q7 (es:=#[]) (es':=#[]) hr (ht.tmps.get (d:=undef) (.of_flat rfl) 0) hk hk' hw ⟨le_refl R,fun _ _ h=>.inl h⟩ (.refl R D wa) (Nat.le_refl _) (by simp) ?_ fun main cs=>?_
  ·unfold unwind;simp only[ht.defers,hm,hf];simp only[doReturn,hk,GStep.after,Array.append_empty]
  ·unfold unwind;simp only[ht.defers',hm',hf'];simp only[doReturn,hk',GStep.after,Array.append_empty]
 | some fn =>
  have hf':P.funcs[fr'.fn]? = some fn:=by rw[ht.fn];exact hf
  have hres:=ah.results (P:=P) (D:=D) (R:=R) (ht.res fn hf) ht.tmps;cases hrun:(results fn fr.tmps).run P wl with
  |ok v w1 =>
   obtain⟨v',wa1,es',R1,k1,k2,k3,k4,k5,k6,k7⟩:=hres wl wa #[] hw v w1 hrun;have hev:∀ e∈seen P fr'.fn es',mZ R1 D e:=fun e he=>(k2 e (mem_seen he)).elim (fun h=>by simp at h) id
   refine Q7 (es:=seen P fr.fn ((results fn fr.tmps).events P wl #[])) (es':=seen P fr'.fn es') (hr.mono k4.le) k7 hk hk' k3 k4 k5 k6 hev ?_ fun main cs=>?_
   ·unfold unwind;simp only[ht.defers,hm,hf,Sem.runT_eq,hrun]
   ·unfold unwind;simp only[ht.defers',hm',hf',k1]
  |halt hh w1 =>
   refine .inr (.inl ?_);unfold unwind;simp only[ht.defers,hm,hf,Sem.runT_eq,hrun];cases hh<;>exact bW trivial
theorem sim [bT] (hS:F7 P) (hT:ED P fun _=>True) {mine mine':List Frame} (h:ou P K R fr mine fr' mine') (hw:WR P.globals.size R D wl wa) (hh:ay OC wl)
 (hb:mine=[]->fr.mode=.run):Sim P K csl D R wl wa (stepG P true (G fr (mine ++ csl)) wl) (fun main cs=>stepG P main (G fr' (mine' ++ cs)) wa):=by
 rcases h.top.runs with hm|hm
 ·exact U9 hS hT h hw hh hm
 ·cases mine with
  |nil=>rw[hb rfl]at hm;cases hm
  |cons c rest =>
   cases mine' with
   |nil=>exact h.elim
   |cons c' rest'=>exact P9 h hw hm
theorem BZ (fr:Frame) (l:List PanicEntry):(∃ ch,(fr.raise l).mode=.panicking ch)/\(fr.raise l).defers=fr.defers/\(fr.raise l).todo=fr.todo:=by
 unfold Frame.raise;split
 ·exact⟨⟨_,rfl⟩,rfl,rfl⟩
 ·exact⟨⟨_,rfl⟩,rfl,rfl⟩
def Qs (P:Program) (m:Machine):Prop:=∀ fr mine w,(fr.mode=.run\/fr.mode=.returning)->¬ Steps P m (lone fr (mine ++ [floor P]) w)
theorem Qs.of {m:Machine} (h:Gone P m):Qs P m:=fun fr mine w _=>h fr mine w
theorem EU [bT]:∀ (cs:List Frame) (fr:Frame) (w:World),(∃ ch,fr.mode=.panicking ch)->(∀ c∈fr::cs,c.defers=[]/\∀ x∈c.todo,jB P x)->Qs P (lone fr (cs ++ [floor P]) w):=by
 intro cs;have hcat:∀ {fr:Frame},(∀ x∈fr.todo,jB P x)->fr.catches P=false:=by
  intro fr hi;unfold Frame.catches;split
  ·rename_i d wr resume sv k h1 h2;have:jB P (.call d wr resume sv):=hi (.call d wr resume sv) (by rw[h2];exact List.mem_cons_self);exact this.elim
  ·rfl
 induction cs with
 | nil =>
  rintro fr w ⟨ch,hm⟩ hall fr' mine' w' hm' hs;obtain⟨hd,hi⟩:=hall fr (by simp);have hs:=stepsIn_wide.2 hs;generalize hend:lone fr' (mine' ++ [floor P]) w'=mend at hs;generalize hst:lone fr ([] ++ [floor P]) w=mst at hs;cases hs with
  |refl =>
   subst hst;simp only[lone,Machine.mk.injEq,Array.mk.injEq,List.cons.injEq,Goroutine.mk.injEq,and_true]at hend;obtain⟨_,hf,_⟩:=hend;subst hf;rcases hm' with h|h<;>rw[h]at hm<;>cases hm
  | head hI h h' =>
   subst hst;subst hend;have h2:stepG P true (G fr [floor P]) w=.go (G ((floor P).raise ch) []) w #[]:=by
    simp only[stepG,G,hm];unfold unwind;simp only[hd,hm,hcat hi,Bool.false_eq_true,if_false]
   rw[show([]:List Frame) ++ [floor P]=[floor P]from rfl,jZ h2]at h;cases h;exact tC _ _ (.inr ⟨ch,rfl⟩) fr' mine' w' (stepsIn_wide.1 h')
 | cons c cs ih =>
  rintro fr w ⟨ch,hm⟩ hall fr' mine' w' hm' hs;obtain⟨hd,hi⟩:=hall fr (by simp);have hs:=stepsIn_wide.2 hs;generalize hend:lone fr' (mine' ++ [floor P]) w'=mend at hs;generalize hst:lone fr (c::cs ++ [floor P]) w=mst at hs;cases hs with
  |refl =>
   subst hst;simp only[lone,Machine.mk.injEq,Array.mk.injEq,List.cons.injEq,Goroutine.mk.injEq,and_true]at hend;obtain⟨_,hf,_⟩:=hend;subst hf;rcases hm' with h|h<;>rw[h]at hm<;>cases hm
  | head hI h h' =>
   subst hst;subst hend;have h2:stepG P true (G fr (c::cs ++ [floor P])) w=.go (G (c.raise ch) (cs ++ [floor P])) w #[]:=by
    simp only[stepG,G,hm];unfold unwind;simp only[hd,hm,hcat hi,Bool.false_eq_true,if_false,List.cons_append]
   rw[jZ h2]at h;cases h;obtain⟨hp,hpd,hpt⟩:=BZ c ch;refine ih (c.raise ch) w hp (fun x hx=>?_) fr' mine' w' hm' (stepsIn_wide.1 h');rcases List.mem_cons.1 hx with rfl|hx
   ·rw[hpd,hpt];exact hall c (by simp)
   ·exact hall x (by simp[hx])
end
end Go.Sr
namespace Go.Ph
open Go
open Go.Tm
open Go.Sr
open Go.Conc (G solo)
variable {w w' w'':World} {rd:Nat->Prop}
def vU (ch:Nat) (w w':World) (b:Nat):Prop:=w'.heap[b]? = w.heap[b]?\/b=ch/\∃ o o',w.heap[b]? = some o/\w'.heap[b]? = some o'/\DY o=true/\DY o'=true
structure dn (ch:Nat) (rd:Nat->Prop) (w w':World):Prop where
 size:w.heap.size<=w'.heap.size
 keep:∀ b,rd b->vU ch w w' b
 tape:w'.tape=w.tape
 os:w'.os=w.os
 output:w'.output=w.output
def sK (D wr:Nat->Prop):Nat->Prop:=fun b=>D b\/wr b
def Ae (D wr:Nat->Prop) (e:Event):Prop :=
 match e.loc with
 |.cell a=>e.sync=false/\(wr a.block\/(D a.block/\e.write=false))
 |.obj r=>e.write=false/\(wr r\/D r)
 |.mark m=>m=.noRoom
 |_=>False
structure BI (wr:Nat->Prop) (w w':World):Prop where
 size:w.heap.size<=w'.heap.size
 keep:∀ b,b<w.heap.size->¬ wr b->w'.heap[b]? = w.heap[b]?
 os:w'.os=w.os
 output:w'.output=w.output
 tape:w'.tape=w.tape
 okh:∀ C:Code->Prop,ay C w->ay C w'
theorem BI.refl (wr:Nat->Prop) (w:World):BI wr w w:=⟨Nat.le_refl _,fun _ _ _=>rfl,rfl,rfl,rfl,fun _ h=>h⟩
structure Ic (wr wr':Nat->Prop) (w w':World):Prop where
 le:∀ b,wr b->wr' b
 fresh:∀ b,wr' b->wr b\/(w.heap.size<=b/\b<w'.heap.size)
theorem Ic.refl (wr:Nat->Prop) (w:World):Ic wr wr w w:=⟨fun _ h=>h,fun _ h=>.inl h⟩
inductive Tr:Type
 |leaf
 |node (f:World->Tr)
abbrev vO:=(Nat->Prop)->Frame->List Frame->World->Prop
def BH (P:Program) (D wr:Nat->Prop) (K:vO) (fr:Frame) (mine:List Frame) (w:World):Prop :=
 ∃ fr' mine' w' es wr',(∀ main cs,stepG P main (G fr (mine ++ cs)) w=.go (G fr' (mine' ++ cs)) w' es)/\(∀ e∈es,Ae D wr' e)/\BI wr w w'/\Ic wr wr' w w'/\K wr' fr' mine' w'
def QG (P:Program) (ch:Nat) (D:Nat->Prop) (Stop:vO):Tr->vO
 |.leaf=>fun wr fr mine w=>∀ w',dn ch (sK D wr) w w'->Stop wr fr mine w'
 |.node f=>fun wr fr mine w=>∀ w',dn ch (sK D wr) w w'->Stop wr fr mine w'\/BH P D wr (QG P ch D Stop (f w')) fr mine w'
def WT (P:Program) (ch:Nat) (D:Nat->Prop) (Stop:vO) (wr:Nat->Prop) (fr:Frame) (mine:List Frame) (w:World):Prop:=∃ τ,QG P ch D Stop τ wr fr mine w
variable {ch:Nat}
theorem vU.refl (w:World) (b:Nat):vU ch w w b:=.inl rfl
theorem vU.trans {b:Nat} (h:vU ch w w' b) (h':vU ch w' w'' b):vU ch w w'' b:=by
 rcases h with h|⟨e,o,o',h1,h2,h3,h4⟩
 ·rcases h' with h' | ⟨e,o,o',k1,k2,k3,k4⟩
  ·exact .inl (h'.trans h)
  ·exact .inr ⟨e,o,o',h ▸ k1,k2,k3,k4⟩
 ·rcases h' with h' | ⟨_,p,p',k1,k2,k3,k4⟩
  ·exact .inr ⟨e,o,o',h1,h'.trans h2,h3,h4⟩
  ·exact .inr ⟨e,o,p',h1,k2,h3,k4⟩
theorem dn.refl (rd:Nat->Prop) (w:World):dn ch rd w w:=⟨Nat.le_refl _,fun b _=>.refl w b,rfl,rfl,rfl⟩
theorem dn.trans (h:dn ch rd w w') (h':dn ch rd w' w''):dn ch rd w w'' :=
 ⟨Nat.le_trans h.size h'.size,fun b hb=>(h.keep b hb).trans (h'.keep b hb),h'.tape.trans h.tape,h'.os.trans h.os,h'.output.trans h.output⟩
theorem dn.sub {rd':Nat->Prop} (h:dn ch rd w w') (hs:∀ b,rd' b->rd b):dn ch rd' w w':=⟨h.size,fun b hb=>h.keep b (hs b hb),h.tape,h.os,h.output⟩
theorem dn.at (rd:Nat->Prop) (w:World) (d:Nat):dn ch rd w (w.at d):=⟨Nat.le_refl _,fun _ _=>.inl rfl,rfl,rfl,rfl⟩
section
variable {P:Program} {D:Nat->Prop} {Stop Stop':vO} {wr:Nat->Prop} {fr:Frame} {mine:List Frame} {w w':World}
theorem QG.rely {τ:Tr} (h:QG P ch D Stop τ wr fr mine w) (hr:dn ch (sK D wr) w w'):QG P ch D Stop τ wr fr mine w':=by
 cases τ with
 |leaf=>exact fun w2 h2=>h w2 (hr.trans h2)
 |node f=>exact fun w2 h2=>h w2 (hr.trans h2)
theorem WT.rely (h:WT P ch D Stop wr fr mine w) (hr:dn ch (sK D wr) w w'):WT P ch D Stop wr fr mine w':=let⟨τ,h⟩:=h;⟨τ,h.rely hr⟩
theorem WT.stop (h:∀ w',dn ch (sK D wr) w w'->Stop wr fr mine w'):WT P ch D Stop wr fr mine w:=⟨.leaf,h⟩
theorem WT.mk (h:∀ w',dn ch (sK D wr) w w'->Stop wr fr mine w'\/BH P D wr (WT P ch D Stop) fr mine w'):WT P ch D Stop wr fr mine w:=by
 have key:∀ w',∃ τ,dn ch (sK D wr) w w'->Stop wr fr mine w'\/BH P D wr (QG P ch D Stop τ) fr mine w':=by
  intro w';by_cases hr:dn ch (sK D wr) w w'
  ·rcases h w' hr with h | ⟨fr',mine',w2,es,wr',h1,h2,h3,h4,τ,h5⟩
   ·exact⟨.leaf,fun _=>.inl h⟩
   ·exact⟨τ,fun _=>.inr ⟨fr',mine',w2,es,wr',h1,h2,h3,h4,h5⟩⟩
  ·exact⟨.leaf,fun h=>absurd h hr⟩
 exact⟨.node fun w'=>Classical.choose (key w'),fun w'=>Classical.choose_spec (key w')⟩
theorem WT.step (h:∀ w',dn ch (sK D wr) w w'->BH P D wr (WT P ch D Stop) fr mine w'):WT P ch D Stop wr fr mine w:=.mk fun w' hr=>.inr (h w' hr)
theorem QG.out {τ:Tr} (h:QG P ch D Stop τ wr fr mine w):Stop wr fr mine w\/BH P D wr (WT P ch D Stop) fr mine w:=by
 cases τ with
 |leaf=>exact .inl (h w (.refl _ w))
 |node f =>
  rcases h w (.refl _ w)with h|⟨fr',mine',w2,es,wr',h1,h2,h3,h4,h5⟩
  ·exact .inl h
  ·exact .inr ⟨fr',mine',w2,es,wr',h1,h2,h3,h4,_,h5⟩
theorem WT.out (h:WT P ch D Stop wr fr mine w):Stop wr fr mine w\/BH P D wr (WT P ch D Stop) fr mine w:=let⟨_,h⟩:=h;h.out
theorem WT.bind (h:WT P ch D Stop wr fr mine w) (hb:∀ wr fr mine w,Stop wr fr mine w->WT P ch D Stop' wr fr mine w):WT P ch D Stop' wr fr mine w:=by
 obtain⟨τ,h⟩:=h
 induction τ generalizing wr fr mine w with
 |leaf=>exact .mk fun w' hr=>(hb _ _ _ _ (h w' hr)).out
 |node f ih =>
  refine .mk fun w' hr=>?_
  rcases h w' hr with h|⟨fr',mine',w2,es,wr',h1,h2,h3,h4,h5⟩
  ·exact(hb _ _ _ _ h).out
  ·exact .inr ⟨fr',mine',w2,es,wr',h1,h2,h3,h4,ih w' h5⟩
theorem WT.mono (h:WT P ch D Stop wr fr mine w) (hb:∀ wr fr mine w,Stop wr fr mine w->Stop' wr fr mine w):WT P ch D Stop' wr fr mine w:=by
 obtain⟨τ,h⟩:=h
 induction τ generalizing wr fr mine w with
 |leaf=>exact .stop fun w' hr=>hb _ _ _ _ (h w' hr)
 |node f ih =>
  refine .mk fun w' hr=>?_
  rcases h w' hr with h|⟨fr',mine',w2,es,wr',h1,h2,h3,h4,h5⟩
  ·exact .inl (hb _ _ _ _ h)
  ·exact .inr ⟨fr',mine',w2,es,wr',h1,h2,h3,h4,ih w' h5⟩
theorem WT.below (h:WT P ch D Stop wr fr mine w) (cs:List Frame):WT P ch D (fun wr fr mine w=>∃ m,mine=m ++ cs/\Stop wr fr m w) wr fr (mine ++ cs) w:=by
 obtain⟨τ,h⟩:=h
 induction τ generalizing wr fr mine w with
 |leaf=>exact .stop fun w' hr=>⟨mine,rfl,h w' hr⟩
 |node f ih =>
  refine .mk fun w' hr=>?_
  rcases h w' hr with h|⟨fr',mine',w2,es,wr',h1,h2,h3,h4,h5⟩
  ·exact .inl ⟨mine,rfl,h⟩
  ·exact .inr ⟨fr',mine' ++ cs,w2,es,wr',fun main cs'=>by rw[List.append_assoc,List.append_assoc];exact h1 main (cs ++ cs'),h2,h3,h4,ih w' h5⟩
theorem WT.move {fr':Frame} {mine':List Frame} (h:∀ main cs w,stepG P main (G fr (mine ++ cs)) w=.go (G fr' (mine' ++ cs)) w) (hk:WT P ch D Stop wr fr' mine' w):WT P ch D Stop wr fr mine w :=
 .step fun w' hr=>⟨fr',mine',w',#[],wr,fun main cs=>h main cs w',by simp,.refl wr w',.refl wr w',hk.rely hr⟩
end
def own (D:Nat->Prop) (R:BR):Nat->Prop:=fun b'=>∃ b,R b b'/\¬ D b
section
variable {G:Nat} {wa wa' wl:World}
variable {P:Program} {K:CallKind} {D:Nat->Prop} {R:BR} {f0:FuncId}
theorem Jz [bT] (h:WR G R D wl wa) (hr:dn ch (sK D (own D R)) wa wa'):WR G R D (wl.re wl.tape wa'.drawn) wa':=by
 refine⟨fun b b' hb=>?_,h.fn,h.inj,h.old,h.new,hr.tape.trans h.tape,rfl,h.dom,h.gl,Nat.le_trans h.ga hr.size⟩;obtain⟨o,o',h1,h2,h3⟩:=h.obj b b' hb;have hk:vU ch wa wa' b':=by
  by_cases hD:D b
  ·have:=h.old b b' hb hD;subst this;exact hr.keep _ (.inl hD)
  ·exact hr.keep _ (.inr ⟨b,hb,hD⟩)
 rcases hk with hk|⟨_,x,x',k1,k2,k3,k4⟩
 ·exact⟨o,o',h1,hk.trans h2,h3⟩
 ·rw [h2] at k1;cases k1;refine ⟨o,x',h1,k2,?_⟩;rcases h3 with ⟨c,c',e,f,f',rfl,rfl,_⟩ | ⟨a,a',l,rfl,rfl,_⟩ | ⟨h4,h5,h6⟩
  ·cases k3
  ·cases k3
  ·exact .inr (.inr ⟨h4,h5,k4⟩)
theorem Yi [bT] {R:BR} (h:WR G R D wl wa) {e:Event} (he:mZ R D e):Ae D (own D R) e:=by
 obtain⟨loc,wrt,sy⟩:=e;cases loc with
 | cell a =>
  obtain⟨h1,b,h2,h3⟩:=he;refine⟨h1,?_⟩;by_cases hD:D b
  ·have:=h.old _ _ h2 hD;refine .inr ⟨this ▸ hD,?_⟩;cases hw:wrt with
   |false=>rfl
   |true=>exact(h3 hw hD).elim
  ·exact .inl ⟨b,h2,hD⟩
 |obj r =>
  obtain⟨h1,b,h3⟩:=he;refine⟨h1,?_⟩;by_cases hD:D b
  ·exact .inr (h.old _ _ h3 hD ▸ hD)
  ·exact .inl ⟨b,h3,hD⟩
 |mark m=>exact he
 |_=>exact he.elim
theorem Ws [bT] (h:WR G R D wl wa) (hg:FX R D wa wa'):BI (own D R) wa wa' :=
 ⟨hg.size,fun b' hb hn=>hg.keep b' hb fun b hb'=>Classical.byContradiction fun hD=>hn ⟨b,hb',hD⟩,hg.os,hg.output,hg.tape,hg.okh⟩
theorem Ux [bT] {R':BR} {wl':World} (h':WR G R' D wl' wa') (hg:Grow R R' D wl wa):Ic (own D R) (own D R') wa wa':=by
 refine⟨fun b ⟨x,h1,h2⟩=>⟨x,hg.le _ _ h1,h2⟩,fun b ⟨x,h1,h2⟩=>?_⟩;rcases hg.fresh x b h1 with h3|⟨_,h3,_⟩
 ·exact .inl ⟨x,h3,h2⟩
 ·obtain⟨o,o',_,h4,_⟩:=h'.obj x b h1;exact .inr ⟨h3,(Array.getElem?_eq_some_iff.1 h4).1⟩
def StopR [bT] (P:Program) (K:CallKind) (D:Nat->Prop) (R:BR) (Stop:Frame->List Frame->World->Prop):vO:=fun wr fr mine w =>
 ∃ R' frl minel wl,wr=own D R'/\le R R'/\Stop frl minel wl/\ay OC wl/\ou P K R' frl minel fr mine/\WR P.globals.size R' D wl w
structure II [bT] (P:Program) (K:CallKind) (ch:Nat) (D:Nat->Prop) (R0:BR) (f0:FuncId) (Stop:Frame->List Frame->World->Prop) (T:Nat->Question->Nat) where
 fr:Frame
 mine:List Frame
 wl:World
 R:BR
 fra:Frame
 minea:List Frame
 wa:World
 stk:uw f0 fr mine
 stkr:ou P K R fr mine fra minea
 rel:WR P.globals.size R D wl wa
 heap:ay OC wl
 le:Sr.le R0 R
 not:¬ WT P ch D (StopR P K D R0 Stop) (own D R) fra minea wa
 tape:wl.tape=T
def Nx2 [bT] (P:Program) {K:CallKind} {ch:Nat} {D:Nat->Prop} {R0:BR} {Stop:Frame->List Frame->World->Prop} {T:Nat->Question->Nat} (c:II P K ch D R0 f0 Stop T) (d j:Nat):Option (II P K ch D R0 f0 Stop T)->Prop
 |some c'=>∀ τ p,(∀ i,i<j->∀ q,τ (p+i) q=T (d+i) q)->step P (lone c.fr (c.mine ++ [floor P]) (c.wl.re τ p))=.next (lone c'.fr (c'.mine ++ [floor P]) (c'.wl.re τ (p+j)))
 |none=>∀ τ p,(∀ i,i<j->∀ q,τ (p+i) q=T (d+i) q)->∀ m1,step P (lone c.fr (c.mine ++ [floor P]) (c.wl.re τ p))=.next m1->Qs P m1
theorem GK [bT] (hC:F7 P) (hS:ED P fun _=>True) {R0:BR} {Stop:Frame->List Frame->World->Prop} {T:Nat->Question->Nat} (c:II P K ch D R0 f0 Stop T) :
  ∃ d j o,Nx2 P c d j o:=by
 obtain⟨fr,mine,wl,R,fra,minea,wa,hst,hsr,hw,hh,hle,hn,htp⟩:=c;have h1:∃ w',dn ch (sK D (own D R)) wa w'/\¬ BH P D (own D R) (WT P ch D (StopR P K D R0 Stop)) fra minea w':=by
  apply Classical.byContradiction;intro hc;refine hn (.step fun w' hr=>?_);apply Classical.byContradiction;intro hd;exact hc ⟨w',hr,hd⟩
 obtain⟨wa1,hr,hno⟩:=h1;have hw1:=Jz hw hr;refine⟨wa1.drawn,?_⟩;have hag:∀ {j τ p},(∀ i,i<j->∀ q,τ (p+i) q=T (wa1.drawn+i) q)->Agree (wl.re wl.tape wa1.drawn) j τ p:=fun h i hi q=>by
  rw[h i hi q,<- htp];rfl
 have hh1:ay OC (wl.re wl.tape wa1.drawn):=hh;by_cases hb:mine=[]/\fr.mode≠.run
 ·obtain⟨rfl,hm⟩:=hb;have hds:fr.defers=[]:=hsr.top.defers;exact⟨0,none,fun τ p _ m1 hs=>.of (G5 hst hm hds hs)⟩
 obtain⟨j,hm⟩:=moves (S:=fun _=>True) hS hst (w:=wl.re wl.tape wa1.drawn) hh1 (fun h=>by
   by_cases hm:fr.mode=.run
   ·exact .inl hm
   ·exact(hb ⟨h,hm⟩).elim) (fun _ _=>trivial)
 rcases hm with⟨fr',mine',w',es,k1,k2,k3,k4,k5,k6,k7⟩|hbad
 ·have hs0:stepG P true (G fr (mine ++ [floor P])) (wl.re wl.tape wa1.drawn)=.go (G fr' (mine' ++ [floor P])) w' es:=by
   have:=k7 true [floor P] wl.tape wa1.drawn (fun i hi q=>rfl);rw[Ih]at this;refine this.trans ?_;have e:w'.re wl.tape (wa1.drawn+j)=w':=by
    have h5:w'.drawn=wa1.drawn+j:=k5;have h6:w'.tape=wl.tape:=k6;rw[<- h5,<- h6,mY]
   rw[e]
  have hsim:=sim (csl:=[floor P]) hC hS hsr hw1 hh1 (fun h=>by
   by_cases hm:fr.mode=.run
   ·exact hm
   ·exact(hb ⟨h,hm⟩).elim)
  rcases hsim with⟨fr1,mine1,wl1,es1,fr1',mine1',wa2,es2,R1,s1,s2,s3,s4,s5,s6,s7,s8⟩|hno'
  ·rw[hs0]at s1;simp only[GStep.go.injEq,G,Goroutine.mk.injEq,and_true,true_and]at s1;obtain⟨⟨rfl,e1⟩,rfl,rfl⟩:=s1;obtain rfl:=List.append_cancel_right e1;refine⟨j,some ⟨fr',mine',w',R1,fr1',mine1',wa2,k1,s3,s4,k2,le_trans hle s5.le,fun hwt=>hno ⟨fr1',mine1',wa2,es2,own D R1,s2,fun e he=>Yi s4 (s7 e he),Ws hw1 s6,Ux s4 s5,hwt⟩,k6.trans htp⟩,fun τ p ha=>?_⟩;have:=k7 true [floor P] τ p (hag ha);rw[Ih]at this;exact jZ this
  ·refine ⟨j,none,fun τ p ha m1 hs=>?_⟩;rw [hs0] at hno';rcases hno' with hbad | ⟨fr1,cs1,w1,es1,e1,hp,hall⟩
   ·obtain⟨_,d,hd,_⟩:=hbad;cases hd
   ·simp only[GStep.go.injEq,G,Goroutine.mk.injEq,and_true,true_and]at e1;obtain⟨⟨rfl,e2⟩,rfl,rfl⟩:=e1;obtain rfl:=List.append_cancel_right e2;have:=k7 true [floor P] τ p (hag ha);rw[Ih]at this;have h2:=jZ this;rw[h2]at hs;cases hs;exact EU _ _ _ hp hall
 ·refine⟨j,none,fun τ p ha m1 hs=>?_⟩;have:=hbad [floor P] τ p (hag ha);rw[Ih]at this;exact .of (Bl this hs)
theorem ER [bT] (hC:F7 P) (hS:ED P fun _=>True) {Stop:Frame->List Frame->World->Prop}
  (hstop:∀ fr mine w τ d,ay OC w->Stop fr mine w->Stop fr mine (w.re τ d)) (hmode:∀ fr mine w,Stop fr mine w->fr.mode=.run\/fr.mode=.returning)
  {fr fra:Frame} {mine minea:List Frame} {wl wa:World} (hst:uw f0 fr mine) (hsr:ou P K R fr mine fra minea) (hw:WR P.globals.size R D wl wa) (hh:ay OC wl)
  (hrun:∀ τ d,∃ fr' mine' w',Stop fr' mine' w'/\Steps P (lone fr (mine ++ [floor P]) (wl.re τ d)) (lone fr' (mine' ++ [floor P]) w')):WT P ch D (StopR P K D R Stop) (own D R) fra minea wa:=by
 apply Classical.byContradiction;intro hn;let T:=wl.tape;let c0:II P K ch D R f0 Stop T:=⟨fr,mine,wl,R,fra,minea,wa,hst,hsr,hw,hh,le_refl R,hn,rfl⟩;let DD:II P K ch D R f0 Stop T->Nat:=fun c=>Classical.choose (GK hC hS c)
 let J:II P K ch D R f0 Stop T->Nat:=fun c=>Classical.choose (Classical.choose_spec (GK hC hS c))
 let O:II P K ch D R f0 Stop T->Option (II P K ch D R f0 Stop T):=fun c=>Classical.choose (Classical.choose_spec (Classical.choose_spec (GK hC hS c)))
 have hO:∀ c,Nx2 P c (DD c) (J c) (O c):=fun c=>Classical.choose_spec (Classical.choose_spec (Classical.choose_spec (GK hC hS c)))
 let seq:Nat->II P K ch D R f0 Stop T:=fun n=>Nat.rec c0 (fun _ c=>(O c).getD c) n
 let pos:Nat->Nat:=fun n=>Nat.rec 0 (fun n p=>p+J (seq n)) n
 have hseq:∀ n,seq (n+1)=(O (seq n)).getD (seq n):=fun n=>rfl
 have hpos:∀ n,pos (n+1)=pos n+J (seq n):=fun n=>rfl
 have hmono:∀ n k,pos n<=pos (n+k):=by
  intro n k
  induction k with
  |zero=>exact Nat.le_refl _
  |succ k ih=>rw[<- Nat.add_assoc,hpos];omega
 have huniq:∀ n m k,pos n<=k->k<pos n+J (seq n)->pos m<=k->k<pos m+J (seq m)->n=m:=by
  intro n m k h1 h2 h3 h4;rcases Nat.lt_trichotomy n m with h|h|h
  ·have:=hmono (n+1) (m-(n+1));rw[show n+1+(m-(n+1))=m from by omega,hpos]at this;omega
  ·exact h
  ·have:=hmono (m+1) (n-(m+1));rw[show m+1+(n-(m+1))=n from by omega,hpos]at this;omega
 let τ:Nat->Question->Nat:=fun k q =>
  open Classical in if h:∃ n,pos n<=k/\k<pos n+J (seq n) then T (DD (seq (Classical.choose h))+(k-pos (Classical.choose h))) q else 0
 have hτ:∀ n i,i<J (seq n)->∀ q,τ (pos n+i) q=T (DD (seq n)+i) q:=by
  intro n i hi q;have hex:∃ m,pos m<=pos n+i/\pos n+i<pos m+J (seq m):=⟨n,by omega,by omega⟩;have hch:=Classical.choose_spec hex;have he:Classical.choose hex=n:=huniq _ _ _ hch.1 hch.2 (by omega) (by omega);show(open Classical in if h:∃ m,pos m<=pos n+i/\pos n+i<pos m+J (seq m) then _ else _)=_;rw[dif_pos hex,he,show pos n+i-pos n=i from by omega]
 obtain⟨fr',mine',w',hS',hsteps⟩:=hrun τ 0;have hsteps:=stepsIn_wide.2 hsteps;have key:∀ m,StepsIn (Machine.fenced P Fence.wide) P m (lone fr' (mine' ++ [floor P]) w')->∀ n,m=lone (seq n).fr ((seq n).mine ++ [floor P]) ((seq n).wl.re τ (pos n))->False:=by
  intro m hm;generalize hend:lone fr' (mine' ++ [floor P]) w'=mend at hm
  induction hm with
  |refl =>
   intro n hn;subst hend;simp only[lone,Machine.mk.injEq,Array.mk.injEq,List.cons.injEq,Goroutine.mk.injEq,and_true]at hn;obtain⟨hw,hf,hc⟩:=hn;have hc':=List.append_cancel_right hc;subst hw hf hc';refine(seq n).not (.stop fun wa' hr=>?_);have:=hstop _ _ _ (seq n).wl.tape wa'.drawn (show ay OC ((seq n).wl.re τ (pos n))from(seq n).heap) hS';rw[Ih]at this;exact⟨(seq n).R,_,_,_,rfl,(seq n).le,this,(seq n).heap,(seq n).stkr,Jz (seq n).rel hr⟩
  | head hI hst' hrest ih =>
   intro n hn;subst hn;have hx:=hO (seq n);cases ho:O (seq n)with
   |none =>
    rw[ho]at hx;refine hx τ (pos n) (hτ n) _ hst' fr' mine' w' (hmode _ _ _ hS') ?_;rw[hend];exact stepsIn_wide.1 hrest
   |some c' =>
    rw[ho]at hx;have h1:=hx τ (pos n) (hτ n);rw[h1]at hst';cases hst';refine ih hend (n+1) ?_;rw[hseq,ho,hpos];rfl
 exact key _ hsteps 0 rfl
end
end Go.Ph
namespace Go.Ph
open Go
open Go.Tm
open Go.Sr
open Go.Conc
open Go.ConcN (upd upd_same upd_ne)
variable {D wr:Nat->Prop} {e:Event}
def blk:Go.Loc->Option Nat
 |.cell a=>some a.block
 |.obj r=>some r
 |_=>none
def Far (D wr:Nat->Prop) (n:Nat) (a:Touch):Prop:=∃ b,blk a.loc=some b/\b<n/\¬ wr b/\(D b->a.write=false)
structure Gj (A:Nat->Prop) (D wr:Nat->Nat->Prop) (n:Nat) (t:Trace):Prop where
 clean:∀ said,¬ Race said t
 unk:∀ g,(g=0\/A g)->∀ i a,touchAt t i=some a->a.loc.isMemory=true->Knows t g i\/Far (D g) (wr g) n a
 main:∀ i a,touchAt t i=some a->a.loc.isMemory=true->Knows t 0 i\/∃ g,A g/\t.g? i=some g
 hears:∀ g,(g=0\/A g)->Deaf t g=0
 seen:∃ B,∀ op∈t,op.act.low B
 sep:∀ g h b,(g=0\/A g)->(h=0\/A h)->g≠h->wr g b->¬ D h b/\¬ wr h b
 low:∀ g b,(g=0\/A g)->D g b\/wr g b->b<n
theorem Oc (h:Ae D wr e) {x:Touch} (hx:(MemAct.ofEvent e).touch? = some x):∃ b,blk x.loc=some b/\(wr b\/(D b/\x.write=false)):=by
 obtain⟨loc,w,sy⟩:=e;cases loc with
 |cell a =>
  obtain⟨hs,h⟩:=h;dsimp only at hs h;subst hs;simp only[MemAct.ofEvent,MemAct.touch?,Option.some.injEq]at hx;subst hx;exact⟨a.block,rfl,h⟩
 |obj r =>
  obtain⟨hw,h⟩:=h;dsimp only at hw h;subst hw;simp only[MemAct.ofEvent,MemAct.touch?,Option.some.injEq]at hx;subst hx;refine⟨r,rfl,?_⟩;rcases h with h|h
  ·exact .inl h
  ·exact .inr ⟨h,rfl⟩
 |mark m =>
  have hm:m=.noRoom:=h;subst hm;simp[MemAct.ofEvent,MemAct.touch?]at hx
 |_=>exact h.elim
theorem Xm (h:Ae D wr e):ND e:=by
 obtain⟨loc,w,sy⟩:=e;cases loc with
 |mark m =>
  have hm:m=.noRoom:=h;subst hm;exact⟨by simp,by simp⟩
 |_=>exact⟨by simp,by simp⟩
section
variable {g:Nat} {es:Array Event}
variable {A:Nat->Prop} {D wr:Nat->Nat->Prop} {n n':Nat} {t:Trace}
theorem Gj.own (h:Gj A D wr n t) (hg:g=0\/A g) {wr':Nat->Prop} (hev:∀ e∈es,Ae (D g) wr' e) (hle:∀ b,wr g b->wr' b) (hfr:∀ b,wr' b->wr g b\/(n<=b/\b<n')) (hn:n<=n') (fn:FuncId) (pos:String) :
  Gj A D (upd wr g wr') n' (t ++ MemOp.ofEvents g fn pos es):=by
 have hu:∀ op∈MemOp.ofEvents g fn pos es,op.g=g:=fun op hop=>by obtain⟨e,_,rfl⟩:=Go.Conc.mem_ofEvents hop;rfl
 have htch:∀ op∈MemOp.ofEvents g fn pos es,∀ x,op.act.touch? = some x->∃ b,blk x.loc=some b/\(wr' b\/(D g b/\x.write=false)):=fun op hop x hx=>by
  obtain⟨e,he,rfl⟩:=Go.Conc.mem_ofEvents hop;exact Oc (hev e he) hx
 have hold:∀ h' a,(h'=0\/A h')->Far (D h') (wr h') n a->Far (D h') (upd wr g wr' h') n' a:=by
  rintro h' a hh ⟨b,h1,h2,h3,h4⟩;refine⟨b,h1,by omega,?_,h4⟩;by_cases e:h'=g
  ·subst e;rw [upd_same];intro hb;rcases hfr b hb with h5 | h5
   ·exact h3 h5
   ·omega
  ·rw[upd_ne _ _ e];exact h3
 refine⟨fun said=>noRace_append (h.clean said) hu fun i a ha op hop b hb hc=>?_,fun h' hh i a ha hm=>?_,fun i a ha hm=>?_,fun h' hh=>?_,?_,fun x y b hx hy hxy hw=>?_,fun x b hx hb=>?_⟩
 ·obtain ⟨hloc,hmem,hww,_⟩:=hc;rcases h.unk g hg i a ha hmem with hk | ⟨bb,h1,h2,h3,h4⟩
  ·exact hk
  ·exfalso;obtain ⟨b2,h5,h6⟩:=htch op hop b hb;rw [<- hloc,h1] at h5;cases h5;rcases h6 with h6 | ⟨h6,h7⟩
   ·rcases hfr _ h6 with h8 | h8
    ·exact h3 h8
    ·omega
   ·rcases hww with h8 | h8
    ·rw[h4 h6]at h8;cases h8
    ·rw[h7]at h8;cases h8
 ·obtain ⟨x,hx,hxa⟩:=touch_of ha;rcases getElem?_append_cases hx with ⟨_,hx'⟩ | ⟨_,hxu⟩
  ·rcases h.unk h' hh i a (by rw [touchAt_of hx'];exact hxa) hm with hk | hf
   ·exact .inl (hk.app _)
   ·exact .inr (hold h' a hh hf)
  ·by_cases e:h'=g
   ·subst e;have:=knows_own hx;rw[hu x hxu]at this;exact .inl this
   ·obtain ⟨b,h1,h2⟩:=htch x hxu a hxa;have hbn:∀ b,D h' b\/wr h' b->b < n:=fun b hb=>h.low h' b hh hb
    refine .inr ⟨b,h1,?_,?_,fun hD=>?_⟩
    ·rcases h2 with h2 | ⟨h2,_⟩
     ·rcases hfr b h2 with h3 | h3
      ·have:=h.low g b hg (.inr h3);omega
      ·exact h3.2
     ·have:=h.low g b hg (.inl h2);omega
    ·rw [upd_ne _ _ e];intro hw;have hs:=h.sep h' g b hh hg e hw;rcases h2 with h2 | ⟨h2,_⟩
     ·rcases hfr b h2 with h3 | h3
      ·exact hs.2 h3
      ·have:=hbn b (.inr hw);omega
     ·exact hs.1 h2
    ·rcases h2 with h2 | ⟨_,h2⟩
     ·rcases hfr b h2 with h3 | h3
      ·exact((h.sep g h' b hg hh (fun e'=>e e'.symm) h3).1 hD).elim
      ·have:=hbn b (.inl hD);omega
     ·exact h2
 ·obtain ⟨x,hx,hxa⟩:=touch_of ha;rcases getElem?_append_cases hx with ⟨hi,hx'⟩ | ⟨_,hxu⟩
  ·rcases h.main i a (by rw [touchAt_of hx'];exact hxa) hm with hk | ⟨g',h1,h2⟩
   ·exact .inl (hk.app _)
   ·exact .inr ⟨g',h1,by rw[g?_old hi];exact h2⟩
  ·rcases hg with rfl | hg
   ·have:=knows_own hx;rw[hu x hxu]at this;exact .inl this
   ·exact .inr ⟨g,hg,by rw[g?_of hx,hu x hxu]⟩
 ·by_cases e:g=h'
  ·subst e;rw[Deaf_own];exact(deafBehind_still (fun e he=>Xm (hev e he)) _).trans (h.hears _ hh)
  ·exact(Deaf_other t e _ hu).trans (h.hears _ hh)
 ·obtain⟨B,hB⟩:=h.seen;obtain⟨B',hB'⟩:=Io es;refine⟨B+B',seen_app (fun op hop=>MemAct.low_mono (by omega) (hB op hop)) fun op hop=>?_⟩;obtain⟨e,he,rfl⟩:=Go.Conc.mem_ofEvents hop;exact MemAct.low_mono (by omega) (hB' e he)
 ·by_cases e:x=g
  ·subst e;rw [upd_same] at hw;rw [upd_ne _ _ (Ne.symm hxy)];rcases hfr b hw with h3 | h3
   ·exact h.sep x y b hx hy hxy h3
   ·exact⟨fun hb=>by have:=h.low y b hy (.inl hb);omega,fun hb=>by have:=h.low y b hy (.inr hb);omega⟩
  ·rw [upd_ne _ _ e] at hw;have hs:=h.sep x y b hx hy hxy hw;refine ⟨hs.1,?_⟩;by_cases e':y=g
   ·subst e';rw [upd_same];intro hb;rcases hfr b hb with h3 | h3
    ·exact hs.2 h3
    ·have:=h.low x b hx (.inr hw);omega
   ·rw[upd_ne _ _ e'];exact hs.2
 ·by_cases e:x=g
  ·subst e;rw [upd_same] at hb;rcases hb with hb | hb
   ·have:=h.low x b hx (.inl hb);omega
   ·rcases hfr b hb with h3 | h3
    ·have:=h.low x b hx (.inr h3);omega
    ·exact h3.2
  ·rw[upd_ne _ _ e]at hb;have:=h.low x b hx hb;omega
theorem Gj.mute (h:Gj A D wr n t) {u:Trace} (hg:g≠0/\¬ A g) (hu:∀ op∈u,op.g=g) (hn:∀ op∈u,op.act.touch? = none) (hl:∃ B,∀ op∈u,op.act.low B):Gj A D wr n (t ++ u):=by
 refine⟨fun said=>noRace_appendMute (h.clean said) hn,fun h' hh i a ha hm=>?_,fun i a ha hm=>?_,fun h' hh=>?_,?_,h.sep,h.low⟩
 ·obtain ⟨x,hx,hxa⟩:=touch_of ha;rcases getElem?_append_cases hx with ⟨_,hx'⟩ | ⟨_,hxu⟩
  ·exact(h.unk h' hh i a (by rw[touchAt_of hx'];exact hxa) hm).imp (·.app _) id
  ·rw[hn x hxu]at hxa;cases hxa
 ·obtain ⟨x,hx,hxa⟩:=touch_of ha;rcases getElem?_append_cases hx with ⟨hi,hx'⟩ | ⟨_,hxu⟩
  ·exact(h.main i a (by rw[touchAt_of hx'];exact hxa) hm).imp (·.app _) fun⟨g',h1,h2⟩=>⟨g',h1,by rw[g?_old hi];exact h2⟩
  ·rw[hn x hxu]at hxa;cases hxa
 ·refine (Deaf_other t (fun e=>?_) u hu).trans (h.hears _ hh);subst e;rcases hh with hh | hh
  ·exact hg.1 hh
  ·exact hg.2 hh
 ·obtain⟨B,hB⟩:=h.seen;obtain⟨B',hB'⟩:=hl;exact⟨B+B',seen_app (fun op hop=>MemAct.low_mono (by omega) (hB op hop)) fun op hop=>MemAct.low_mono (by omega) (hB' op hop)⟩
theorem Gj.P6 (h:Gj A D wr n t) (hg:g≠0/\¬ A g) (hm:∀ e∈es,e.mute=true) (fn:FuncId) (pos:String):Gj A D wr n (t ++ MemOp.ofEvents g fn pos es) :=
 h.mute hg (fun op hop=>by obtain⟨e,_,rfl⟩:=Go.Conc.mem_ofEvents hop;rfl) (fun op hop=>by obtain⟨e,he,rfl⟩:=Go.Conc.mem_ofEvents hop;exact touch_mute (hm e he)) ⟨0,fun op hop=>by obtain⟨e,he,rfl⟩:=Go.Conc.mem_ofEvents hop;exact low_mute (hm e he) 0⟩
theorem Gj.ofPast (h:Past' t) (D wr:Nat->Nat->Prop) (hl:∀ b,D 0 b\/wr 0 b->b<n):Gj (fun _=>False) D wr n t:=by
 obtain⟨B,h⟩:=h;refine⟨h.clean,fun g hg i a ha hm=>?_,fun i a ha hm=>?_,fun g hg=>?_,⟨B,h.seen⟩,fun g k b hg hk hgk _=>?_,fun g b hg hb=>?_⟩
 ·rcases hg with rfl | hg
  ·exact(h.known i a ha hm).imp id fun x=>x.1.elim
  ·exact hg.elim
 ·exact(h.known i a ha hm).imp id fun x=>x.1.elim
 ·rcases hg with rfl | hg
  ·exact h.hears
  ·exact hg.elim
 ·rcases hg with rfl | hg
  ·rcases hk with rfl | hk
   ·exact(hgk rfl).elim
   ·exact hk.elim
  ·exact hg.elim
 ·rcases hg with rfl | hg
  ·exact hl b hb
  ·exact hg.elim
theorem Gj.toPast (h:Gj A D wr n t) (hA:∀ g,¬ A g):Past' t:=by
 obtain⟨B,hB⟩:=h.seen;have hk:∀ i a,touchAt t i=some a->a.loc.isMemory=true->Knows t 0 i:=fun i a ha hm=>(h.main i a ha hm).elim id fun⟨g,hg,_⟩=>(hA g hg).elim
 refine⟨B,h.clean,fun i a ha hm=>.inl (hk i a ha hm),fun i g hg hne ⟨x,hx,hm,_⟩=>?_,h.hears 0 (.inl rfl),hB⟩;obtain⟨q,z,hq,hz,hb⟩:=hk i x hx hm;rcases hb with rfl|hb
 ·rw[g?_of hq,hz]at hg;exact absurd (Option.some.inj hg).symm hne
 ·exact⟨q,by rw[g?_of hq,hz],hb⟩
theorem Gj.hire (h:Gj A D wr n t) {c:Nat} (hc:c≠0/\¬ A c) (hd:Deaf t c=0) (Dc:Nat->Prop) (D0 wr0:Nat->Prop) (hDc:∀ b,Dc b->D 0 b\/wr 0 b) (h0:∀ b,D0 b\/wr0 b->D 0 b\/wr 0 b) (hw0:∀ b,wr0 b->wr 0 b/\¬ Dc b)
 (fh:FuncId) (ph:String) (fc:FuncId) :
  Gj (fun g=>A g\/g=c) (upd (upd D c Dc) 0 D0) (upd (upd wr c fun _=>False) 0 wr0) n (t ++ #[{g:=0,fn:=fh,pos:=ph,act:=.go c},{g:=c,fn:=fc,pos:=ph,act:=.start}]):=by
 obtain⟨hc0,hcA⟩:=hc;generalize hu:(#[{g:=0,fn:=fh,pos:=ph,act:=.go c},{g:=c,fn:=fc,pos:=ph,act:=.start}]:Trace)=u;have hn:∀ op∈u,op.act.touch? = none:=by
  intro op hop;subst hu;simp only[List.mem_toArray,List.mem_cons,List.not_mem_nil,or_false]at hop;rcases hop with rfl|rfl<;>rfl
 have hq:∀ g,∀ op∈u,∀ d,deafStep g d op=d:=by
  intro g op hop d;subst hu;simp only[List.mem_toArray,List.mem_cons,List.not_mem_nil,or_false]at hop;rcases hop with rfl|rfl<;>rfl
 have e0:(t ++ u)[t.size]? = some {g:=0,fn:=fh,pos:=ph,act:=.go c}:=by subst hu;simp
 have e1:(t ++ u)[t.size+1]? = some {g:=c,fn:=fc,pos:=ph,act:=.start}:=by subst hu;simp
 have edge:HappensBefore (t ++ u) t.size (t.size+1) :=
  Relation.TransGen.single (.inr ⟨.spawn (act?_of e0) (act?_of e1) (g?_of e1),⟨0,g?_of e0,by rw[deaf_old (Nat.le_refl _)];exact h.hears 0 (.inl rfl)⟩,⟨c,g?_of e1,by rw[deaf_quiet (hq c) 1 (by subst hu;simp)];exact hd⟩⟩)
 have hkc:∀ i,Knows t 0 i->Knows (t ++ u) c i:=fun i hk=>⟨t.size+1,_,e1,rfl,.inr ((hk.hb_new (Nat.le_refl _) e0 rfl).trans edge)⟩
 have eD0:∀ g,g≠0->g≠c->upd (upd D c Dc) 0 D0 g=D g:=fun g h1 h2=>by rw[upd_ne _ _ h1,upd_ne _ _ h2]
 have ew0:∀ g,g≠0->g≠c->upd (upd wr c fun _=>False) 0 wr0 g=wr g:=fun g h1 h2=>by rw[upd_ne _ _ h1,upd_ne _ _ h2]
 have eDc:upd (upd D c Dc) 0 D0 c=Dc:=by rw[upd_ne _ _ hc0,upd_same]
 have ewc:upd (upd wr c fun _=>False) 0 wr0 c=fun _=>False:=by rw[upd_ne _ _ hc0,upd_same]
 have eD00:upd (upd D c Dc) 0 D0 0=D0:=upd_same _ _ _;have ew00:upd (upd wr c fun _=>False) 0 wr0 0=wr0:=upd_same _ _ _;refine⟨fun said=>noRace_appendMute (h.clean said) hn,fun g hg i a ha hm=>?_,fun i a ha hm=>?_,fun g hg=>?_,?_,fun g k b hg hk hgk hb=>?_,fun g b hg hb=>?_⟩
 ·obtain ⟨x,hx,hxa⟩:=touch_of ha;rcases getElem?_append_cases hx with ⟨_,hx'⟩ | ⟨_,hxu⟩
  ·have ha':touchAt t i=some a:=by rw [touchAt_of hx'];exact hxa
   have h00:=h.unk 0 (.inl rfl) i a ha' hm;by_cases e:g=c
   ·subst e;rcases h00 with hk | ⟨b,h1,h2,h3,h4⟩
    ·exact .inl (hkc i hk)
    ·refine .inr ⟨b,h1,h2,by rw [ewc];exact id,fun hb=>?_⟩;rw [eDc] at hb;rcases hDc b hb with h5 | h5
     ·exact h4 h5
     ·exact(h3 h5).elim
   ·by_cases e':g=0
    ·subst e';rcases h00 with hk | ⟨b,h1,h2,h3,h4⟩
     ·exact .inl (hk.app _)
     ·refine .inr ⟨b,h1,h2,?_,fun hb=>?_⟩
      ·rw[ew00];exact fun hb=>h3 (hw0 b hb).1
      ·rw [eD00] at hb;rcases h0 b (.inl hb) with h5 | h5
       ·exact h4 h5
       ·exact(h3 h5).elim
    ·rw [eD0 g e' e,ew0 g e' e];have hA:A g:=hg.elim (fun h=>(e' h).elim) fun h=>h.elim id fun h=>(e h).elim
     exact(h.unk g (.inr hA) i a ha' hm).imp (·.app _) id
  ·rw[hn x hxu]at hxa;cases hxa
 ·obtain ⟨x,hx,hxa⟩:=touch_of ha;rcases getElem?_append_cases hx with ⟨hi,hx'⟩ | ⟨_,hxu⟩
  ·exact(h.main i a (by rw[touchAt_of hx'];exact hxa) hm).imp (·.app _) fun⟨g',h1,h2⟩=>⟨g',.inl h1,by rw[g?_old hi];exact h2⟩
  ·rw[hn x hxu]at hxa;cases hxa
 ·rw [Deaf_quiet (hq g)];rcases hg with h1 | h1 | h1
  ·exact h.hears g (.inl h1)
  ·exact h.hears g (.inr h1)
  ·rw[h1];exact hd
 ·obtain⟨B,hB⟩:=h.seen;refine⟨B,seen_app hB fun op hop=>?_⟩;subst hu;simp only[List.mem_toArray,List.mem_cons,List.not_mem_nil,or_false]at hop;rcases hop with rfl|rfl<;>trivial
 ·have hgc:g≠c:=by
   rintro rfl;rw[ewc]at hb;exact hb
  have h1:wr g b/\(g=0->¬ Dc b):=by
   by_cases e:g=0
   ·subst e;rw[ew00]at hb;exact⟨(hw0 b hb).1,fun _=>(hw0 b hb).2⟩
   ·rw[ew0 g e hgc]at hb;exact⟨hb,fun h=>(e h).elim⟩
  have hg':g=0\/A g:=hg.elim .inl fun h=>h.elim .inr fun h=>(hgc h).elim
  by_cases e:k=c
  ·subst e;rw [eDc,ewc];refine ⟨fun hx=>?_,id⟩;by_cases e':g=0
   ·exact h1.2 e' hx
   ·have:=h.sep g 0 b hg' (.inl rfl) e' h1.1;exact(hDc b hx).elim this.1 this.2
  ·have hk':k=0\/A k:=hk.elim .inl fun h=>h.elim .inr fun h=>(e h).elim
   have hs:=h.sep g k b hg' hk' hgk h1.1;by_cases e':k=0
   ·subst e';rw[eD00,ew00];exact⟨fun hx=>(h0 b (.inl hx)).elim hs.1 hs.2,fun hx=>hs.2 (hw0 b hx).1⟩
   ·rw[eD0 k e' e,ew0 k e' e];exact hs
 ·by_cases e:g=c
  ·subst e;rw[eDc,ewc]at hb;exact h.low 0 b (.inl rfl) (hDc b (hb.elim id fun x=>x.elim))
  ·by_cases e':g=0
   ·subst e';rw[eD00,ew00]at hb;exact h.low 0 b (.inl rfl) (h0 b hb)
   ·rw[eD0 g e' e,ew0 g e' e]at hb;exact h.low g b (hg.elim .inl fun h=>h.elim .inr fun h=>(e h).elim) hb
theorem Gj.meet (h:Gj A D wr n t) {j:Nat} (hj:A j) (hj0:j≠0) (fj:FuncId) (pj:String) (f0:FuncId) (p0:String) (c k cap:Nat) :
  Gj (fun g=>A g/\g≠j) D wr n (t ++ met j 0 fj pj f0 p0 c k cap):=by
 have hn:=met_mute j 0 fj pj f0 p0 c k cap;have hq:=met_quiet j 0 fj pj f0 p0 c k cap;have e0:(t ++ met j 0 fj pj f0 p0 c k cap)[t.size]? = some {g:=j,fn:=fj,pos:=pj,act:=.send c k}:=by simp[met]
 have e3:(t ++ met j 0 fj pj f0 p0 c k cap)[t.size+3]? = some {g:=0,fn:=f0,pos:=p0,act:=.recvDone c k}:=by simp[met]
 have edge:HappensBefore (t ++ met j 0 fj pj f0 p0 c k cap) t.size (t.size+3) :=
  Relation.TransGen.single (.inr ⟨.handOver (act?_of e0) (act?_of e3),⟨j,g?_of e0,by rw[deaf_old (Nat.le_refl _)];exact h.hears j (.inr hj)⟩,⟨0,g?_of e3,by rw[deaf_quiet (hq 0) 3 (by simp[met])];exact h.hears 0 (.inl rfl)⟩⟩)
 have hk0:∀ i,Knows t j i->Knows (t ++ met j 0 fj pj f0 p0 c k cap) 0 i:=fun i hk=>⟨t.size+3,_,e3,rfl,.inr ((hk.hb_new (Nat.le_refl _) e0 rfl).trans edge)⟩
 refine⟨fun said=>noRace_appendMute (h.clean said) hn,fun g hg i a ha hm=>?_,fun i a ha hm=>?_,fun g hg=>?_,?_,fun g l b hg hl=>h.sep g l b (hg.imp id (·.1)) (hl.imp id (·.1)),fun g b hg=>h.low g b (hg.imp id (·.1))⟩
 ·obtain ⟨x,hx,hxa⟩:=touch_of ha;rcases getElem?_append_cases hx with ⟨_,hx'⟩ | ⟨_,hxu⟩
  ·exact(h.unk g (hg.imp id (·.1)) i a (by rw[touchAt_of hx'];exact hxa) hm).imp (·.app _) id
  ·rw[hn x hxu]at hxa;cases hxa
 ·obtain ⟨x,hx,hxa⟩:=touch_of ha;rcases getElem?_append_cases hx with ⟨hi,hx'⟩ | ⟨_,hxu⟩
  ·rcases h.main i a (by rw [touchAt_of hx'];exact hxa) hm with hk | ⟨g',h1,h2⟩
   ·exact .inl (hk.app _)
   ·by_cases e:g'=j
    ·subst e;have:=knows_own hx';rw[show x.g=g' from by have:=g?_of hx';rw[h2]at this;exact(Option.some.inj this).symm]at this;exact .inl (hk0 i this)
    ·exact .inr ⟨g',⟨h1,e⟩,by rw[g?_old hi];exact h2⟩
  ·rw[hn x hxu]at hxa;cases hxa
 ·rw[Deaf_quiet (hq g)];exact h.hears g (hg.imp id (·.1))
 ·obtain⟨B,hB⟩:=h.seen;refine⟨B+(c+1),seen_app (fun op hop=>MemAct.low_mono (by omega) (hB op hop)) fun op hop=>?_⟩;simp only[met,List.mem_toArray,List.mem_cons,List.not_mem_nil,or_false]at hop;rcases hop with rfl|rfl|rfl|rfl<;>(show c<_;omega)
end
inductive WK where
 |leave (q:Nat)
 |work (τ:Tr)
 |sit
def WK.busy:WK->Bool
 |.leave _=>false
 |_=>true
inductive LZ:WK->WK->Prop
 |leave (q:Nat):LZ (.leave q) (.leave (q+1))
 |node (f:World->Tr) (w:World):LZ (.work (f w)) (.work (.node f))
 |sit (τ:Tr):LZ .sit (.work τ)
theorem XK:WellFounded LZ:=by
 have hs:Acc LZ .sit:=⟨_,fun y h=>by cases h⟩;refine⟨fun x=>?_⟩;cases x with
 |sit=>exact hs
 |leave q =>
  induction q with
  |zero=>exact⟨_,fun y h=>by cases h⟩
  |succ q ih=>exact⟨_,fun y h=>by cases h;exact ih⟩
 |work τ =>
  induction τ with
  |leaf=>exact⟨_,fun y h=>by cases h;exact hs⟩
  |node f ih=>exact⟨_,fun y h=>by cases h with|node f w=>exact ih w|sit=>exact hs⟩
def Dec (n:Nat) (K' K:Nat->WK):Prop:=∃ i x,i<n/\K'=upd K i x/\LZ x (K i)
theorem dec_wf:∀ n,WellFounded (Dec n)
 |0=>⟨fun _=>⟨_,fun _ h=>by obtain⟨i,_,h,_⟩:=h;omega⟩⟩
 | n+1=>by
  have ih:=dec_wf n;have key:∀ (x:WK) (K:Nat->WK),Acc LZ x->Acc (Dec n) K->K n=x->Acc (Dec (n+1)) K:=by
   intro x K hx
   induction hx generalizing K with
   | intro x _ ihx =>
    intro hK
    induction hK with
    |intro K _ ihK =>
     intro he;refine⟨_,fun K' ⟨i,y,hi,hk,hlt⟩=>?_⟩;by_cases hin:i=n
     ·subst hin;subst hk;exact ihx y (he ▸ hlt) _ (ih.apply _) (upd_same _ _ _)
     ·exact ihK K' ⟨i,y,by omega,hk,hlt⟩ (by rw[hk,upd_ne _ _ (Ne.symm hin)];exact he)
  exact⟨fun K=>key _ K (XK.apply _) (ih.apply _) rfl⟩
structure Sit where
 K:Nat->WK
 D:Nat->Nat->Prop
 wr:Nat->Nat->Prop
 val:Nat->Value
def Sit.act (s:Sit) (n g:Nat):Prop:=0<g/\g<n/\(s.K g).busy=true
def AtSend (P:Program) (c:Nat) (v:Value) (D:Nat->Prop):vO:=fun wr fr mine w =>
 ∃ g₂ z es,stepG P false (G fr mine) w=.comm g₂ #[scase c v z] true .send w es/\(∀ e∈es,Ae D wr e)/\∃ q,QuitsD P q 0 (Conc.served g₂ undef)
def qc (P:Program) (c:Nat) (s:Sit) (i:Nat) (g:Goroutine) (w:World) (t:Trace):Prop :=
 match s.K i with
 |.leave q=>QuitsD P q (Deaf t i) g
 |.work τ=>∃ fr mine,g=G fr mine/\QG P c (s.D i) (AtSend P c (s.val i) (s.D i)) τ (s.wr i) fr mine w
 |.sit=>∃ g₂ z,g=parked g₂ #[scase c (s.val i) z] .send/\∃ q,QuitsD P q 0 (Conc.served g₂ undef)
structure oV (P:Program) (c:Nat) (s:Sit) (gs:Array Goroutine) (a:Goroutine) (w:World) (t:Trace):Prop where
 zero:gs[0]? = some a
 old:∀ i g,0<i->gs[i]? = some g->qc P c s i g w t
 above:∀ j,gs.size<=j->Deaf t j=0
 chan:∃ k,w.heap[c]? = some (.chan 0 #[] false k k false)
 nochan:∀ g,(g=0\/s.act gs.size g)->¬ s.wr g c
 heap:ay OC w
 tr:Gj (s.act gs.size) s.D s.wr w.heap.size t
def Main (c:Nat) (a:Goroutine):Prop:=a.status=.running\/∃ a₂ z,a=parked a₂ #[rcase c z] (.recv false)
section
variable {g g' x:Goroutine} {i j q:Nat} {es:Array Event}
variable {P:Program} {c:Nat} {s:Sit} {gs:Array Goroutine} {a:Goroutine} {w w':World} {t:Trace}
theorem Dj (ha:Main c a) (hk:∃ k,w.heap[c]? = some (.chan 0 #[] false k k false)):woken P g g' w a=a:=by
 rcases ha with h|⟨a₂,z,rfl⟩
 ·exact woken_run h
 ·obtain⟨k,hk⟩:=hk;exact woken_recv_open _ _ hk
theorem EL (h:qc P c s i x w t) (hk:∃ k,w'.heap[c]? = some (.chan 0 #[] false k k false)):woken P g g' w' x=x:=by
 unfold qc at h;cases hK:s.K i with
 |leave q=>rw[hK]at h;exact woken_quitsD h
 |work τ =>
  rw[hK]at h;obtain⟨fr,mine,rfl,_⟩:=h;exact woken_run rfl
 |sit =>
  rw[hK]at h;obtain⟨g₂,z,rfl,_⟩:=h;obtain⟨k,hk⟩:=hk;exact woken_send_open _ _ hk
theorem qc.keep {s':Sit} {t':Trace} (h:qc P c s i x w t) (hK:s'.K i=s.K i) (hD:s'.D i=s.D i) (hwr:s'.wr i=s.wr i) (hv:s'.val i=s.val i) (hd:Deaf t' i=Deaf t i)
 (hr:(s.K i).busy=true->dn c (sK (s.D i) (s.wr i)) w w'):qc P c s' i x w' t':=by
 unfold qc at h |-;rw[hK];cases hk:s.K i with
 |leave q =>
  rw[hk]at h;show QuitsD P q (Deaf t' i) x;rw[hd];exact h
 |work τ =>
  rw[hk]at h;obtain⟨fr,mine,h1,h2⟩:=h;refine⟨fr,mine,h1,?_⟩;rw[hD,hwr,hv];exact h2.rely (hr (by rw[hk];rfl))
 |sit =>
  rw[hk]at h;show ∃ g₂ z,x=parked g₂ #[scase c (s'.val i) z] .send/\_;rw[hv];exact h
theorem oV.at (h:oV P c s gs a w t) (d:Nat):oV P c s gs a (w.at d) t :=
 ⟨h.zero,fun i g hi hg=>(h.old i g hi hg).keep rfl rfl rfl rfl rfl fun _=>.at _ w d,h.above,h.chan,h.nochan,h.heap,h.tr⟩
theorem oV.lt (h:oV P c s gs a w t):0<gs.size:=(Array.getElem?_eq_some_iff.1 h.zero).1
theorem oV.relied (h:oV P c s gs a w t) (hi:i=0\/s.act gs.size i) (hj:j=0\/s.act gs.size j) (hij:i≠j) (hg:BI (s.wr i) w w'):dn c (sK (s.D j) (s.wr j)) w w':=by
 refine⟨hg.size,fun b hb=>.inl (hg.keep b (h.tr.low j b hj hb) fun hw=>?_),hg.tape,hg.os,hg.output⟩;have:=h.tr.sep i j b hi hj hij hw;exact hb.elim this.1 this.2
theorem oV.SX (h:oV P c s gs a w t) (hi:i=0\/s.act gs.size i) (hg:BI (s.wr i) w w'):∃ k,w'.heap[c]? = some (.chan 0 #[] false k k false):=by
 obtain⟨k,hk⟩:=h.chan;exact⟨k,(hg.keep c (Array.getElem?_eq_some_iff.1 hk).1 (h.nochan i hi)).trans hk⟩
theorem KO (f:Goroutine->Goroutine) (hij:i≠j) (h:((gs.map f).setIfInBounds i g')[j]? = some x):∃ y,gs[j]? = some y/\x=f y:=by
 rw[Array.getElem?_setIfInBounds_ne hij,Array.getElem?_map]at h;obtain⟨y,h1,h2⟩:=Option.map_eq_some_iff.1 h;exact⟨y,h1,h2.symm⟩
theorem oV.step (h:oV P c s gs a w t) (hi:i=0\/s.act gs.size i) {wr':Nat->Prop} {x:WK} (hgi:gs[i]? = some g) (hx:i≠0->x.busy=true)
 (hev:∀ e∈es,Ae (s.D i) wr' e) (hg:BI (s.wr i) w w') (hgr:Ic (s.wr i) wr' w w') (hm:i≠0->Main c a) (fn:FuncId) (pos:String)
 (hok:i≠0->qc P c { s with K:=upd s.K i x,wr:=upd s.wr i wr' } i g' w' (t ++ MemOp.ofEvents i fn pos es)) :
  oV P c {s with K:=if i=0 then s.K else upd s.K i x,wr:=upd s.wr i wr'} ((gs.map (woken P g g' w')).setIfInBounds i g') (if i=0 then g' else a) w' (t ++ MemOp.ofEvents i fn pos es):=by
 have hlt:i<gs.size:=(Array.getElem?_eq_some_iff.1 hgi).1;have hu:∀ op∈MemOp.ofEvents i fn pos es,op.g=i:=fun op hop=>by obtain⟨e,_,rfl⟩:=Go.Conc.mem_ofEvents hop;rfl
 have hch:=h.SX hi hg;have hsz:((gs.map (woken P g g' w')).setIfInBounds i g').size=gs.size:=by simp
 have hbusy:∀ j,((if i=0 then s.K else upd s.K i x) j).busy=(s.K j).busy\/(i=j/\i=0):=by
  intro j;by_cases h0:i=0
  ·rw[if_pos h0];exact .inl rfl
  ·rw [if_neg h0];by_cases e:j=i
   ·subst e;rw [upd_same,hx h0];rcases hi with hi | hi
    ·exact(h0 hi).elim
    ·exact .inl hi.2.2.symm
   ·rw[upd_ne _ _ e];exact .inl rfl
 have hact:∀ j,Sit.act {s with K:=if i=0 then s.K else upd s.K i x,wr:=upd s.wr i wr'} gs.size j↔s.act gs.size j:=by
  intro j;unfold Sit.act;dsimp only;constructor
  ·rintro ⟨h1,h2,h3⟩;rcases hbusy j with h4 | ⟨h4,h5⟩
   ·exact⟨h1,h2,h4 ▸ h3⟩
   ·omega
  ·rintro ⟨h1,h2,h3⟩;rcases hbusy j with h4 | ⟨h4,h5⟩
   ·exact⟨h1,h2,h4.trans h3⟩
   ·omega
 refine⟨?_,fun j y hj hy=>?_,fun j hj=>?_,hch,fun j hj=>?_,hg.okh _ h.heap,?_⟩
 ·by_cases h0:i=0
  ·subst h0;simp[hlt]
  ·rw[if_neg h0,Array.getElem?_setIfInBounds_ne h0,Array.getElem?_map,h.zero];exact congrArg some (Dj (hm h0) hch)
 ·by_cases e:i=j
  ·subst e;have h0:i≠0:=by omega
   rw[Array.getElem?_setIfInBounds_self_of_lt (by simpa using hlt)]at hy;cases hy;have:=hok h0;rw[if_neg h0];exact this
  ·obtain ⟨z,hz,rfl⟩:=KO _ e hy;have hz':=h.old j z hj hz;rw [EL hz' hch];refine hz'.keep ?_ rfl (upd_ne _ _ (Ne.symm e)) rfl (Deaf_other t e _ hu) fun hb=>h.relied hi (.inr ⟨hj,(Array.getElem?_eq_some_iff.1 hz).1,hb⟩) e hg
   dsimp only;by_cases h0:i=0
   ·rw[if_pos h0]
   ·rw[if_neg h0,upd_ne _ _ (Ne.symm e)]
 ·rw[hsz]at hj;rw[Deaf_other t (by omega) _ hu];exact h.above j hj
 ·rw [hsz] at hj;dsimp only;rw [hact] at hj;by_cases e:j=i
  ·subst e;rw [upd_same];intro hb;rcases hgr.fresh c hb with h1 | ⟨h1,_⟩
   ·exact h.nochan j hj h1
   ·obtain⟨k,hk⟩:=h.chan;have:=(Array.getElem?_eq_some_iff.1 hk).1;omega
  ·rw[upd_ne _ _ e];exact h.nochan j hj
 ·rw [hsz];have:=h.tr.own hi hev hgr.le hgr.fresh hg.size fn pos;have e:s.act gs.size=Sit.act { s with K:=if i=0 then s.K else upd s.K i x,wr:=upd s.wr i wr' } gs.size:=by funext j;exact (propext (hact j)).symm
  rw[<- e];exact this
theorem oV.slip (h:oV P c s gs a w t) (hi:0<i) (hgi:gs[i]? = some g) (hK:s.K i=.leave (q+1)) (hm:∀ e∈es,e.mute=true) (ha:Main c a) (fn:FuncId) (pos:String)
 (hq:QuitsD P q (deafBehind (Deaf t i) es) g') :
  oV P c {s with K:=upd s.K i (.leave q)} ((gs.map (woken P g g' w)).setIfInBounds i g') a w (t ++ MemOp.ofEvents i fn pos es):=by
 have hlt:i<gs.size:=(Array.getElem?_eq_some_iff.1 hgi).1;have hu:∀ op∈MemOp.ofEvents i fn pos es,op.g=i:=fun op hop=>by obtain⟨e,_,rfl⟩:=Go.Conc.mem_ofEvents hop;rfl
 have hsz:((gs.map (woken P g g' w)).setIfInBounds i g').size=gs.size:=by simp
 have hact:∀ j,Sit.act {s with K:=upd s.K i (.leave q)} gs.size j↔s.act gs.size j:=by
  intro j;unfold Sit.act;dsimp only;by_cases e:j=i
  ·subst e;rw[upd_same,hK];exact Iff.rfl
  ·rw[upd_ne _ _ e]
 refine⟨?_,fun j y hj hy=>?_,fun j hj=>?_,h.chan,fun j hj=>?_,h.heap,?_⟩
 ·have h0:i≠0:=by omega
  rw[Array.getElem?_setIfInBounds_ne h0,Array.getElem?_map,h.zero];exact congrArg some (Dj ha h.chan)
 ·by_cases e:i=j
  ·subst e;rw[Array.getElem?_setIfInBounds_self_of_lt (by simpa using hlt)]at hy;cases hy;unfold qc;simp only[upd_same];rw[Deaf_own];exact hq
  ·obtain⟨z,hz,rfl⟩:=KO _ e hy;have hz':=h.old j z hj hz;rw[EL hz' h.chan];exact hz'.keep (upd_ne _ _ (Ne.symm e)) rfl rfl rfl (Deaf_other t e _ hu) fun _=>.refl _ w
 ·rw[hsz]at hj;rw[Deaf_other t (by omega) _ hu];exact h.above j hj
 ·rw[hsz]at hj;rw[hact]at hj;exact h.nochan j hj
 ·rw [hsz];have e:s.act gs.size=Sit.act { s with K:=upd s.K i (.leave q) } gs.size:=by funext j;exact (propext (hact j)).symm
  rw[<- e];refine h.tr.P6 ⟨by omega,fun hA=>?_⟩ hm fn pos;have:=hA.2.2;rw[hK]at this;cases this
theorem oV.QL (h:oV P c s gs a w t) (hi:s.act gs.size i) {g₂:Goroutine} {z:Value} (hgi:gs[i]? = some g) (hev:∀ e∈es,Ae (s.D i) (s.wr i) e) (hq:∃ q,QuitsD P q 0 (Conc.served g₂ undef)) (fn:FuncId) (pos:String) :
  oV P c {s with K:=upd s.K i .sit} (gs.setIfInBounds i (parked g₂ #[scase c (s.val i) z] .send)) a w (t ++ MemOp.ofEvents i fn pos es):=by
 have hlt:i<gs.size:=(Array.getElem?_eq_some_iff.1 hgi).1;have hu:∀ op∈MemOp.ofEvents i fn pos es,op.g=i:=fun op hop=>by obtain⟨e,_,rfl⟩:=Go.Conc.mem_ofEvents hop;rfl
 have hsz:(gs.setIfInBounds i (parked g₂ #[scase c (s.val i) z] .send)).size=gs.size:=by simp
 have h0:i≠0:=by have:=hi.1;omega
 have hact:∀ j,Sit.act {s with K:=upd s.K i .sit} gs.size j↔s.act gs.size j:=by
  intro j;unfold Sit.act;dsimp only;by_cases e:j=i
  ·subst e;rw[upd_same,hi.2.2];exact Iff.rfl
  ·rw[upd_ne _ _ e]
 have hown:=h.tr.own (.inr hi) hev (fun _ h=>h) (fun _ h=>.inl h) (Nat.le_refl _) fn pos;have hwr:upd s.wr i (s.wr i)=s.wr:=by
  funext j;by_cases e:j=i
  ·subst e;rw[upd_same]
  ·rw[upd_ne _ _ e]
 rw[hwr]at hown;refine⟨?_,fun j y hj hy=>?_,fun j hj=>?_,h.chan,fun j hj=>?_,h.heap,?_⟩
 ·rw[Array.getElem?_setIfInBounds_ne h0];exact h.zero
 ·by_cases e:i=j
  ·subst e;rw[Array.getElem?_setIfInBounds_self_of_lt hlt]at hy;cases hy;unfold qc;simp only[upd_same];exact⟨g₂,z,rfl,hq⟩
  ·rw[Array.getElem?_setIfInBounds_ne e]at hy;exact(h.old j y hj hy).keep (upd_ne _ _ (Ne.symm e)) rfl rfl rfl (Deaf_other t e _ hu) fun _=>.refl _ w
 ·rw[hsz]at hj;rw[Deaf_other t (by omega) _ hu];exact h.above j hj
 ·rw[hsz]at hj;rw[hact]at hj;exact h.nochan j hj
 ·rw [hsz];have e:s.act gs.size=Sit.act { s with K:=upd s.K i .sit } gs.size:=by funext j;exact (propext (hact j)).symm
  rw[<- e];exact hown
theorem oV.met (h:oV P c s gs a w t) (hj:s.act gs.size j) {a':Goroutine} {k cap:Nat} (hq:QuitsD P q 0 g') (fj:FuncId) (pj:String) (f0:FuncId) (p0:String) (k':Nat) (gs':Array Goroutine) (hsz:gs'.size=gs.size)
 (h0:gs'[0]? = some a') (hgj:gs'[j]? = some g') (hoth:∀ i,i≠0->i≠j->gs'[i]? = gs[i]?) (d:Nat) (w':World) (hw':w'=(w.at d).setChan c 0 #[] false k' k' false) :
  oV P c {s with K:=upd s.K j (.leave q)} gs' a' w' (t ++ Conc.met j 0 fj pj f0 p0 c k cap):=by
 have hj0:j≠0:=by have:=hj.1;omega
 have hdeaf:∀ g,Deaf (t ++ Conc.met j 0 fj pj f0 p0 c k cap) g=Deaf t g:=fun g=>Deaf_quiet (met_quiet j 0 fj pj f0 p0 c k cap g)
 have hact:∀ i,Sit.act {s with K:=upd s.K j (.leave q)} gs.size i↔(s.act gs.size i/\i≠j):=by
  intro i;unfold Sit.act;dsimp only;by_cases e:i=j
  ·subst e;rw[upd_same];simp[WK.busy]
  ·rw[upd_ne _ _ e];simp[e]
 obtain⟨k0,hk0⟩:=h.chan;have hclt:=(Array.getElem?_eq_some_iff.1 hk0).1;have hsame:∀ b,b≠c->w'.heap[b]? = w.heap[b]?:=by
  intro b hb;subst hw';show(w.heap.setIfInBounds c _)[b]? = _;rw[Array.getElem?_setIfInBounds_ne (Ne.symm hb)]
 have hcc:w'.heap[c]? = some (.chan 0 #[] false k' k' false):=by
  subst hw';show(w.heap.setIfInBounds c _)[c]? = _;rw[Array.getElem?_setIfInBounds_self_of_lt hclt]
 have hsize:w'.heap.size=w.heap.size:=by
  subst hw';show(w.heap.setIfInBounds c _).size=_;simp
 have hrel:∀ rd,dn c rd w w':=fun rd=>⟨by omega,fun b _=>by
  by_cases e:b=c
  ·subst e;exact .inr ⟨rfl,_,_,hk0,hcc,rfl,rfl⟩
  ·exact .inl (hsame b e),by subst hw';rfl,by subst hw';rfl,by subst hw';rfl⟩
 refine⟨h0,fun i y hi hy=>?_,fun i hi=>?_,⟨k',hcc⟩,fun i hi=>?_,?_,?_⟩
 ·by_cases e:i=j
  ·subst e;rw[hgj]at hy;cases hy;unfold qc;simp only[upd_same];rw[hdeaf,h.tr.hears i (.inr hj)];exact hq
  ·rw[hoth i (by omega) e]at hy;exact(h.old i y hi hy).keep (upd_ne _ _ e) rfl rfl rfl (hdeaf i) fun _=>hrel _
 ·rw[hdeaf];exact h.above i (by rw[hsz]at hi;exact hi)
 ·rw[hsz]at hi;rw[hact]at hi;exact h.nochan i (hi.imp id (·.1))
 ·intro i o ho;by_cases e:i=c
  ·subst e;rw[hcc]at ho;cases ho;exact⟨rfl,rfl,rfl⟩
  ·rw[hsame i e]at ho;exact h.heap i o ho
 ·rw [hsz,hsize];have e:(fun g=>s.act gs.size g/\g≠j)=Sit.act { s with K:=upd s.K j (.leave q) } gs.size:=by funext i;exact (propext (hact i)).symm
  rw[<- e];exact h.tr.meet hj hj0 fj pj f0 p0 c k cap
end
structure Like (s s':Sit):Prop where
 D:s'.D=s.D
 val:s'.val=s.val
 wr0:s'.wr 0=s.wr 0
 busy:∀ j,(s'.K j).busy=(s.K j).busy
theorem Like.refl (s:Sit):Like s s:=⟨rfl,rfl,rfl,fun _=>rfl⟩
theorem Like.trans {s s' s'':Sit} (h:Like s s') (h':Like s' s''):Like s s'':=⟨h'.D.trans h.D,h'.val.trans h.val,h'.wr0.trans h.wr0,fun j=>(h'.busy j).trans (h.busy j)⟩
def iM (s:Sit) (n:Nat):List Value:=((List.range n).filter fun i=>decide (0<i) && (s.K i).busy).map s.val
theorem Like.pend {s s':Sit} (h:Like s s') (n:Nat):iM s' n=iM s n:=by
 unfold iM;rw[h.val];congr 1;apply List.filter_congr;intro i _;rw[h.busy i]
theorem rY (s:Sit) (n:Nat):iM s (n+1)=iM s n ++ (if 0<n/\(s.K n).busy=true then[s.val n] else[]):=by
 unfold iM;rw[List.range_succ,List.filter_append,List.map_append];congr 1;by_cases h:0<n/\(s.K n).busy=true
 ·simp[h]
 ·rw [if_neg h];have:(decide (0 < n) && (s.K n).busy)=false:=by
   cases hb:(decide (0<n) && (s.K n).busy)with
   |false=>rfl
   |true=>simp only[Bool.and_eq_true,decide_eq_true_eq]at hb;exact(h hb).elim
  simp[this]
theorem akW {s s':Sit} {n:Nat} (h:∀ i,i<n->(s'.K i).busy=(s.K i).busy/\s'.val i=s.val i):iM s' n=iM s n:=by
 induction n with
 |zero=>rfl
 |succ n ih =>
  rw[rY,rY,ih fun i hi=>h i (by omega),(h n (by omega)).1,(h n (by omega)).2]
theorem zT {s:Sit} {i q:Nat}:∀ {n:Nat},s.act n i->(iM s n).Perm (s.val i::iM {s with K:=upd s.K i (.leave q)} n)
 |0,h=>by have:=h.2.1;omega
 | n+1,h=>by
  rw[rY,rY];by_cases e:i=n
  ·subst e;rw [if_pos ⟨h.1,h.2.2⟩];have h1:iM { s with K:=upd s.K i (.leave q) } i=iM s i:=akW fun j hj=>⟨by show (upd s.K i _ j).busy=_;rw [upd_ne _ _ (by omega)],rfl⟩
   have h2:¬ (0<i/\(upd s.K i (WK.leave q) i).busy=true):=by rw[upd_same];simp[WK.busy]
   rw[if_neg h2,h1,List.append_nil];exact List.perm_append_singleton _ _
  ·have hlt:i < n:=by have:=h.2.1;omega
   have ih:=zT (q:=q) (n:=n) ⟨h.1,hlt,h.2.2⟩;have h3:(upd s.K i (WK.leave q) n)=s.K n:=upd_ne _ _ (Ne.symm e);simp only[h3];exact(ih.append_right _)
section
variable {gs:Array Goroutine} {w:World} {sl:Option (Nat × Nat)} {Q:Sit->Array Goroutine->Goroutine->World->Prop} {s:Sit} {a:Goroutine} {i:Nat} {K:Nat->WK} {x:WK}
variable {P:Program} {c:Nat}
def Out (P:Program) (c:Nat) (gs:Array Goroutine) (w:World) (sl:Option (Nat × Nat)) (t:Trace) (Q:Sit->Array Goroutine->Goroutine->World->Prop):Prop :=
 ∃ N s' gs' a' w' sl' t',runNT P N (crowd gs w sl) t=(.next (crowd gs' w' sl'),t')/\oV P c s' gs' a' w' t'/\Q s' gs' a' w'
theorem Out.step {gs':Array Goroutine} {w':World} {sl':Option (Nat × Nat)} {t:Trace} {u:Array MemOp} (h:stepT P (crowd gs w sl)=(.next (crowd gs' w' sl'),u)) (ho:Out P c gs' w' sl' (t ++ u) Q) :
  Out P c gs w sl t Q:=by
 obtain⟨N,s1,gs1,a1,w1,sl1,t1,h1,h2,h3⟩:=ho;refine⟨N+1,s1,gs1,a1,w1,sl1,t1,?_,h2,h3⟩;simp only[runNT,h];exact h1
theorem BX {t:Trace} (h:oV P c s gs a w t) (ha:a.status=.running) (i:Nat):partners (gs.setIfInBounds i ph) c false=[]:=by
 refine partners_nil fun j g hj=>?_
 rcases getElem?_stand gs i j g hj with⟨_,rfl⟩|⟨_,hg⟩
 ·exact offersAt_ph _ _
 ·rcases Nat.eq_zero_or_pos j with rfl | hpos
  ·rw[h.zero]at hg;cases hg;exact offersAt_of_not_blocked (by rw[ha];simp) _ _
  ·have:=h.old j g hpos hg;unfold qc at this;cases hK:s.K j with
   |leave q =>
    rw[hK]at this;have hs:=QuitsD.status this;refine offersAt_of_not_blocked (fun e=>?_) _ _;rcases hs with hs|hs<;>rw[e]at hs<;>cases hs
   |work τ =>
    rw[hK]at this;obtain⟨fr,mine,rfl,_⟩:=this;exact offersAt_of_not_blocked (by simp[G]) _ _
   |sit =>
    rw[hK]at this;obtain⟨g₂,z,rfl,_⟩:=this;exact offersAt_parked_send' _ _ _ _ _ _
theorem AA {a₂:Goroutine} {z:Value} {t:Trace} (h:oV P c s gs (parked a₂ #[rcase c z] (.recv false)) w t) (hi:i≠0):partners (gs.setIfInBounds i ph) c false=[(0,0)]:=by
 have h0:(gs.setIfInBounds i ph)[0]? = some (parked a₂ #[rcase c z] (.recv false)):=by rw[Array.getElem?_setIfInBounds_ne hi];exact h.zero
 rw[partners_one h0 fun j g hj hg=>?_,offersAt_parked_recv]
 ·simp
 ·rcases getElem?_stand gs i j g hg with ⟨_,rfl⟩ | ⟨_,hg⟩
  ·exact offersAt_ph _ _
  ·have hpos:0 < j:=by omega
   have:=h.old j g hpos hg;unfold qc at this;cases hK:s.K j with
   |leave q =>
    rw[hK]at this;have hs:=QuitsD.status this;refine offersAt_of_not_blocked (fun e=>?_) _ _;rcases hs with hs|hs<;>rw[e]at hs<;>cases hs
   |work τ =>
    rw[hK]at this;obtain⟨fr,mine,rfl,_⟩:=this;exact offersAt_of_not_blocked (by simp[G]) _ _
   |sit =>
    rw[hK]at this;obtain⟨g₂,z,rfl,_⟩:=this;exact offersAt_parked_send' _ _ _ _ _ _
theorem QG.parts {D:Nat->Prop} {Stop:vO} {τ:Tr} {wr:Nat->Prop} {fr:Frame} {mine:List Frame} (h:QG P c D Stop τ wr fr mine w) :
  Stop wr fr mine w\/∃ τ',LZ (.work τ') (.work τ)/\BH P D wr (QG P c D Stop τ') fr mine w:=by
 cases τ with
 |leaf=>exact .inl (h w (.refl _ w))
 |node f =>
  rcases h w (.refl _ w)with h|h
  ·exact .inl h
  ·exact .inr ⟨_,.node f w,h⟩
theorem Eu (h:x.busy=(K i).busy) (j:Nat):(upd K i x j).busy=(K j).busy:=by
 by_cases e:j=i
 ·subst e;rw[upd_same];exact h
 ·rw[upd_ne _ _ e]
theorem QZ (h:x≠.sit) (j:Nat) (hj:upd K i x j=.sit):K j=.sit:=by
 by_cases e:j=i
 ·subst e;rw[upd_same]at hj;exact(h hj).elim
 ·rwa [upd_ne _ _ e]at hj
theorem wZ {b:Goroutine} {cs cs':Array CommCase} {sh sh':CommShape} (h:parked a cs sh=parked b cs' sh') (v:Value):Conc.served a v=Conc.served b v:=by
 simp only[parked,Goroutine.mk.injEq]at h;obtain⟨e1,e2,_,e4,_⟩:=h;cases a;cases b;dsimp only at e1 e2 e4;subst e1 e2 e4;rfl
theorem D7 {g:Goroutine} {t:Trace} (h:oV P c s gs a w t) (ha:Main c a) (hi:0<i) (hgi:gs[i]? = some g) (hrun:g.status=.running) :
  ∃ gs' w' u,runT P (crowd gs w sl) i=(.next (crowd gs' w' sl),u)/\gs'.size=gs.size/\dn c (sK (s.D 0) (s.wr 0)) w w' /\
   ((∃ s',oV P c s' gs' a w' (t ++ u)/\Like s s'/\Dec gs.size s'.K s.K/\(a.status=.running\/∀ j,s'.K j=.sit->s.K j=.sit)) \/
    (∃ a₂ z q,a=parked a₂ #[rcase c z] (.recv false)/\s.act gs.size i/\oV P c {s with K:=upd s.K i (.leave q)} gs' (Conc.served a₂ (s.val i)) w' (t ++ u))):=by
 have hi0:(i == 0)=false:=by simp;omega
 have hne:i≠0:=by omega
 have hlt:i<gs.size:=(Array.getElem?_eq_some_iff.1 hgi).1;have hold:=h.old i g hi hgi;unfold qc at hold;cases hK:s.K i with
 | leave q =>
  rw[hK]at hold;have hold':QuitsD P q (Deaf t i) g:=hold;cases q with
  |zero=>rw[hold'.1]at hrun;cases hrun
  |succ q =>
   rcases hold' with⟨hf,_⟩|⟨_,g',es,hm,hst,hq⟩
   ·rw[hf]at hrun;cases hrun
   refine⟨_,_,_,runT_crowd_go hgi (by rw[hi0];exact hst w),by simp,.refl _ w,.inl ⟨{s with K:=upd s.K i (.leave q)},h.slip hi hgi hK hm ha _ _ hq,⟨rfl,rfl,rfl,Eu (by rw[hK];rfl)⟩,⟨i,_,hlt,rfl,by rw[hK];exact .leave q⟩,.inr (QZ (by simp))⟩⟩
 |sit =>
  rw[hK]at hold;obtain⟨g₂,z,rfl,_⟩:=hold;cases hrun
 | work τ =>
  rw[hK]at hold;obtain⟨fr,mine,rfl,hwt⟩:=hold;have hact:s.act gs.size i:=⟨hi,hlt,by rw[hK];rfl⟩;rcases hwt.parts with hstop|⟨τ',hltτ,fr',mine',w',es,wr',hst,hev,hg,hgr,hk⟩
  ·obtain ⟨g₂,z,es,hst,hev,hq⟩:=hstop;have hst':stepG P (i == 0) (G fr mine) w=.comm g₂ #[scase c (s.val i) z] true .send w es:=by rw [hi0];exact hst
   obtain⟨k,hk⟩:=h.chan;rcases ha with ha|⟨a₂,z',rfl⟩
   ·have hp:=BX h ha i;refine⟨_,_,_,crowd_waits hgi hst' (fun cc hcc=>?_),by simp,.refl _ w,.inl ⟨{s with K:=upd s.K i .sit},h.QL hact hgi hev hq _ _,⟨rfl,rfl,rfl,Eu (by rw[hK];rfl)⟩,⟨i,_,hlt,rfl,by rw[hK];exact .sit τ⟩,.inl ha⟩⟩;simp only[List.mem_toArray,List.mem_singleton]at hcc;subst hcc;exact ways_send_none hk (Nat.zero_le _) hp
   ·have hp:=AA h hne;have hrunT:=crowd_send_meets (P:=P) (sl:=sl) hgi hst' hk (j:=0) (gj:=a₂) (shj:=.recv false) (zj:=z') (by omega) h.zero hp;obtain ⟨q,hq⟩:=hq;have hown:=h.QL hact (g₂:=g₂) (z:=z) hgi hev ⟨q,hq⟩ (G fr mine).frame.fn (G fr mine).frame.place;refine ⟨_,_,_,hrunT,by simp,?_,.inr ⟨a₂,z',q,rfl,hact,?_⟩⟩
    ·refine ⟨by show w.heap.size<=(w.heap.setIfInBounds c _).size;simp,fun b _=>?_,rfl,rfl,rfl⟩;by_cases e:b=c
     ·subst e;refine .inr ⟨rfl,_,.chan 0 #[] false (k+1) (k+1) false,hk,?_,rfl,rfl⟩;show(w.heap.setIfInBounds b _)[b]? = _;rw[Array.getElem?_setIfInBounds_self_of_lt (Array.getElem?_eq_some_iff.1 hk).1]
     ·refine .inl ?_;show(w.heap.setIfInBounds c _)[b]? = _;rw[Array.getElem?_setIfInBounds_ne (Ne.symm e)]
    ·have hmet:=hown.met (j:=i) (a':=Conc.served a₂ (s.val i)) (g':=Conc.served g₂ undef) (q:=q) (k:=k) (cap:=0)
      ⟨hi,by simpa using hlt,by show(upd s.K i WK.sit i).busy=true;rw[upd_same];rfl⟩ hq g₂.frame.fn g₂.frame.place a₂.frame.fn a₂.frame.place (k+1)
      ((gs.setIfInBounds 0 (Conc.served a₂ (s.val i))).setIfInBounds i (Conc.served g₂ undef)) (by simp) (by rw[Array.getElem?_setIfInBounds_ne hne];simp[h.lt]) (by simp[hlt])
      (fun x hx0 hxi=>by rw[Array.getElem?_setIfInBounds_ne (Ne.symm hxi),Array.getElem?_setIfInBounds_ne (Ne.symm hx0),Array.getElem?_setIfInBounds_ne (Ne.symm hxi)]) w.drawn _ rfl
     have eK:upd (upd s.K i WK.sit) i (WK.leave q)=upd s.K i (WK.leave q):=by
      funext x;by_cases e:x=i
      ·subst e;rw[upd_same,upd_same]
      ·rw[upd_ne _ _ e,upd_ne _ _ e,upd_ne _ _ e]
     rw[Array.append_assoc]at hmet;simp only[eK]at hmet;exact hmet
  ·have hst':=hst false [];simp only [List.append_nil] at hst';have hstep:=h.step (.inr hact) (g':=G fr' mine') (x:=.work τ') hgi (fun _=>rfl) hev hg hgr (fun _=>ha) (G fr mine).frame.fn (G fr mine).frame.place (fun _=>by
    unfold qc;simp only[upd_same];exact⟨fr',mine',rfl,hk⟩)
   simp only[hne,if_false]at hstep;refine⟨_,_,_,runT_crowd_go hgi (by rw[hi0];exact hst'),by simp,h.relied (.inr hact) (.inl rfl) hne hg,.inl ⟨_,hstep,⟨rfl,rfl,upd_ne _ _ (Ne.symm hne),Eu (by rw[hK];rfl)⟩,⟨i,_,hlt,rfl,by rw[hK];exact hltτ⟩,.inr (QZ (by simp))⟩⟩
theorem all_awake {t:Trace} (h:oV P c s gs a w t) (ha:Main c a):∀ g∈gs,awake g:=by
 intro g hg;obtain⟨i,hi,rfl⟩:=Array.mem_iff_getElem.1 hg;rcases Nat.eq_zero_or_pos i with rfl|hpos
 ·have:gs[0]=a:=by simpa [Array.getElem?_eq_getElem hi] using h.zero
  rw[this];rcases ha with ha|⟨a₂,z,rfl⟩
  ·exact awake_of (.inl ha)
  ·exact awake_of (.inr (.inl rfl))
 ·have:=h.old i _ hpos (Array.getElem?_eq_getElem hi);unfold qc at this;cases hK:s.K i with
  |leave q=>rw[hK]at this;exact awake_of ((QuitsD.status this).elim .inl fun x=>.inr (.inr x))
  |work τ=>rw[hK]at this;obtain⟨fr,mine,e,_⟩:=this;rw[e];exact awake_of (.inl rfl)
  |sit=>rw[hK]at this;obtain⟨g₂,z,e,_⟩:=this;rw[e];exact awake_of (.inr (.inl rfl))
theorem AY {a:Goroutine} (ha:a.status=.running) {Q:Sit->Array Goroutine->Goroutine->World->Prop} {s0:Sit} {n:Nat} {w0:World} (E:World->Prop)
  (he:∀ s gs w sl t,oV P c s gs a w t->Like s0 s->gs.size=n->dn c (sK (s0.D 0) (s0.wr 0)) w0 w->E w->Out P c gs w sl t Q)
  (hm:∀ s gs w sl t d,oV P c s gs a (w.at d) t->Like s0 s->gs.size=n->dn c (sK (s0.D 0) (s0.wr 0)) w0 (w.at d)->¬ E w->∃ gs' w' u,runT P (crowd gs (w.at d) sl) 0=(.next (crowd gs' w' sl),u)/\Out P c gs' w' sl (t ++ u) Q) :
  ∀ s gs w sl t,oV P c s gs a w t->Like s0 s->gs.size=n->dn c (sK (s0.D 0) (s0.wr 0)) w0 w->Out P c gs w sl t Q:=by
 have key:∀ K:Nat->WK,∀ s gs w sl t,s.K=K->oV P c s gs a w t->Like s0 s->gs.size=n->dn c (sK (s0.D 0) (s0.wr 0)) w0 w->Out P c gs w sl t Q:=by
  intro K
  induction K using(dec_wf n).induction with
  | _ K ih =>
   intro s gs w sl t hK h hL hn hr;by_cases hE:E w
   ·exact he s gs w sl t h hL hn hr hE
   obtain⟨i,g,d,sl',hi,hg,hst⟩:=crowd_pick (P:=P) (w:=w) (sl:=sl) (all_awake h (.inl ha)) ⟨0,a,h.zero,ha⟩;rcases Nat.eq_zero_or_pos i with rfl|hpos
   ·obtain⟨gs',w',u,h1,h2⟩:=hm s gs w sl' t d (h.at d) hL hn (hr.trans (.at _ w d)) hE;exact .step (hst.trans h1) h2
   ·obtain ⟨gs',w',u,h1,h2,h3,h4⟩:=D7 (sl:=sl') (h.at d) (.inl ha) hpos hi hg;rw [hL.D,hL.wr0] at h3;rcases h4 with ⟨s',h5,h6,h7,_⟩ | ⟨a₂,z,q,h5,_⟩
    ·exact .step (hst.trans h1) (ih s'.K (by rw[<- hK,<- hn];exact h7) s' gs' w' sl' _ rfl h5 (hL.trans h6) (h2.trans hn) ((hr.trans (.at _ w d)).trans h3))
    ·rw[h5]at ha;cases ha
 exact fun s gs w sl t=>key s.K s gs w sl t rfl
theorem Fa (ha:a.status=.running) {s0:Sit} {n:Nat} {w0:World}
 (hm:∀ s gs w sl t,oV P c s gs a w t->Like s0 s->gs.size=n->dn c (sK (s0.D 0) (s0.wr 0)) w0 w->∃ gs' w' u,runT P (crowd gs w sl) 0=(.next (crowd gs' w' sl),u)/\Out P c gs' w' sl (t ++ u) Q) :
  ∀ s gs w sl t,oV P c s gs a w t->Like s0 s->gs.size=n->dn c (sK (s0.D 0) (s0.wr 0)) w0 w->Out P c gs w sl t Q :=
 AY ha (fun _=>False) (fun _ _ _ _ _ _ _ _ _ h=>h.elim) fun s gs w sl t d h hL hn hr _=>hm s gs (w.at d) sl t h hL hn hr
theorem OT {a₂:Goroutine} {z:Value} {Q:Sit->Array Goroutine->Goroutine->World->Prop} {s0:Sit} {n:Nat} {w0:World} (hsome:∃ i,s0.act n i)
  (hm:∀ s i q gs w sl t,s.act n i->Like s0 s->gs.size=n->dn c (sK (s0.D 0) (s0.wr 0)) w0 w->oV P c {s with K:=upd s.K i (.leave q)} gs (Conc.served a₂ (s.val i)) w t->Out P c gs w sl t Q) :
  ∀ s gs w sl t,oV P c s gs (parked a₂ #[rcase c z] (.recv false)) w t->(∀ i,0<i->i<n->s.K i≠.sit)->Like s0 s->gs.size=n->dn c (sK (s0.D 0) (s0.wr 0)) w0 w->Out P c gs w sl t Q:=by
 have ha:Main c (parked a₂ #[rcase c z] (.recv false)):=.inr ⟨a₂,z,rfl⟩;have key:∀ K:Nat->WK,∀ s gs w sl t,s.K=K->oV P c s gs (parked a₂ #[rcase c z] (.recv false)) w t->(∀ i,0<i->i<n->s.K i≠.sit)->Like s0 s->gs.size=n->dn c (sK (s0.D 0) (s0.wr 0)) w0 w->Out P c gs w sl t Q:=by
  intro K
  induction K using(dec_wf n).induction with
  | _ K ih =>
   intro s gs w sl t hK h hns hL hn hr;have hex:∃ (i:Nat) (g:Goroutine),gs[i]? = some g/\g.status=.running:=by
    obtain⟨i,h1,h2,h3⟩:=hsome;have hlt:i<gs.size:=by omega
    have:=h.old i gs[i] h1 (Array.getElem?_eq_getElem hlt);unfold qc at this;cases hKi:s.K i with
    |leave q=>rw[<- hL.busy,hKi]at h3;cases h3
    |sit=>exact(hns i h1 h2 hKi).elim
    |work τ =>
     rw[hKi]at this;obtain⟨fr,mine,e,_⟩:=this;exact⟨i,gs[i],Array.getElem?_eq_getElem hlt,by rw[e];rfl⟩
   obtain⟨i,g,d,sl',hi,hg,hst⟩:=crowd_pick (P:=P) (w:=w) (sl:=sl) (all_awake h ha) hex;rcases Nat.eq_zero_or_pos i with rfl|hpos
   ·rw[h.zero]at hi;cases hi;cases hg
   ·obtain ⟨gs',w',u,h1,h2,h3,h4⟩:=D7 (sl:=sl') (h.at d) ha hpos hi hg;rw [hL.D,hL.wr0] at h3;rcases h4 with ⟨s',h5,h6,h7,h8⟩ | ⟨b₂,z',q,h5,h6,h7⟩
    ·refine .step (hst.trans h1) (ih s'.K (by rw [<- hK,<- hn];exact h7) s' gs' w' sl' _ rfl h5 (fun j hj0 hj hsit=>?_) (hL.trans h6) (h2.trans hn) ((hr.trans (.at _ w d)).trans h3));rcases h8 with h8 | h8
     ·cases h8
     ·exact hns j hj0 hj (h8 j hsit)
    ·rw[<- wZ h5]at h7;rw[hn]at h6;exact .step (hst.trans h1) (hm s i q gs' w' sl' _ h6 hL (h2.trans hn) ((hr.trans (.at _ w d)).trans h3) h7)
 exact fun s gs w sl t=>key s.K s gs w sl t rfl
end
abbrev wY:=(Nat->Prop)->(Nat->Prop)->List Value->Goroutine->World->Prop
def oK (P:Program) (c:Nat) (D0 wr0:Nat->Prop) (vs:List Value) (a:Goroutine) (w:World) (Q:wY):Prop :=
 ∀ s gs sl t w1,dn c (sK D0 wr0) w w1->oV P c s gs a w1 t->s.D 0=D0->s.wr 0=wr0->(iM s gs.size).Perm vs ->
  Out P c gs w1 sl t fun s' gs' a' w'=>∃ vs',(iM s' gs'.size).Perm vs'/\Q (s'.D 0) (s'.wr 0) vs' a' w'
section
variable {s:Sit} {gs:Array Goroutine}
variable {P:Program} {c:Nat} {D0 wr0:Nat->Prop} {vs:List Value} {a:Goroutine} {w:World} {Q Q':wY}
theorem oK.mono (h:oK P c D0 wr0 vs a w Q) (hq:∀ D wr vs a w,Q D wr vs a w->Q' D wr vs a w):oK P c D0 wr0 vs a w Q':=by
 intro s gs sl t w1 hr hp h1 h2 h3;obtain⟨N,s',gs',a',w',sl',t',k1,k2,vs',k3,k4⟩:=h s gs sl t w1 hr hp h1 h2 h3;exact⟨N,s',gs',a',w',sl',t',k1,k2,vs',k3,hq _ _ _ _ _ k4⟩
theorem oK.bind (h:oK P c D0 wr0 vs a w Q) (hq:∀ D wr vs a w,Q D wr vs a w->oK P c D wr vs a w Q'):oK P c D0 wr0 vs a w Q':=by
 intro s gs sl t w1 hr hp h1 h2 h3;obtain⟨N,s',gs',a',w',sl',t',k1,k2,vs',k3,k4⟩:=h s gs sl t w1 hr hp h1 h2 h3;obtain⟨M,s2,gs2,a2,w2,sl2,t2,m1,m2,m3⟩:=hq _ _ _ _ _ k4 s' gs' sl' t' w' (.refl _ w') k2 rfl rfl k3;refine⟨N+M,s2,gs2,a2,w2,sl2,t2,?_,m2,m3⟩;rw[Go.Tm.runNT_add N M _ _ _ _ k1];exact m1
theorem oK.rely {w':World} (h:oK P c D0 wr0 vs a w Q) (hr:dn c (sK D0 wr0) w w'):oK P c D0 wr0 vs a w' Q:=fun s gs sl t w1 hr'=>h s gs sl t w1 (hr.trans hr')
theorem Wn (h:∀ w1,dn c (sK D0 wr0) w w1->Q D0 wr0 vs a w1):oK P c D0 wr0 vs a w Q:=by
 intro s gs sl t w1 hr hp h1 h2 h3;exact⟨0,s,gs,a,w1,sl,t,rfl,hp,vs,h3,by rw[h1,h2];exact h w1 hr⟩
theorem oV.XR {t:Trace} (h:oV P c s gs a w t) (a':Goroutine):oV P c s (gs.setIfInBounds 0 a') a' w t:=by
 have hsz:(gs.setIfInBounds 0 a').size=gs.size:=by simp
 refine⟨by simp[h.lt],fun i g hi hg=>h.old i g hi ?_,fun j hj=>h.above j (by rw[hsz]at hj;exact hj),h.chan,fun g hg=>h.nochan g (by rw[hsz]at hg;exact hg),h.heap,by rw[hsz];exact h.tr⟩
 rwa [Array.getElem?_setIfInBounds_ne (by omega)]at hg
theorem oV.listed {t:Trace} (h:oV P c s gs a w t) {es:Array Event} (hev:∀ e∈es,Ae (s.D 0) (s.wr 0) e) (fn:FuncId) (pos:String):oV P c s gs a w (t ++ MemOp.ofEvents 0 fn pos es):=by
 have hu:∀ op∈MemOp.ofEvents 0 fn pos es,op.g=0:=fun op hop=>by obtain⟨e,_,rfl⟩:=Go.Conc.mem_ofEvents hop;rfl
 have hown:=h.tr.own (.inl rfl) hev (fun _ h=>h) (fun _ h=>.inl h) (Nat.le_refl _) fn pos;have hwr:upd s.wr 0 (s.wr 0)=s.wr:=by
  funext j;by_cases e:j=0
  ·subst e;rw[upd_same]
  ·rw[upd_ne _ _ e]
 rw[hwr]at hown;refine⟨h.zero,fun i g hi hg=>(h.old i g hi hg).keep rfl rfl rfl rfl (Deaf_other t (by omega) _ hu) fun _=>.refl _ w,fun j hj=>?_,h.chan,h.nochan,h.heap,hown⟩;have:=h.lt;rw[Deaf_other t (by omega) _ hu];exact h.above j hj
theorem Vb {Stop:vO} (hat:∀ wr fr mine w d,Stop wr fr mine (w.at d)->Stop wr fr mine w) {fr:Frame} {mine cs:List Frame} (h:WT P c D0 Stop wr0 fr mine w)
  (hk:∀ wr' fr' mine' w',Stop wr' fr' mine' w'->oK P c D0 wr' vs (G fr' (mine' ++ cs)) w' Q):oK P c D0 wr0 vs (G fr (mine ++ cs)) w Q:=by
 obtain⟨τ,h⟩:=h;have main:∀ (τ:Tr) (wr0:Nat->Prop) (fr:Frame) (mine:List Frame) (w:World),QG P c D0 Stop τ wr0 fr mine w->oK P c D0 wr0 vs (G fr (mine ++ cs)) w Q:=by
  intro τ
  induction τ with
  |leaf =>
   intro wr0 fr mine w h s gs sl t w1 hr hp h1 h2 h3;exact hk _ _ _ _ (h w1 hr) s gs sl t w1 (.refl _ w1) hp h1 h2 h3
  | node f ih =>
   intro wr0 fr mine w h s gs sl t w1 hr hp h1 h2 h3;refine AY (s0:=s) (n:=gs.size) (w0:=w1) rfl (fun w=>Stop wr0 fr mine w) (fun s' gs' w' sl' t' hp' hL hn hr' hE=>?_) (fun s' gs' w' sl' t' d hp' hL hn hr' hE=>?_) s gs w1 sl t hp (.refl s) rfl (.refl _ w1)
   ·exact hk _ _ _ _ hE s' gs' sl' t' w' (.refl _ w') hp' (by rw[hL.D,h1]) (by rw[hL.wr0,h2]) (by rw[hn,hL.pend];exact h3)
   ·rw [h1,h2] at hr';rcases h (w'.at d) (hr.trans hr') with hs | ⟨fr',mine',w2,es,wr',k1,k2,k3,k4,k5⟩
    ·exact(hE (hat _ _ _ _ _ hs)).elim
    ·have hD:s'.D 0=D0:=by rw [hL.D,h1]
     have hw:s'.wr 0=wr0:=by rw[hL.wr0,h2]
     have hst:=hp'.step (i:=0) (.inl rfl) (g:=G fr (mine ++ cs)) (g':=G fr' (mine' ++ cs)) (x:=.sit) (es:=es) (wr':=wr') hp'.zero (fun h=>(h rfl).elim) (by rw[hD];exact k2) (by rw[hw];exact k3) (by rw[hw];exact k4) (fun h=>(h rfl).elim) (G fr (mine ++ cs)).frame.fn (G fr (mine ++ cs)).frame.place (fun h=>(h rfl).elim);simp only[if_true]at hst;refine⟨_,_,_,runT_crowd_go hp'.zero (show stepG P (0 == 0) _ _=_ from k1 true cs),?_⟩;refine ih (w'.at d) wr' fr' mine' w2 k5 _ _ _ _ w2 (.refl _ w2) hst hD (by show upd s'.wr 0 wr' 0=wr';exact upd_same _ _ _) ?_;have hsz:((gs'.map (woken P (G fr (mine ++ cs)) (G fr' (mine' ++ cs)) w2)).setIfInBounds 0 (G fr' (mine' ++ cs))).size=gs.size:=by simp[hn]
     rw[hsz];have e:iM {s' with K:=s'.K,wr:=upd s'.wr 0 wr'} gs.size=iM s gs.size:=by
      rw[<- hL.pend];exact akW fun _ _=>⟨rfl,rfl⟩
     exact e ▸ h3
 exact main τ wr0 fr mine w h
theorem SA (ha:a.status=.running)
 (hs:∀ w1,dn c (sK D0 wr0) w w1->∃ a' frc es Dc D0' wr0' v,stepG P true a w1=.spawn a' (G frc []) w1 es/\(∀ e∈es,Ae D0 wr0 e)/\(∀ b,Dc b->D0 b\/wr0 b)/\(∀ b,D0' b\/wr0' b->D0 b\/wr0 b)/\(∀ b,wr0' b->wr0 b/\¬ Dc b) /\
 WT P c Dc (AtSend P c v Dc) (fun _=>False) frc [] w1/\oK P c D0' wr0' (v::vs) a' w1 Q):oK P c D0 wr0 vs a w Q:=by
 intro s gs sl t w1 hr hp h1 h2 h3;refine Fa (s0:=s) (n:=gs.size) (w0:=w1) ha (fun s' gs' w' sl' t' hp' hL hn hr'=>?_) s gs w1 sl t hp (.refl s) rfl (.refl _ w1);rw[h1,h2]at hr';have hD:s'.D 0=D0:=by rw[hL.D,h1]
 have hw:s'.wr 0=wr0:=by rw[hL.wr0,h2]
 obtain⟨a',frc,es,Dc,D0',wr0',v,k1,k2,k3,k4,k5,⟨τ,k6⟩,k7⟩:=hs w' (hr.trans hr');have hlt:=hp'.lt;have hl:=hp'.listed (es:=es) (by rw[hD,hw];exact k2) a.frame.fn a.frame.place;have hn0:gs'.size≠0:=by omega
 have hnact:¬ s'.act gs'.size gs'.size:=fun h=>Nat.lt_irrefl _ h.2.1
 have hhire:=hl.tr.hire (c:=gs'.size) ⟨hn0,hnact⟩ (hl.above _ (Nat.le_refl _)) Dc D0' wr0' (by rw[hD,hw];exact k3) (by rw[hD,hw];exact k4) (by rw[hw];exact k5) a.frame.fn a.frame.place frc.fn;let s2:Sit:={K:=upd s'.K gs'.size (.work τ),D:=upd (upd s'.D gs'.size Dc) 0 D0',wr:=upd (upd s'.wr gs'.size fun _=>False) 0 wr0',val:=upd s'.val gs'.size v};have hact:(fun g=>s'.act gs'.size g\/g=gs'.size)=s2.act (gs'.size+1):=by
  funext g;apply propext;unfold Sit.act;constructor
  ·rintro (⟨x1,x2,x3⟩ | rfl)
   ·exact⟨x1,by omega,by show(upd s'.K gs'.size (WK.work τ) g).busy=true;rw[upd_ne _ _ (by omega)];exact x3⟩
   ·exact⟨by omega,by omega,by show(upd s'.K gs'.size (WK.work τ) gs'.size).busy=true;rw[upd_same];rfl⟩
  ·rintro ⟨x1,x2,x3⟩;by_cases e:g=gs'.size
   ·exact .inr e
   ·refine .inl ⟨x1,by omega,?_⟩;have x3':(upd s'.K gs'.size (WK.work τ) g).busy=true:=x3
    rwa [upd_ne _ _ e]at x3'
 have hsz:((gs'.setIfInBounds 0 a').push (G frc [])).size=gs'.size+1:=by simp
 generalize hu:(#[{g:=0,fn:=a.frame.fn,pos:=a.frame.place,act:=.go gs'.size},{g:=gs'.size,fn:=frc.fn,pos:=a.frame.place,act:=.start}]:Trace)=u at hhire;have hq:∀ g,∀ op∈u,∀ d,deafStep g d op=d:=by
  intro g op hop d;subst hu;simp only[List.mem_toArray,List.mem_cons,List.not_mem_nil,or_false]at hop;rcases hop with rfl|rfl<;>rfl
 have hdeaf:∀ g,Deaf (t' ++ MemOp.ofEvents 0 a.frame.fn a.frame.place es ++ u) g=Deaf (t' ++ MemOp.ofEvents 0 a.frame.fn a.frame.place es) g:=fun g=>Deaf_quiet (hq g)
 have hpc:oV P c s2 ((gs'.setIfInBounds 0 a').push (G frc [])) a' w' (t' ++ MemOp.ofEvents 0 a.frame.fn a.frame.place es ++ u):=by
  refine⟨?_,fun i g hi hg=>?_,fun j hj=>?_,hl.chan,fun g hg=>?_,hl.heap,?_⟩
  ·rw[Array.getElem?_push,if_neg (by simp;omega)];simp[hlt]
  ·rw [Array.getElem?_push] at hg;split at hg
   ·rename_i hi2;simp only [Array.size_setIfInBounds] at hi2;cases hg;subst hi2;unfold qc;have eK:s2.K gs'.size=.work τ:=upd_same _ _ _;have eD:s2.D gs'.size=Dc:=by show upd (upd s'.D gs'.size Dc) 0 D0' gs'.size=_;rw [upd_ne _ _ hn0,upd_same]
    have ew:s2.wr gs'.size=fun _=>False:=by show upd (upd s'.wr gs'.size fun _=>False) 0 wr0' gs'.size=_;rw[upd_ne _ _ hn0,upd_same]
    have ev:s2.val gs'.size=v:=upd_same _ _ _;rw[eK];dsimp only;rw[eD,ew,ev];exact⟨frc,[],rfl,k6⟩
   ·rename_i hi2;rw [Array.getElem?_setIfInBounds_ne (by omega)] at hg;have hne:i≠gs'.size:=by simpa using hi2
    refine(hl.old i g hi hg).keep (upd_ne _ _ hne) ?_ ?_ (upd_ne _ _ hne) (hdeaf i) fun _=>.refl _ w'
    ·show upd (upd s'.D gs'.size Dc) 0 D0' i=_;rw[upd_ne _ _ (by omega),upd_ne _ _ hne]
    ·show upd (upd s'.wr gs'.size fun _=>False) 0 wr0' i=_;rw[upd_ne _ _ (by omega),upd_ne _ _ hne]
  ·rw[hsz]at hj;rw[hdeaf];exact hl.above j (by omega)
  ·rw [hsz,<- hact] at hg;show ¬ upd (upd s'.wr gs'.size fun _=>False) 0 wr0' g c;by_cases e:g=0
   ·subst e;rw[upd_same];intro hb;have:=(k5 c hb).1;rw[<- hw]at this;exact hl.nochan 0 (.inl rfl) this
   ·rw [upd_ne _ _ e];by_cases e':g=gs'.size
    ·subst e';rw[upd_same];exact id
    ·rw[upd_ne _ _ e'];exact hl.nochan g (hg.elim .inl fun h=>h.elim .inr fun h=>(e' h).elim)
  ·rw[hsz,<- hact];exact hhire
 refine⟨_,_,_,runT_crowd_spawn hp'.zero (show stepG P (0 == 0) a w'=_ from k1),?_⟩;have htr:t' ++ (((MemOp.ofEvents 0 a.frame.fn a.frame.place es).push {g:=0,fn:=a.frame.fn,pos:=a.frame.place,act:=.go gs'.size}).push {g:=gs'.size,fn:=(G frc []).frame.fn,pos:=a.frame.place,act:=.start})=t' ++ MemOp.ofEvents 0 a.frame.fn a.frame.place es ++ u:=by
  subst hu;rw[Array.append_assoc];congr 1
 rw[htr];refine k7 s2 _ _ _ w' (.refl _ w') hpc (by show upd (upd s'.D gs'.size Dc) 0 D0' 0=D0';exact upd_same _ _ _) (by show upd (upd s'.wr gs'.size fun _=>False) 0 wr0' 0=wr0';exact upd_same _ _ _) ?_;rw[hsz,rY];have e1:iM s2 gs'.size=iM s gs.size:=by
  rw[<- hL.pend,<- hn];refine akW fun i hi=>⟨?_,?_⟩
  ·show(upd s'.K gs'.size (WK.work τ) i).busy=_;rw[upd_ne _ _ (by omega)]
  ·show upd s'.val gs'.size v i=_;rw[upd_ne _ _ (by omega)]
 have e2:(0<gs'.size/\(s2.K gs'.size).busy=true):=⟨hlt,by show(upd s'.K gs'.size (WK.work τ) gs'.size).busy=true;rw[upd_same];rfl⟩;have e3:s2.val gs'.size=v:=upd_same _ _ _;rw[if_pos e2,e1,e3];exact(List.perm_append_singleton _ _).trans (h3.cons v)
theorem I9 {t:Trace} (h:oV P c s gs a w t):∀ j k,(j,k)∈partners (gs.setIfInBounds 0 ph) c true->k=0/\0<j/\s.act gs.size j/\∃ g₂ z,gs[j]? = some (parked g₂ #[scase c (s.val j) z] .send)/\∃ q,QuitsD P q 0 (Conc.served g₂ undef):=by
 intro j k hjk;obtain⟨g,hg,hk⟩:=mem_partners.1 hjk;rcases getElem?_stand gs 0 j g hg with⟨_,rfl⟩|⟨hj0,hg⟩
 ·rw[offersAt_ph]at hk;cases hk
 ·have hpos:0 < j:=by omega
  have hw:=h.old j g hpos hg;unfold qc at hw;cases hK:s.K j with
  |leave q =>
   rw[hK]at hw;have hs:=QuitsD.status hw;rw[offersAt_of_not_blocked (fun e=>by rcases hs with hs|hs<;>rw[e]at hs<;>cases hs) _ _]at hk;cases hk
  |work τ =>
   rw[hK]at hw;obtain⟨fr,mine,rfl,_⟩:=hw;rw[offersAt_of_not_blocked (by simp[G]) _ _]at hk;cases hk
  |sit =>
   rw[hK]at hw;obtain⟨g₂,z,rfl,hq⟩:=hw;rw[offersAt_parked_send]at hk;simp at hk;exact⟨hk,hpos,⟨hpos,(Array.getElem?_eq_some_iff.1 hg).1,by rw[hK];rfl⟩,g₂,z,hg,hq⟩
theorem Xb (ha:a.status=.running) (hne:vs≠[])
 (hs:∀ w1,dn c (sK D0 wr0) w w1->∃ a₂ z es,stepG P true a w1=.comm a₂ #[rcase c z] true (.recv false) w1 es/\(∀ e∈es,Ae D0 wr0 e) /\
 ∀ v rest,vs.Perm (v::rest)->∀ w2,dn c (sK D0 wr0) w1 w2->oK P c D0 wr0 rest (Conc.served a₂ v) w2 Q):oK P c D0 wr0 vs a w Q:=by
 intro s gs sl t w1 hr hp h1 h2 h3;refine Fa (s0:=s) (n:=gs.size) (w0:=w1) ha (fun s' gs' w' sl' t' hp' hL hn hr'=>?_) s gs w1 sl t hp (.refl s) rfl (.refl _ w1);rw[h1,h2]at hr';have hD:s'.D 0=D0:=by rw[hL.D,h1]
 have hw:s'.wr 0=wr0:=by rw[hL.wr0,h2]
 obtain⟨a₂,z,es,k1,k2,k3⟩:=hs w' (hr.trans hr');have hl:=hp'.listed (es:=es) (by rw[hD,hw];exact k2) a.frame.fn a.frame.place;obtain⟨k,hk⟩:=hp'.chan;have hpend:(iM s' gs'.size).Perm vs:=by rw[hL.pend,hn];exact h3
 have hst:stepG P (0 == 0) a w'=.comm a₂ #[rcase c z] true (.recv false) w' es:=k1;have hlt:=hp'.lt;by_cases hpn:partners (gs'.setIfInBounds 0 ph) c true=[]
 · -- nobody sits there yet: it sits down itself
  refine⟨_,_,_,crowd_waits hp'.zero hst (fun cc hcc=>?_),?_⟩
  ·simp only[List.mem_toArray,List.mem_singleton]at hcc;subst hcc;exact ways_recv_none hk hpn
  ·have hsome:∃ i,s'.act gs'.size i:=by
    apply Classical.byContradiction;intro hno;apply hne;have:iM s' gs'.size=[]:=by
     unfold iM;rw[List.map_eq_nil_iff,List.filter_eq_nil_iff];intro i hi hb;simp only[Bool.and_eq_true,decide_eq_true_eq]at hb;exact hno ⟨i,hb.1,List.mem_range.1 hi,hb.2⟩
    rw[this]at hpend;exact hpend.nil_eq.symm
   refine OT (s0:=s') (n:=gs'.size) (w0:=w') (z:=z) hsome (fun s2 i q gs2 w2 sl2 t2 hi hL2 hn2 hr2 hp2=>?_) s' _ w' _ _ (hl.XR _) (fun i hpos hi hsit=>?_) (.refl s') (by simp) (.refl _ w')
   ·rw [hD,hw] at hr2;have hperm:vs.Perm (s2.val i::iM { s2 with K:=upd s2.K i (.leave q) } gs'.size):=by
     refine hpend.symm.trans ?_;rw[<- hL2.pend];exact zT hi
    exact k3 _ _ hperm w2 hr2 _ gs2 sl2 t2 w2 (.refl _ w2) hp2 (by show s2.D 0=_;rw[hL2.D,hD]) (by show s2.wr 0=_;rw[hL2.wr0,hw]) (by rw[hn2])
   · -- else it would be a partner
    have hw2:=hp'.old i gs'[i] hpos (Array.getElem?_eq_getElem hi);unfold qc at hw2;rw[hsit]at hw2;obtain⟨g₂,z2,e,_⟩:=hw2;have:(i,0)∈partners (gs'.setIfInBounds 0 ph) c true:=mem_partners.2 ⟨gs'[i],by rw[Array.getElem?_setIfInBounds_ne (by omega)];exact Array.getElem?_eq_getElem hi,by rw[e,offersAt_parked_send];simp⟩;rw[hpn]at this;cases this
 ·obtain ⟨j,gj,vj,zj,shj,d,hj0,hgj,hrun⟩:=crowd_recv_meets_some (P:=P) (sl:=sl') hp'.zero hst hk hpn (fun j k hjk=>by
   obtain⟨x1,x2,_,g₂,z2,x4,_⟩:=I9 hp' j k hjk;exact⟨x1,by omega,g₂,_,z2,_,x4⟩)
  have hpos:0<j:=by omega
  have hwj:=hp'.old j _ hpos hgj;have hjlt:=(Array.getElem?_eq_some_iff.1 hgj).1;have hact:s'.act gs'.size j/\vj=s'.val j/\shj=.send/\∃ q,QuitsD P q 0 (Conc.served gj undef):=by
   unfold qc at hwj;cases hK:s'.K j with
   |leave q =>
    rw[hK]at hwj;rcases QuitsD.status hwj with hs|hs<;>cases hs
   |work τ =>
    rw[hK]at hwj;obtain⟨fr,mine,e,_⟩:=hwj;have:=congrArg (·.status) e;cases this
   |sit =>
    rw[hK]at hwj;obtain⟨g₂,z2,e,q,hq⟩:=hwj;refine⟨⟨hpos,hjlt,by rw[hK];rfl⟩,?_,?_,q,by rw[wZ e];exact hq⟩;all_goals simp only[parked,Goroutine.mk.injEq,Option.some.injEq,Prod.mk.injEq]at e
    ·have e2:=e.2.2.2.2.1;simp[scase]at e2;exact e2.1
    ·exact e.2.2.2.2.2
  obtain⟨hact,rfl,rfl,q,hq⟩:=hact;refine⟨_,_,_,hrun,?_⟩;have hmet:=hl.met (j:=j) (a':=Conc.served a₂ (s'.val j)) (g':=Conc.served gj undef) (q:=q) (k:=k) (cap:=0) hact hq gj.frame.fn gj.frame.place a₂.frame.fn a₂.frame.place (k+1)
   ((gs'.setIfInBounds j (Conc.served gj undef)).setIfInBounds 0 (Conc.served a₂ (s'.val j))) (by simp) (by simp[hlt]) (by rw[Array.getElem?_setIfInBounds_ne (Ne.symm hj0)];simp[hjlt])
   (fun x hx0 hxj=>by rw[Array.getElem?_setIfInBounds_ne (Ne.symm hx0),Array.getElem?_setIfInBounds_ne (Ne.symm hxj)]) d _ rfl
  rw[Array.append_assoc]at hmet;have hr2:dn c (sK D0 wr0) w' ((w'.at d).setChan c 0 #[] false (k+1) (k+1) false):=by
   refine⟨by show w'.heap.size<=(w'.heap.setIfInBounds c _).size;simp,fun b _=>?_,rfl,rfl,rfl⟩;by_cases e:b=c
   ·subst e;refine .inr ⟨rfl,_,.chan 0 #[] false (k+1) (k+1) false,hk,?_,rfl,rfl⟩;show(w'.heap.setIfInBounds b _)[b]? = _;rw[Array.getElem?_setIfInBounds_self_of_lt (Array.getElem?_eq_some_iff.1 hk).1]
   ·refine .inl ?_;show(w'.heap.setIfInBounds c _)[b]? = _;rw[Array.getElem?_setIfInBounds_ne (Ne.symm e)]
  exact k3 _ _ (hpend.symm.trans (zT (q:=q) hact)) _ hr2 _ _ _ _ _ (.refl _ _) hmet hD hw (by rw[Array.size_setIfInBounds,Array.size_setIfInBounds])
theorem Sl {QB:Goroutine->World->Prop} (hheap:ay OC w) (hch:∃ k,w.heap[c]? = some (.chan 0 #[] false k k false)) (hnc:¬ wr0 c) (hlow:∀ b,D0 b\/wr0 b->b<w.heap.size)
 (h:oK P c D0 wr0 [] a w Q) (hQ:∀ D wr vs a w,Q D wr vs a w->ay OC w->vs=[]/\QB a w):kU P a w QB:=by
 intro gs sl t d hc;obtain⟨h0,⟨q,hL⟩,hP⟩:=hc;let s:Sit:={K:=fun i=>.leave (q i),D:=fun _=>D0,wr:=fun _=>wr0,val:=fun _=>undef};have hact:∀ g,¬ s.act gs.size g:=fun g h=>by cases h.2.2
 have hpc:oV P c s gs a (w.at d) t:=by
  refine⟨h0,fun i g hi hg=>hL.old i g hi hg,hL.above,hch,fun _ _=>hnc,hheap,?_⟩;have e:s.act gs.size=fun _=>False:=by funext g;exact propext ⟨fun h=>(hact g h).elim,fun h=>h.elim⟩
  rw[e];exact Gj.ofPast hP _ _ hlow
 have hnil:iM s gs.size=[]:=by
  unfold iM;rw[List.map_eq_nil_iff,List.filter_eq_nil_iff];intro i hi hb;simp only[Bool.and_eq_true,decide_eq_true_eq]at hb;cases hb.2
 obtain⟨N,s',gs',a',w',sl',t',k1,k2,vs',k3,k4⟩:=h s gs sl t (w.at d) (.at _ w d) hpc rfl rfl (by rw[hnil]);obtain⟨rfl,k5⟩:=hQ _ _ _ _ _ k4 k2.heap;have hnil':iM s' gs'.size=[]:=k3.eq_nil;have hleave:∀ i,0<i->i<gs'.size->(s'.K i).busy=false:=by
  intro i h1 h2;cases hb:(s'.K i).busy with
  |false=>rfl
  |true =>
   unfold iM at hnil';rw[List.map_eq_nil_iff,List.filter_eq_nil_iff]at hnil';have:=hnil' i (List.mem_range.2 h2);simp[h1,hb]at this
 refine⟨N,gs',a',w',sl',t',k1,⟨k2.zero,⟨fun i=>(match s'.K i with | .leave q=>q|_=>0),fun i g hi hg=>?_,k2.above⟩,k2.tr.toPast fun g hg=>?_⟩,k5⟩
 ·have hw:=k2.old i g hi hg;have hb:=hleave i hi (Array.getElem?_eq_some_iff.1 hg).1;unfold qc at hw;cases hK:s'.K i with
  |leave q=>rw[hK]at hw;exact hw
  |work τ=>rw[hK]at hb;cases hb
  |sit=>rw[hK]at hb;cases hb
 ·have:=hleave g hg.1 hg.2.1;rw[hg.2.2]at this;cases this
end
end Go.Ph
namespace Go.Proofs.YtjjmefieegcddaaDoor
open Go Go.Sr Go.Ph Go.Tm
instance abM:bT:=⟨fun f=>[123,124,125,126,127,133].contains f⟩
theorem XJ:F7 Tryd.prog:=by
 intro f hf;have h:f=123\/f=124\/f=125\/f=126\/f=127\/f=133:=by
  have:[123,124,125,126,127,133].contains f=true:=hf;simpa using this
 rcases h with rfl|rfl|rfl|rfl|rfl|rfl
 ·exact⟨Tryd.f123,_,Tryd.func123,rfl,by kernel_rfl,by decide,by kernel_rfl⟩
 ·exact⟨Tryd.f124,_,Tryd.func124,rfl,by kernel_rfl,by decide,by kernel_rfl⟩
 ·exact⟨Tryd.f125,_,Tryd.func125,rfl,by kernel_rfl,by decide,by kernel_rfl⟩
 ·exact⟨Tryd.f126,_,Tryd.func126,rfl,by kernel_rfl,by decide,by kernel_rfl⟩
 ·exact⟨Tryd.f127,_,Tryd.func127,rfl,by kernel_rfl,by decide,by kernel_rfl⟩
 ·exact⟨Tryd.f133,_,Tryd.func133,rfl,by kernel_rfl,by decide,by kernel_rfl⟩
end Go.Proofs.YtjjmefieegcddaaDoor
namespace Go.Ph
open Go
open Go.Tm
open Go.Sr
open Go.Conc
def JZ:Obj->Obj
 |.cells c t _=>.cells c t (0,c.size)
 |o=>o
def oU (D:List Nat) (w:World):World:={w with heap:=w.heap.mapIdx fun b o=>if b∈D then JZ o else o}
def wX (D:List Nat):Nat->Prop:=fun b=>b∈D
def iq (D:List Nat):BR:=fun b b'=>b'=b/\b∈D
section
variable {fn:Func} {b:Frame} {a:Act}
variable {P:Program} {D:List Nat} {w:World}
theorem jT (D:List Nat) (w:World) (b:Nat):(oU D w).heap[b]? = (w.heap[b]?).map fun o=>if b∈D then JZ o else o:=by
 simp[oU]
theorem oJ (D:List Nat) (w:World):(oU D w).heap.size=w.heap.size:=by simp[oU]
theorem FH (h:ay OC w):ay OC (oU D w):=by
 intro i o ho;rw[jT]at ho;cases hw:w.heap[i]? with
 |none=>rw[hw]at ho;cases ho
 |some x =>
  rw[hw]at ho;have:=h i x hw;replace ho:(if i∈D then JZ x else x)=o:=by simpa using ho
  split at ho
  ·subst ho;cases x<;>exact this
  ·subst ho;exact this
theorem XH [bT] {N:Nat} (hN:∀ b∈D,N<=b) (hlt:N<=w.heap.size)
  (hobj:∀ b∈D,(∃ c t,w.heap[b]? = some (.cells c t (0,0))/\∀ v∈c,qV (iq D) v v)\/∃ o,w.heap[b]? = some o/\DY o=true):WR N (iq D) (wX D) (oU D w) w:=by
 refine⟨?_,?_,?_,?_,?_,rfl,rfl,?_,by rw[oJ];exact hlt,hlt⟩
 ·rintro b _ ⟨rfl,hb⟩;rcases hobj _ hb with ⟨c,t,h1,h2⟩ | ⟨o,h1,h2⟩
  ·refine⟨.cells c t (0,c.size),.cells c t (0,0),?_,h1,.inl ⟨c,c,t,(0,c.size),(0,0),rfl,rfl,⟨rfl,fun i v hv=>⟨v,hv,h2 v (Array.mem_of_getElem? hv)⟩⟩,fun _=>rfl,fun h=>(h hb).elim⟩⟩;rw[jT,h1];simp[hb,JZ]
  ·refine⟨o,o,?_,h1,.inr (.inr ⟨hb,h2,h2⟩)⟩;rw[jT,h1];cases o<;>first|(cases h2;done)|(simp only[Option.map_some];split<;>rfl)
 ·rintro b b1 b2 ⟨rfl,_⟩ ⟨rfl,_⟩;rfl
 ·rintro b1 b2 b ⟨h1,_⟩ ⟨h2,_⟩;exact h1.symm.trans h2
 ·rintro b b' ⟨rfl,_⟩ _;rfl
 ·rintro b b' ⟨rfl,h⟩;exact⟨hN _ h,hN _ h⟩
 ·intro b hb;rw[oJ];rcases hobj b hb with⟨c,t,h1,_⟩|⟨o,h1,_⟩<;>exact(Array.getElem?_eq_some_iff.1 h1).1
theorem QF (D:List Nat):own (wX D) (iq D)=fun _=>False:=by
 funext b;refine propext ⟨fun⟨x,h1,h2⟩=>h2 h1.2,fun h=>h.elim⟩
theorem zK:(default:Frame).todo=[]:=rfl
def kG (P:Program) (ds:List Deferred):Frame:={(default:Frame)with fn:=P.funcs.size,defers:=ds,mode:=.panicking [goexitEntry]}
theorem NT {f:FuncId} {c:Code} {args caps:Array Value} (hf:P.funcs[f]? = some fn) (hname:(fn.name == "runtime.NumGoroutine")=false) (hb:fn.body=some c) (main:Bool) (cs:List Frame) (w:World) :
  stepG P main (G (kG P [{target:=.fn (.func f) caps,args:=args}]) ([] ++ cs)) w=.go (G (Frame.enter P f (args ++ caps) .deferred) ([kG P []] ++ cs)) w #[]:=by
 have h1:¬ fn.name = "runtime.NumGoroutine" := by simpa using hname
 simp[G,stepG,unwind,callDeferred,kG,invoke,callFunc,hf,h1,hb,GStep.after,seen_none]
theorem OB:QuitsD P 1 0 (G (kG P []) []):=by
 refine .inr ⟨rfl,{G (kG P []) []with status:=.finished},#[],by simp,fun w=>?_,rfl,rfl⟩;simp[G,stepG,unwind,kG,Frame.catches,goexitEntry,zK]
theorem Po {todo:List Item} (hk:b.kind=.normal\/b.kind=.deferred) (hd:a.defers=[]) (hf:P.funcs[b.fn]? = some fn) (hr:fn.results=#[]) :
  QuitsD P 2 0 (G {b.at a todo with mode:=.returning} [kG P []]):=by
 refine .ctl rfl (fun w=>?_) OB;have h1:=results_none hr a.tmps P w;have h2:=events_results_none (P:=P) (w:=w) hr a.tmps #[];rcases hk with hk|hk<;>simp[G,stepG,unwind,doReturn,Frame.at,hk,hd,hf,h1,h2,kG,Frame.finish,goexitEntry,seen,GStep.after,zK]
theorem atSend_of {ops:Array Oper} {i:Nat} {o:Oper} {x y:Operand} {c:Nat} {v:Value} {DD wr:Nat->Prop} (ho:ops[i]? = some o) (hw:Region.wanted o (yielded ops a.tmps)=true) (hop:o.op=.send x y)
 (hx:a.eval x=.chan (some c)) (hy:a.eval y=v) (hk:b.kind=.normal\/b.kind=.deferred) (hd:a.defers=[]) (hf:P.funcs[b.fn]? = some fn) (hr:fn.results=#[]) :
  AtSend P c v DD wr (b.at a [.inRegion ops [i]]) [kG P []] w:=by
 have hrun:(execOp a.eval o).run P w=.ok (.comm #[scase c v (.tuple #[])] true .send) w:=by
  unfold execOp;simp[hop,hx,hy,scase]
 have hev:(execOp a.eval o).events P w #[]=#[]:=by
  unfold execOp;simp[hop]
 have hk':b.kind≠.early:=by rcases hk with h|h<;>rw[h]<;>decide
 refine⟨_,.tuple #[],_,stepG_comm ho hw hk' hrun,fun e he=>?_,4,?_⟩
 ·unfold listed at he;rw[hev,seen_none]at he;simp at he
 ·have hfin:(b.at a (.inRegion ops [i]::[])).finish undef=b.at (a.put o.dst undef) (.inRegion ops []::[]):=by rw [Frame.finish_at,ho];rfl
  have e:Conc.served (G (b.at a [.inRegion ops [i]]) [kG P []]) undef=G (b.at (a.put o.dst undef) [.inRegion ops []]) [kG P []]:=by
   simp only[Conc.served,G,hfin]
  rw[e];refine .ctl rfl (fun _=>stepG_region_end) (.ctl rfl (fun _=>stepG_end) (Po hk ?_ hf hr));unfold Act.put;split<;>exact hd
end
end Go.Ph
