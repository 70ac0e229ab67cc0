/- A part of the proof: W4, W5, W6, W8, W9, W10, W11, W13, W14, W15, W16. -/
import Derived.Test.YtjjmefieegcddaaDoorM05
set_option linter.unusedVariables false
set_option linter.unusedSimpArgs false
set_option maxHeartbeats 8000000
set_option maxRecDepth 20000
namespace Go.Proofs.YtjjmefieegcddaaDoor
open Go.RowKit Go.Wg Go.Mm
theorem Xd (m v:Nat):bits .and .u64 (gZ m v 41:Int) 2199023255551=((nV m v:Nat):Int):=by
 exact rJ (gZ m v 41) 2199023255551 (Ii m v 41) (by decide)
theorem Uo (m v k:Nat) (h:m.testBit k=true):bits .or .u64 (gZ m v k:Int) (IntKind.u64.wrap ((v:Int) * 2 ^ k))=((gZ m v (k+1):Nat):Int):=by
 rw[Fh,Jw _ _ (Ii m v k) (Nat.mod_lt _ (by decide)),qA,rQ,h];rfl
theorem RQ (m v k:Nat) (h:m.testBit k=false):gZ m v (k+1)=gZ m v k:=by
 rw[qA,rQ,h];rfl
theorem yT (m v:Nat) (hm:m<18446744073709551616) (w:World) :
  Calls Tryd.prog 120 #[.int .u64 m,.int .u64 v] w fun r w'=>r=.returned (.int .u64 (nV m v:Nat))/\Kp w w':=by
 have HE:Hid (bits .and .u64 (gZ m v 41:Int) 2199023255551=((nV m v:Nat):Int)):=Xd m v;go_enter Tryd.func120,Tryd.ntmps120
 go_wp2
 go_loop [5,7] (fun out n=>∃ k:Nat,k<=41/\n=.int .i64 k/\out=.int .u64 (gZ m v k)) (fun _ n=>41-(intOf n).toNat)
 case atStart=>exact⟨0,by omega,rfl,rfl⟩
 case round =>
  obtain⟨k,hk,rfl,rfl⟩:=hrel;by_cases hlt:k<41
  ·have h1:(k:Int) < 41:=by omega
   have h2:(0:Int)<=k:=by omega
   have h3:(k:Int)<64:=by omega
   have HH:Hid (m.testBit k=true->bits .or .u64 (gZ m v k:Int) (IntKind.u64.wrap ((v:Int) * 2 ^ k))=((gZ m v (k+1):Nat):Int)):=Uo m v k;have HM:Hid (m.testBit k=false->gZ m v (k+1)=gZ m v k):=RQ m v k;go_wp2_with (refine(ji m k hm zw _).mono ?_;rintro _ w' ⟨rfl,rfl⟩)
   all_goals go_round
   case rel=>exact⟨k+1,by omega,by go_num,by rw[HH.out (by assumption)]⟩
   case measure=>simp[intOf];omega
   case rel=>exact⟨k+1,by omega,by go_num,by rw[HM.out (by assumption)]⟩
   case measure=>simp[intOf];omega
  ·obtain rfl:k=41:=by omega
   go_wp2
   go_ret
   refine⟨?_,Kp.refl _⟩;rw[<- HE.out];rfl
theorem sV (s:SS) (hs:s.WF) (i:Nat) (hi:i<6) (n:Int) (w:World) :
  Calls Tryd.prog 84 #[.agg (dJ s).toArray,.int .i64 i,.int .i64 n] w fun r w'=>r=.returned (.agg (dJ (s.weighed i n)).toArray)/\Kp w w':=by
 have hi1:(0:Int)<=i:=by omega
 have hi2:(i:Int)<6:=by omega
 have hx:=oh hs hi;have HB:Hid (bits .and .u64 (s.aK i:Int) (dO n n:Int)=((s.aK i &&& dO n n:Nat):Int)):=rJ _ _ (by have:=hs.fZ i;omega) (by have:=rG n n;omega);have HL:(dJ s).length=18:=dG hs;have HL':∀ m,(dJ (s.cu i m)).length=18:=fun m=>by rw[<- pO hs hi];simpa using HL
 have hS:=St.start w (fun _=>none) (fun k o h=>by cases h);go_enter Tryd.func84,Tryd.ntmps84
 go_wp2_with (first|(refine ye ?_;clear hS;intro _ w' hS)|(refine yf ?_;clear hS;intro _ w' hS))
 (refine aY 10 zk zk (St.eY hS) ?_;simp only[List.take_succ_cons,List.take_zero,List.drop_succ_cons,List.drop_zero];clear hS;(repeat ((go_big_quiet_want;(first|((with_reducible refine Xf ?_);refine jW rfl rfl ?_;refine zF ?_)|((with_reducible refine Uj ?_);(refine pq rfl rfl ?_);refine⟨_,zd,?_⟩;refine zF ?_)|((with_reducible refine YW ?_);refine mF ?_;refine⟨_,_,by(intro _;go_simp;exact⟨rfl,rfl⟩),?_⟩;refine⟨_,by(intro w' hS;((go_at_call 100;exact yH _ _ _))),?_⟩;refine zF ?_)|(refine gu ?_;refine⟨_,zp,?_⟩;refine zF ?_));go_big_quiet_on)));refine wpQuiet_nil ?_;intro w' hS)
 go_wp2_with (first|(refine ym ?_;clear hS;intro w' hS;try (simp only[HB.out,pO hs hi]at hS))|(refine ys ?_;clear hS;intro w' hS;try (simp only[HB.out,pO hs hi]at hS)))
 (refine yj ?_;refine bK ⟨_,by exact bH (r1:=.cell 6 100) zk (by exact rX hS rfl zd),?_⟩ rfl)
 exact⟨rfl,hS.bM⟩
theorem YF (V:View) (p:Nat) (k:Wk) (hC:jh V p k) (s:SS) (hs:s.WF) (w:World) (hV:V.In w) :
  Calls Tryd.prog 92 #[ptr p,.agg (dJ s).toArray] w fun r w'=>r=.returned (.agg (mM (up k s)).toArray)/\Kp w w':=by
 obtain⟨ts,vv,rv,hC⟩:=hC;obtain⟨g,cap,hc2,hts⟩:=hC.c2;have hn0:=hC.pos;have hn6:=hC.le;have HL:(dJ s).length=18:=dG hs;have hS:=St.start w V hV;unfold ptr;go_enter Tryd.func92,Tryd.ntmps92
 go_wp2_with (first|(refine yy ?_;clear hS;intro w' hS)|(refine yb 3 ?_;clear hS;intro b3 w' hS)|(refine ya 4 ?_;clear hS;intro b4 w' hS)|(refine ya 5 ?_;clear hS;intro b5 w' hS))
 go_loopw [6] (fun i wr=>∃ m:Nat,m<=k.n/\i=.int .i64 ((k.n:Int)-1-m)/\St w [] V [.blk b5 96 (mM (mJ k s m)),.blk b4 96 (List.replicate 6 (.int .u64 0)),.blk b3 100 (dJ s)] wr) (fun i _=>((intOf i)+1).toNat)
 case atStart=>exact⟨0,by omega,by simp,hS⟩
 case round =>
  clear hS;obtain⟨m,hm,rfl,hS⟩:=hrel;by_cases hlt:m<k.n
  ·obtain ⟨i,hi⟩:∃ i,i+m+1=k.n:=⟨k.n - 1 - m,by omega⟩;have hii:k.n - 1 - m=i:=by omega
   have e1:(k.n:Int)-1-m=(i:Int):=by omega
   rw[e1];have h0:(0:Int)<=i:=by omega
   have h1:(i:Int)<6:=by omega
   have h2:(i:Int)<k.n:=by omega
   have h6:i<6:=by omega
   have hl:=oh hs h6;have hlo:=Us hs h6;have hhi:=Pm hs h6;have hti:=hts i zw;obtain⟨fv,hf5,hfs⟩:=hC.fil i zw;obtain⟨fa,fcap,rfl,hfc,hfm,hfe⟩:=hfs.is;have HO:(mM (mJ k s m)).length=6:=by rw[cZ,kZ]
   unfold ptr at hti;generalize ts.getD i 0=ti at hti hf5;have HE:mJ k s (m+1)=(mJ k s m).set i (uX k s (mJ k s m) i):=by rw[mJ,hii]
   replace HE:=aj HE;have HM:(i:Int)-1=(k.n:Int)-1-((m+1:Nat):Int):=by omega
   replace HM:=aj HM;by_cases hf:k.fills i=[]
   ·have HU:uX k s (mJ k s m) i=s.aK i:=by rw [uX,if_pos hf]
    replace HU:=aj HU;rw[hf]at hf5;simp only[List.length_nil]at hf5;clear hfs hfe hfc;go_wp2_with (first|(refine ym ?_;clear hS;intro w' hS)|(refine ys ?_;clear hS;intro w' hS))
    go_roundw
    case rel =>
     refine⟨m+1,by omega,by rw[HM.out],?_⟩;rw[HE.out,HU.out,<- yR];exact hS
    case measure =>
     show((i:Int)-1+1).toNat<((i:Int)+1).toNat;omega
   ·have hfl:0 < (k.fills i).length:=List.length_pos_iff.2 hf;obtain ⟨fg,fo,rfl,hfr⟩:=hfe hfl;have hfl':(((k.fills i).length:Int) == 0)=false:=by rw [beq_eq_false_iff_ne];omega
    have hfl2:(k.fills i).length<=6:=by
     have:=List.length_filter_le (fun j=>(k.v j).from_ == (i:Int)) (List.range k.n);rw[List.length_range]at this;exact Nat.le_trans this hn6
    obtain⟨out,hout⟩:∃ out,(mJ k s m).set i (s.aK i)=out:=⟨_,rfl⟩;have hlen:out.length=6:=by rw[<- hout];simp[kZ]
    have HU:uX k s (mJ k s m) i=s.aK i &&& nV (sums out (k.fills i)) (dO (s.aP i).1 (s.aP i).2):=by rw[uX,if_neg hf,hout]
    replace HU:=aj HU;have HW:=yR (mJ k s m) i (s.aK i);rw[hout]at HW;replace HW:=aj HW;have HOi:out.getD i 0=s.aK i:=by rw[<- hout,List.getD_eq_getElem?_getD];simp[kZ,h6]
    have HF:out.set i (uX k s (mJ k s m) i)=mJ k s (m+1):=by rw[HE.out,<- hout,List.set_set]
    replace HF:=aj HF;have hoi:=wF (l:=out) (i:=i) zw;rw[HOi]at hoi;replace HOi:=aj HOi;replace hout:=aj hout;have HO':(mM out).length=6:=by rw[cZ,hlen]
    go_wp2_with (first|(refine ym ?_;clear hS;intro w' hS;try (simp only[HW.out]at hS))|(refine ys ?_;clear hS;intro w' hS;try (simp only[HW.out]at hS)))
    go_loopw [8,45] (fun sm j wr=>∃ q:Nat,q<=(k.fills i).length/\j=.int .i64 q/\sm=.int .u64 (sums out ((k.fills i).take q):Nat)/\St w [] V [.blk b5 96 (mM out),.blk b4 96 (List.replicate 6 (.int .u64 0)),.blk b3 100 (dJ s)] wr) (fun _ j _=>(k.fills i).length-(intOf j).toNat)
    case atStart=>exact⟨0,by omega,rfl,rfl,hS⟩
    case round =>
     clear hS;obtain⟨q,hq,rfl,rfl,hS⟩:=hrel;by_cases hql:q<(k.fills i).length
     ·have hq1:(q:Int) < (k.fills i).length:=by omega
      have hq0:(0:Int)<=q:=by omega
      obtain⟨x,hx⟩:∃ x,(k.fills i).getD q 0=x:=⟨_,rfl⟩;have hx6:x<k.n:=by
       have:x∈k.fills i:=by rw[<- hx,List.getD_eq_getElem?_getD,List.getElem?_eq_getElem hql];exact List.getElem_mem _
       exact List.mem_range.1 (List.mem_filter.1 this).1
      have hpx:=hfr q hql 0 _ rfl;have htx:=hC.tun x hx6 4 _ rfl;simp only[hx,Nat.mul_one,Nat.add_zero,Nat.zero_add,ptr]at hpx htx;generalize ts.getD x 0=tx at hpx htx;have hxo:=wF (l:=out) (i:=x) zw;have hx1:(x:Int)<6:=by omega
      have hx0:(0:Int)<=x:=by omega
      have HT:=Rt out (k.fills i) q hql;rw[hx]at HT;have hox:out.getD x 0<2199023255552:=by rw[<- hout.out];exact Vx (Xp hs m) (hs.fZ i) i x
      generalize out.getD x 0=ox at hxo HT hox;replace HT:=aj HT;have hsm:=QN out ((k.fills i).take q);clear hfr hti hf5 hfs hx;go_wp2_with (first|(refine yy ?_;clear hS;intro w' hS)|((with_reducible refine gC ?_);refine aH hS ⟨_,by(go_at_call 120;exact yT _ _ zc _),?_⟩;clear hS;intro w' hS))
      go_roundw
      case rel=>exact⟨q+1,by omega,by go_num,by rw[HT.out],hS⟩
      case measure=>simp[intOf];omega
     ·obtain rfl:q=(k.fills i).length:=by omega
      simp only[List.take_length]at *;have hsm:=QN out (k.fills i);go_wp2_with (fail)
      (refine aY 18 zk zk (St.eY hS) ?_;simp only[List.take_succ_cons,List.take_zero,List.drop_succ_cons,List.drop_zero];clear hS;(repeat ((go_big_quiet_want;(first|((with_reducible refine Xf ?_);refine jW rfl rfl ?_;refine zF ?_)|((with_reducible refine Uj ?_);(refine pq rfl rfl ?_);refine⟨_,zd,?_⟩;refine zF ?_)|((with_reducible refine YW ?_);refine mF ?_;refine⟨_,_,by(intro _;go_simp;exact⟨rfl,rfl⟩),?_⟩;refine⟨_,by(intro w' hS;(first|(go_at_call 100;exact yH _ _ _)|(go_at_call 120;exact yT _ _ zc _))),?_⟩;refine zF ?_)|(refine gu ?_;refine⟨_,zp,?_⟩;refine zF ?_));go_big_quiet_on)));refine wpQuiet_nil ?_;intro w' hS)
      have HB:=rJ (s.aK i) (nV (sums out (k.fills i)) (dO (s.aP i).1 (s.aP i).2)) (by have:=hs.fZ i;omega) (by have:=JX (sums out (k.fills i)) (dO (s.aP i).1 (s.aP i).2);omega);replace HB:=aj HB;have HS2:=yR out i (uX k s (mJ k s m) i);rw[HF.out]at HS2;replace HS2:=aj HS2;go_wp2_with (refine ys ?_;clear hS;intro w' hS;try (simp only[HB.out,<- HU.out,HS2.out]at hS))
      go_roundw
      case rel=>exact⟨m+1,by omega,by rw[HM.out],hS⟩
      case measure =>
       show((i:Int)-1+1).toNat<((i:Int)+1).toNat;omega
  ·obtain rfl:m=k.n:=by omega
   have e1:(k.n:Int)-1-k.n=-1:=by omega
   rw[e1];have HO:(mM (mJ k s k.n)).length=6:=by rw[cZ,kZ]
   go_wp2_with (first|(refine ym ?_;clear hS;intro w' hS)|(refine ys ?_;clear hS;intro w' hS))
   (refine yj ?_;refine bK ⟨_,by exact bH (r1:=.cell 4 96) zk (by exact rX hS rfl zd),?_⟩ rfl)
   exact⟨rfl,hS.bM⟩
theorem wW (V:View) (p:Nat) (k:Wk) (hC:jh V p k) (s:SS) (hs:s.WF) (w:World) (hV:V.In w) :
  Calls Tryd.prog 116 #[ptr p,.agg (dJ s).toArray] w fun r w'=>r=.returned (lN k s)/\Kp w w':=by
 obtain⟨ts,vv,rv,hC'⟩:=id hC;obtain⟨g,cap,hc2,hts⟩:=hC'.c2;have hn0:=hC'.pos;have hn6:=hC'.le;have HL:(dJ s).length=18:=dG hs;have HU:(mM (up k s)).length=6:=by rw[cZ];exact kZ k s _
 have hS:=St.start w V hV;clear hts hC';unfold ptr;go_enter Tryd.func116,Tryd.ntmps116
 go_wp2_with (first|(refine ym ?_;clear hS;intro w' hS)|(refine ys ?_;clear hS;intro w' hS)|(refine yb 3 ?_;clear hS;intro b3 w' hS)|(refine ya 5 ?_;clear hS;intro b5 w' hS)|((with_reducible refine gC ?_);refine aH hS ⟨_,by(go_at_call 92;exact YF _ _ _ (by assumption) _ zc _ (St.view (by assumption))),?_⟩;clear hS;intro w' hS))
 go_loopw [6] (fun i wr=>∃ m:Nat,m<=k.n/\i=.int .i64 ((k.n:Int)-1-m)/\(∀ j,k.n-m<=j->j<k.n->(up k s).getD j 0≠0)/\St w [] V [.blk b5 96 (mM (up k s)),.blk b3 100 (dJ s)] wr) (fun i _=>((intOf i)+1).toNat)
 case atStart=>exact⟨0,by omega,by simp,fun j h1 h2=>by omega,hS⟩
 case round =>
  clear hS;obtain⟨m,hm,rfl,hz,hS⟩:=hrel;by_cases hlt:m<k.n
  ·obtain ⟨i,hi⟩:∃ i,i+m+1=k.n:=⟨k.n - 1 - m,by omega⟩;have e1:(k.n:Int) - 1 - m=(i:Int):=by omega
   rw[e1];have h0:(0:Int)<=i:=by omega
   have h1:(i:Int)<6:=by omega
   have HM:(i:Int)-1=(k.n:Int)-1-((m+1:Nat):Int):=by omega
   replace HM:=aj HM;have hu:=wF (l:=up k s) (i:=i) (by rw[cZ]at HU;omega);have HZ:(up k s).getD i 0=0->Go.Wg.settle k s=some i:=fun h=>MH zw h fun j h1 h2=>hz j zw h2
   have HN:(up k s).getD i 0≠0->∀ j,k.n-(m+1)<=j->j<k.n->(up k s).getD j 0≠0:=fun h j h1 h2=>by
    rcases Nat.lt_or_ge i j with h3|h3
    ·exact hz j zw h2
    ·obtain rfl:j=i:=by omega
     exact h
   replace HZ:=aj HZ;replace HN:=aj HN;replace hz:=aj hz;generalize (up k s).getD i 0=u at hu HZ HN;by_cases hu0:u=0
   ·subst hu0;go_wp2_with (refine yy ?_;clear hS;intro w' hS)
    go_ret
    refine⟨?_,hS.bM⟩;unfold lN;rw[HZ.out (by simp)];rfl
   ·have hu1:(((u:Nat):Int) == 0)=false:=by rw [beq_eq_false_iff_ne];omega
    go_wp2_with (refine yy ?_;clear hS;intro w' hS)
    go_roundw
    case rel=>exact⟨m+1,by omega,by rw[HM.out],HN.out hu0,hS⟩
    case measure =>
     show((i:Int)-1+1).toNat<((i:Int)+1).toNat;omega
  ·obtain rfl:m=k.n:=by omega
   have e1:(k.n:Int)-1-k.n=-1:=by omega
   rw[e1];have HN:Go.Wg.settle k s=none:=J5 fun j hj=>hz j zw hj
   replace HN:=aj HN;clear hz;go_wp2_with (fail)
   go_ret
   refine⟨?_,hS.bM⟩;unfold lN;rw[HN.out];rfl
abbrev GV (V:View):Prop:=V.Cell 0 0 XF
theorem Dx (V:View) (p:Nat) (k:Wk) (hC:jh V p k) (hG:GV V) (s:SS) (hs:s.WF) (w:World) (hV:V.In w) :
  Calls Tryd.prog 78 #[ptr p,.agg (dJ s).toArray] w fun r w'=>r=.returned (.bool (can k s))/\Kp w w':=by
 have HL:(dJ s).length=18:=dG hs;have hS:=St.start w V hV;unfold can;cases hst:Go.Wg.settle k s with
 |none =>
  have HV:lN k s=.nilIface:=by unfold lN;rw[hst]
  replace hst:=aj hst;go_enter Tryd.func78,Tryd.ntmps78
  go_wp2_with (first|(refine yy ?_;clear hS;intro w' hS)|(refine ye ?_;clear hS;intro _ w' hS)|(refine yf ?_;clear hS;intro _ w' hS)|((with_reducible refine gC ?_);refine aH hS ⟨_,by(go_at_call 116;exact wW _ _ _ (by assumption) _ zc _ (St.view (by assumption))),?_⟩;clear hS;intro w' hS)|(go_at_call 115;refine(as_nil _ _).mono ?_;rintro _ w' ⟨rfl,rfl⟩))
  go_ret
  exact⟨rfl,hS.bM⟩
 |some i =>
  have HV:lN k s=.iface 152 (.agg #[.int .i64 (i:Int)]):=by unfold lN;rw[hst]
  replace hst:=aj hst;go_enter Tryd.func78,Tryd.ntmps78
  go_wp2_with (first|(refine yy ?_;clear hS;intro w' hS)|(refine ye ?_;clear hS;intro _ w' hS)|(refine yf ?_;clear hS;intro _ w' hS)|((with_reducible refine gC ?_);refine aH hS ⟨_,by(go_at_call 116;exact wW _ _ _ (by assumption) _ zc _ (St.view (by assumption))),?_⟩;clear hS;intro w' hS)|(go_at_call 115;refine(as_hit _ _ _ _ (View.Cell.cell hG hS.view) (hS.at (j:=0) rfl)).mono ?_;rintro _ w' ⟨rfl,hk⟩;replace hS:=hS.but rfl hk;clear hk))
  go_ret
  exact⟨rfl,hS.bM⟩
theorem O9 (n lo hi:Int) (w:World) :
  Calls Tryd.prog 88 #[.int .i64 n,.int .i64 lo,.int .i64 hi] w fun r w'=>r=.returned (.bool (decide (n<lo) || decide (hi<n)))/\w'=w:=by
 go_enter Tryd.func88,Tryd.ntmps88
 go_wp2
 all_goals (go_ret;simp_all)
theorem SQ (b:Bool) (e:Int) (w:World) :
  Calls Tryd.prog 87 #[.bool b,.int .i64 e] w fun r w'=>r=.returned (.int .i64 (if b then 0 else e))/\w'=w:=by
 cases b;all_goals
  go_enter Tryd.func87,Tryd.ntmps87
  go_wp2
  go_ret
  exact⟨rfl,rfl⟩
theorem XW (r:je) (w:World):Calls Tryd.prog 80 #[.agg r.cells.toArray] w fun e w'=>e=.returned (.bool (aC r))/\Kp w w':=by
 have hS:=St.start w (fun _=>none) (fun k o h=>by cases h);unfold je.cells;go_enter Tryd.func80,Tryd.ntmps80
 go_wp2_with (refine yf ?_;clear hS;intro _ w' hS)
 go_ret
 exact⟨rfl,hS.bM⟩
theorem zL (V:View) (p:Nat) (k:Wk) (hC:jh V p k) (hok:k.Ok) (bv:Value) (hbv:(⟨#[],[]⟩:Act).eval (.func 80)=bv) (w:World) (hV:V.In w) :
  Calls Tryd.prog 79 #[ptr p,bv] w fun r w'=>r=.returned (.agg (dJ (aN k aC)).toArray)/\Kp w w':=by
 obtain⟨ts,vv,rv,hC'⟩:=id hC;obtain⟨va,vcap,rfl,hvc,hvm,hve⟩:=hC'.ves.is;obtain⟨ra,rcap,rfl,hrc,hrm,hre⟩:=hC'.rdg.is;have hc0:=hC'.c0;have hc1:=hC'.c1;have hn0:=hC'.pos;have hn6:=hC'.le;have hr6:=hok.rdl;obtain⟨vg,vo,rfl,hvr⟩:=hve hn0;have hS:=St.start w V hV;clear hC';unfold ptr;simp only[Act.eval]at hbv;subst hbv;go_enter Tryd.func79,Tryd.ntmps79
 go_wp2_with (first|(refine yy ?_;clear hS;intro w' hS)|(refine ya 4 ?_;clear hS;intro b4 w' hS)|(refine ya 5 ?_;clear hS;intro b5 w' hS))
 go_loopw [16] (fun i wr=>∃ m:Nat,m<=k.n/\i=.int .i64 (m:Int)/\St w [] V [.blk b5 100 (dJ (lS k m)),.blk b4 100 (List.replicate 6 (.int .u64 0) ++ List.replicate 12 (.int .i64 0))] wr) (fun i _=>k.n-(intOf i).toNat)
 case atStart=>exact⟨0,by omega,rfl,hS⟩
 case round =>
  clear hS;obtain⟨m,hm,rfl,hS⟩:=hrel;by_cases hlt:m<k.n
  ·have h0:(0:Int)<=m:=by omega
   have h1:(m:Int)<k.n:=by omega
   have h6:m<6:=by omega
   have h7:(m:Int)<6:=by omega
   have hcell:=hvr m hlt;have hcl:(k.v m).cells.length=4:=rfl;have HLn:(dJ (lS k m)).length=18:=dG (nX k m);clear hvr hve hre;go_wp2_with (first|(refine ym ?_;clear hS;intro w' hS)|(refine ys ?_;clear hS;intro w' hS)|(refine ya 7 ?_;clear hS;intro b7 w' hS))
   unfold nN.cells at hS;have HS1:(dJ (lS k m)).set m (.int .u64 (dO 0 (k.v m).room:Nat))=dJ ((lS k m).cu m (dO 0 (k.v m).room)):=pO (nX k m) h6 _;replace HS1:=aj HS1;(refine bF (S:=(St w [] V [.blk b7 29 [.int .i64 (k.v m).from_,.int .i64 (k.v m).room,.int .i64 (k.v m).lo,.int .i64 (k.v m).hi],.blk b4 100 (List.replicate 6 (.int .u64 0) ++ List.replicate 12 (.int .i64 0))])) (List.replicate 13 false) rfl zk ?_;replace hS:=St.eY hS;(refine yh [.m 0,.m 1,.p 2,.a 3,.p 5,.b 6,.p 7,.p 10] ?_);(refine Jt 4 zk rfl hS rfl  ?_;refine⟨_,_,zo,?_⟩;refine⟨_,by(go_at_call 100;exact yH _ _ _),?_⟩;clear hS;refine zH ?_;intro w' hS;refine⟨(St.aG hS),?_⟩);(refine yh [.p 8] ?_);((refine jl 9 zk rfl hS rfl  rfl rfl ?_;refine⟨_,zd,?_⟩);clear hS;refine zH ?_;intro w' hS;(try simp only[sE]at hS);refine⟨(St.aG hS),?_⟩);(refine yh [.p 11] ?_);((refine Qm 12 zk rfl hS rfl  rfl rfl ?_;refine⟨_,zd,?_⟩);clear hS;refine zH ?_;intro w' hS;(try simp only[sE]at hS);refine⟨(St.aG hS),?_⟩);refine wpAnyH_done zk ?_ _)
   have HS2:=KX ((lS k m).cu m (dO 0 (k.v m).room)) ((nX k m).cu (rG _ _)) m h6 (k.v m).lo (k.v m).hi;rw[HS1.out,HS2]at hS;replace hS:=hS.drop;clear HS1 HS2 HLn hcell hcl;go_wp2_with (fail)
   go_roundw
   case rel=>exact⟨m+1,by omega,by go_num,hS⟩
   case measure=>simp[intOf];omega
  ·obtain rfl:m=k.n:=by omega
   clear hvr hve;have HLn:(dJ (lS k k.n)).length=18:=dG (nX k k.n);go_wp2_with (refine yy ?_;clear hS;intro w' hS)
   go_loopw [39] (fun i wr=>∃ q:Nat,q<=k.rdg.length/\i=.int .i64 (q:Int)/\St w [] V [.blk b5 100 (dJ ((k.rdg.take q).foldl (lU aC) (lS k k.n))),.blk b4 100 (List.replicate 6 (.int .u64 0) ++ List.replicate 12 (.int .i64 0))] wr) (fun i _=>k.rdg.length-(intOf i).toNat)
   case atStart=>exact⟨0,by omega,rfl,hS⟩
   case round =>
    clear hS;obtain⟨q,hq,rfl,hS⟩:=hrel;have hwf:((k.rdg.take q).foldl (lU aC) (lS k k.n)).WF:=Vf (nX k k.n) _;by_cases hqt:q<k.rdg.length
    ·have h0:(0:Int)<=q:=by omega
     have h1:(q:Int)<k.rdg.length:=by omega
     obtain⟨rg,ro,rfl,hrr⟩:=hre zw;have hcell:=hrr q hqt;obtain⟨ov1,ov2,_,_,os1,os2,oe1,oe2⟩:=hok.rdg q hqt;have HN:(k.rdg.take (q+1)).foldl (lU aC) (lS k k.n)=lU aC ((k.rdg.take q).foldl (lU aC) (lS k k.n)) (k.rdg.getD q default):=by
      rw[List.take_succ_eq_append_getElem hqt,List.foldl_append];simp[List.getD_eq_getElem?_getD,List.getElem?_eq_getElem hqt]
     replace HN:=aj HN;generalize k.rdg.getD q default=r at hcell ov1 ov2 os1 os2 oe1 oe2 HN;obtain⟨x,hx⟩:∃ x:Nat,r.vessel=(x:Int):=⟨r.vessel.toNat,by omega⟩;have hx6:x<6:=by omega
     have hx6':(x:Int)<6:=by omega
     have hx0:(0:Int)<=x:=by omega
     generalize (k.rdg.take q).foldl (lU aC) (lS k k.n)=s at hwf hS HN;have HLs:(dJ s).length=18:=dG hwf;have hlx:=oh hwf hx6;have hcl:r.cells.length=4:=rfl;clear hrr hre HLn;have HB:=rJ (s.aK x) (dO (r.shown-r.err) (r.shown+r.err)) (by have:=hwf.fZ x;omega) (by have:=rG (r.shown-r.err) (r.shown+r.err);omega);replace HB:=aj HB;have HS:=pO hwf hx6 (s.aK x &&& dO (r.shown-r.err) (r.shown+r.err));replace HS:=aj HS;have HR:lU aC s r=s.cu x (s.aK x &&& dO (r.shown-r.err) (r.shown+r.err)):=by
      unfold lU aC;rw[hx];rfl
     replace HR:=aj HR;go_wp2_with (first|(refine ym ?_;clear hS;intro w' hS)|(refine ys ?_;clear hS;intro w' hS)|(refine ye ?_;clear hS;intro _ w' hS)|(go_at_call 80;refine rH (by assumption) (XW r _) ?_;intro w' hS))
     have hc0:r.cells=[.int .i64 x,.int .i64 r.scale,.int .i64 r.shown,.int .i64 r.err]:=by unfold je.cells;rw[hx]
     rw[hc0]at hS;(refine aY 19 zk zk (St.eY hS) ?_;simp only[List.take_succ_cons,List.take_zero,List.drop_succ_cons,List.drop_zero];clear hS;(repeat ((go_big_quiet_want;(first|((with_reducible refine Uj ?_);(refine pq rfl rfl ?_);refine⟨_,zd,?_⟩;refine zF ?_)|((with_reducible refine YW ?_);refine mF ?_;refine⟨_,_,by(intro _;go_simp;exact⟨rfl,rfl⟩),?_⟩;refine⟨_,by(intro w' hS;((go_at_call 100;exact yH _ _ _))),?_⟩;refine zF ?_)|(refine gu ?_;refine⟨_,zp,?_⟩;refine zF ?_));go_big_quiet_on)));refine wpQuiet_nil ?_;intro w' hS)
     go_wp2_with (refine ys ?_;clear hS;intro w' hS;try (simp only[HB.out,HS.out,<- HR.out,<- HN.out]at hS))
     replace hS:=hS.drop;go_roundw
     case rel=>exact⟨q+1,by omega,by go_num,hS⟩
     case measure=>simp[intOf];omega
    ·obtain rfl:q=k.rdg.length:=by omega
     simp only[List.take_length]at hS hwf;have HLs:=dG hwf;clear hre;go_wp2_with (first|(refine ym ?_;clear hS;intro w' hS)|(refine ys ?_;clear hS;intro w' hS))
     (refine yj ?_;refine bK ⟨_,by exact bH (r1:=.cell 4 100) zk (by exact rX hS rfl zd),?_⟩ rfl)
     exact⟨rfl,hS.bM⟩
theorem y8 (V:View) (p:Nat) (k:Wk) (hC:jh V p k) (hok:k.Ok) (hcan:can k (aN k aC)=true) (w:World) (hV:V.In w) :
  Calls Tryd.prog 83 #[ptr p] w fun r w'=>r=.returned (.agg (dJ (aN k aC)).toArray)/\Kp w w':=by
 have hwf:=gG k aC;have HL:(dJ (aN k aC)).length=18:=dG hwf;have HV:lN k (aN k aC)=.nilIface:=by
  unfold lN;unfold can at hcan;rw[Option.isNone_iff_eq_none]at hcan;rw[hcan]
 have hS:=St.start w V hV;replace hcan:=aj hcan;unfold ptr;go_enter Tryd.func83,Tryd.ntmps83
 go_wp2_with (first|(refine ym ?_;clear hS;intro w' hS)|(refine ys ?_;clear hS;intro w' hS)|(refine ye ?_;clear hS;intro _ w' hS)|((with_reducible refine gC ?_);refine aH hS ⟨_,by(first|(go_at_call 116;exact wW _ _ _ (by assumption) _ zc _ (St.view (by assumption)))|(go_at_call 79;exact zL _ _ _ (by assumption) (by assumption) _ rfl _ (St.view (by assumption)))),?_⟩;clear hS;intro w' hS))
 (refine yj ?_;refine bK ⟨_,by exact bH (r1:=.cell 2 100) zk (by exact rX hS rfl zd),?_⟩ rfl)
 exact⟨rfl,hS.bM⟩
theorem zN (V:View) (p:Nat) (k:Wk) (hC:jh V p k) (hok:k.Ok) (i:Nat) (hno:Go.Wg.settle k (aN k aC)=some i) (w:World) (hV:V.In w) :
  Calls Tryd.prog 83 #[ptr p] w fun r w'=>r=.panicked [{v:=.iface 152 (.agg #[.int .i64 (i:Int)]),recovered:=false}]/\Kp w w':=by
 have hwf:=gG k aC;have HL:(dJ (aN k aC)).length=18:=dG hwf;have HV:lN k (aN k aC)=.iface 152 (.agg #[.int .i64 (i:Int)]):=by
  unfold lN;rw[hno]
 have hS:=St.start w V hV;replace hno:=aj hno;unfold ptr;go_enter Tryd.func83,Tryd.ntmps83
 go_wp2_with (first|(refine ym ?_;clear hS;intro w' hS)|(refine ys ?_;clear hS;intro w' hS)|(refine ye ?_;clear hS;intro _ w' hS)|((with_reducible refine gC ?_);refine aH hS ⟨_,by(first|(go_at_call 116;exact wW _ _ _ (by assumption) _ zc _ (St.view (by assumption)))|(go_at_call 79;exact zL _ _ _ (by assumption) (by assumption) _ rfl _ (St.view (by assumption)))),?_⟩;clear hS;intro w' hS))
 exact⟨rfl,rfl,hS.bM⟩
theorem Y9 (a b:Int):(if b<a then b else a)=min a b:=by split<;>omega
theorem adg (a b:Int):(if a<b then b else a)=max a b:=by split<;>omega
theorem Af (V:View) (p:Nat) (k:Wk) (hC:jh V p k) (hG:GV V) (s:SS) (hs:s.WF) (v:Nat) (hv:v<6) (w:World) (hV:V.In w) :
  Calls Tryd.prog 99 #[ptr p,.agg (dJ s).toArray,.int .i64 v] w fun r w'=>r=.returned (aJ (aO k s v))/\Kp w w':=by
 have HL:(dJ s).length=18:=dG hs;have hS:=St.start w V hV;unfold ptr;go_enter Tryd.func99,Tryd.ntmps99
 go_wp2_with (first|(refine ys ?_;clear hS;intro w' hS)|(refine yb 4 ?_;clear hS;intro b4 w' hS)|(refine ya 6 ?_;clear hS;intro b6 w' hS)|(refine ya 7 ?_;clear hS;intro b7 w' hS))
 go_loopw [10] (fun i wr=>∃ m:Nat,m<=41/\i=.int .i64 (m:Int)/\St w [] V [.blk b7 27 [.int .i64 (bZ k s v m).1,.int .i64 (bZ k s v m).2],.blk b6 27 (List.replicate 2 (.int .i64 0)),.blk b4 100 (dJ s)] wr) (fun i _=>41-(intOf i).toNat)
 case atStart=>exact⟨0,by omega,rfl,hS⟩
 case round =>
  clear hS;obtain⟨m,hm,rfl,hS⟩:=hrel;have hbd:=qE k s v m hm;by_cases hlt:m<41
  ·have h0:(0:Int)<=m:=by omega
   have h1:(m:Int)<41:=by omega
   have HN:bZ k s v (m+1)=if can k (s.weighed v (m:Nat)) then(min (bZ k s v m).1 m,(m:Int)) else bZ k s v m:=rfl
   replace HN:=aj HN;generalize bZ k s v m=pr at hS HN hbd;obtain⟨lo,hi⟩:=pr;simp only at hS hbd;generalize hcn:can k (s.weighed v (m:Nat))=cn at HN;have hw:=hs.weighed v (m:Nat);have hcon:∀ w',V.In w'->Calls Tryd.prog 78 #[.pointer (some ⟨p,0,none⟩),.agg (dJ (s.weighed v (m:Nat))).toArray] w' fun r w''=>r=.returned (.bool cn)/\Kp w' w'':=fun w' hV'=>by rw[<- hcn];exact Dx V p k hC hG _ hw w' hV'
   replace hcn:=aj hcn;cases cn
   ·go_wp2_with (first | (refine yy ?_;clear hS;intro w' hS) | (go_at_call 78;refine rH (by assumption) (hcon _ (St.view (by assumption))) ?_;intro w' hS) | ((with_reducible refine gC ?_);refine aH hS ⟨_,by (go_at_call 84;exact sV _ zc _ zc _ _),?_⟩;clear hS;intro w' hS))
    go_roundw
    case rel=>exact⟨m+1,by omega,by go_num,by rw[HN.out,if_neg (by simp)];exact hS⟩
    case measure=>simp[intOf];omega
   ·go_wp2_with (first | (refine ym ?_;clear hS;intro w' hS) | (refine ys ?_;clear hS;intro w' hS) | (go_at_call 78;refine rH (by assumption) (hcon _ (St.view (by assumption))) ?_;intro w' hS) | ((with_reducible refine gC ?_);refine aH hS ⟨_,by (go_at_call 84;exact sV _ zc _ zc _ _),?_⟩;clear hS;intro w' hS))
    go_roundw
    case rel=>exact⟨m+1,by omega,by go_num,by rw[HN.out,if_pos (by simp),<- Y9];exact hS⟩
    case measure=>simp[intOf];omega
  ·obtain rfl:m=41:=by omega
   go_wp2_with (first|(refine ym ?_;clear hS;intro w' hS)|(refine ys ?_;clear hS;intro w' hS))
   (refine yj ?_;refine bK ⟨_,by exact bH (r1:=.cell 6 27) zk (by exact rX hS rfl zd),?_⟩ rfl)
   exact⟨rfl,hS.bM⟩
theorem ac9 (V:View) (p:Nat) (k:Wk) (hC:jh V p k) (hG:GV V) (s:SS) (hs:s.WF) (v:Nat) (hv:v<k.n) (hlo:0<=(s.aP v).1) (hhi:(s.aP v).2<=100) (w:World) (hV:V.In w) :
  Calls Tryd.prog 110 #[ptr p,.agg (dJ s).toArray,.int .i64 v] w fun r w'=>r=.returned (aJ (aal k s v))/\Kp w w':=by
 obtain⟨ts,vv,rv,hC'⟩:=id hC;obtain⟨g,cap,hc2,hts⟩:=hC'.c2;have hn6:=hC'.le;have hv6:v<6:=by omega
 have hv6':(v:Int)<6:=by omega
 have hvn:(v:Int)<k.n:=by omega
 have hv0:(0:Int)<=v:=by omega
 have hti:=hts v hv;obtain⟨fv,hf5,hfs⟩:=hC'.fil v hv;obtain⟨fa,fcap,rfl,hfc,hfm,hfe⟩:=hfs.is;have HL:(dJ s).length=18:=dG hs;have hS:=St.start w V hV;unfold ptr at hti |-;generalize ts.getD v 0=ti at hti hf5;clear hts hfe hfs hC';unfold aal;by_cases hf:k.fills v=[]
 ·rw [if_pos hf];rw [hf] at hf5;simp only [List.length_nil] at hf5;go_enter Tryd.func110,Tryd.ntmps110
  go_wp2_with (first|(refine ym ?_;clear hS;intro w' hS)|(refine ys ?_;clear hS;intro w' hS)|(refine yb 4 ?_;clear hS;intro b4 w' hS)|(refine ya 6 ?_;clear hS;intro b6 w' hS))
  (refine yj ?_;refine bK ⟨_,by exact bH (r1:=.cell 6 27) zk (by exact rX hS rfl zd),?_⟩ rfl)
  exact⟨rfl,hS.bM⟩
 ·rw [if_neg hf];have hfl:0 < (k.fills v).length:=List.length_pos_iff.2 hf;have hfl':(((k.fills v).length:Int) == 0)=false:=by rw [beq_eq_false_iff_ne];omega
  have hl1:=UR hs hv6;have hz:aeJ k s v 0=((s.aP v).2,(s.aP v).1):=rfl;have hsl:∀ q,(s.eu v q).aP v=q:=fun q=>SS.zx s hs v hv6 q
  generalize hlo1:(s.aP v).1=lo at *;generalize hhi1:(s.aP v).2=hi at *;go_enter Tryd.func110,Tryd.ntmps110
  go_wp2_with (first|(refine ym ?_;clear hS;intro w' hS)|(refine ys ?_;clear hS;intro w' hS)|(refine yb 4 ?_;clear hS;intro b4 w' hS)|(refine ya 6 ?_;clear hS;intro b6 w' hS)|(refine ya 7 ?_;clear hS;intro b7 w' hS)|(refine ya 8 ?_;clear hS;intro b8 w' hS))
  have hz2:s.eu v (lo,hi)=s:=by
   have:=OQ hs hv6;unfold jP at this;simpa[hlo1,hhi1]using this
  go_loopw [9] (fun i wr=>∃ m:Nat,∃ q,lo+m<=max lo (hi+1)/\i=.int .i64 (lo+m)/\St w [] V [.blk b8 27 [.int .i64 (aeJ k s v m).1,.int .i64 (aeJ k s v m).2],.blk b7 27 [.int .i64 lo,.int .i64 hi],.blk b6 27 (List.replicate 2 (.int .i64 0)),.blk b4 100 (dJ (s.eu v q))] wr) (fun i _=>(hi+1-intOf i).toNat)
  case atStart=>exact⟨0,(lo,hi),by omega,by simp,by rw[hz,hz2];exact hS⟩
  case round =>
   clear hS;obtain⟨m,q,hm,rfl,hS⟩:=hrel;by_cases hlt:lo+m<=hi
   ·have hmm:(m:Int)=((m:Nat):Int):=rfl;have HN:aeJ k s v (m+1)=if can k (s.eu v (lo+m,lo+m)) then (min (aeJ k s v m).1 (lo+m),max (aeJ k s v m).2 (lo+m)) else aeJ k s v m:=by
     show(if can k (s.eu v ((s.aP v).1+m,(s.aP v).1+m)) then _ else _)=_;rw[hlo1]
    replace HN:=aj HN;generalize aeJ k s v m=pr at hS HN;obtain⟨pl,ph⟩:=pr;simp only at hS HN;have hwf:(s.eu v q).WF:=hs.eu;have HSP:=KX (s.eu v q) hwf v hv6 (lo+m) (lo+m);rw[SS.JD]at HSP;replace HSP:=aj HSP;have hlq:(dJ (s.eu v q)).length=18:=dG hwf;have hlq2:(dJ (s.eu v (lo+m,lo+m))).length=18:=dG hs.eu;generalize hcn:can k (s.eu v (lo+m,lo+m))=cn at HN;have hcon:∀ w',V.In w'->Calls Tryd.prog 78 #[.pointer (some ⟨p,0,none⟩),.agg (dJ (s.eu v (lo+m,lo+m))).toArray] w' fun r w''=>r=.returned (.bool cn)/\Kp w' w'':=fun w' hV'=>by rw[<- hcn];exact Dx V p k hC hG _ hs.eu w' hV'
    replace hcn:=aj hcn;replace hlo1:=aj hlo1;replace hhi1:=aj hhi1;cases cn
    ·go_wp2_with (first | (refine yy ?_;clear hS;intro w' hS;try simp only [HSP.out] at hS) | (refine ys ?_;clear hS;intro w' hS;try simp only [HSP.out] at hS) | (go_at_call 78;refine rH (by assumption) (hcon _ (St.view (by assumption))) ?_;intro w' hS))
     go_roundw
     case rel=>exact⟨m+1,(lo+m,lo+m),by omega,by go_num,by rw[HN.out,if_neg (by simp)];exact hS⟩
     case measure=>simp only[intOf];omega
    ·go_wp2_with (first | (refine ym ?_;clear hS;intro w' hS;try simp only [HSP.out] at hS) | (refine ys ?_;clear hS;intro w' hS;try simp only [HSP.out] at hS) | (go_at_call 78;refine rH (by assumption) (hcon _ (St.view (by assumption))) ?_;intro w' hS))
     go_roundw
     case rel=>exact⟨m+1,(lo+m,lo+m),by omega,by go_num,by rw[HN.out,if_pos (by simp),<- Y9,<- adg];exact hS⟩
     case measure=>simp only[intOf];omega
   ·have hme:(hi - lo+1).toNat=m:=by omega
    replace hme:=aj hme;go_wp2_with (first|(refine ym ?_;clear hS;intro w' hS)|(refine ys ?_;clear hS;intro w' hS))
    (refine yj ?_;refine bK ⟨_,by exact bH (r1:=.cell 6 27) zk (by exact rX hS rfl zd),?_⟩ rfl)
    exact⟨by rw[hme.out];rfl,hS.bM⟩
theorem find_range {P:Nat->Bool} {n m:Nat} (hm:m<n) (h:P m=true) (h0:∀ j,j<m->P j=false):(List.range n).find? P=some m:=by
 induction n with
 |zero=>omega
 | succ n ih =>
  rw[List.range_succ,List.find?_append];by_cases hmn:m<n
  ·rw[ih hmn];rfl
  ·have:m=n:=by omega
   subst this;have:(List.range m).find? P=none:=by
    rw[List.find?_eq_none];intro j hj;rw[h0 j (List.mem_range.1 hj)];simp
   rw[this];simp[h]
theorem BU {P:Nat->Bool} {n:Nat} (h0:∀ j,j<n->P j=false):(List.range n).find? P=none:=by
 rw[List.find?_eq_none];intro j hj;rw[h0 j (List.mem_range.1 hj)];simp
def IQ:Option Nat->Value
 |none=>.tuple #[.int .i64 0,.bool false]
 |some n=>.tuple #[.int .i64 n,.bool true]
theorem Ti (V:View) (p:Nat) (k:Wk) (hC:jh V p k) (hok:k.Ok) (hG:GV V) (v:Nat) (hv:v<6) (hhi0:0<=((aN k aC).aP v).2) (hhi:((aN k aC).aP v).2<=100) (w:World) (hV:V.In w) :
  Calls Tryd.prog 101 #[ptr p,.int .i64 v] w fun r w'=>r=.returned (IQ (zn k v))/\Kp w w':=by
 have hwf:=gG k aC;have HL:(dJ (aN k aC)).length=18:=dG hwf;have hv6':(v:Int)<6:=by omega
 have hv0:(0:Int)<=v:=by omega
 have hS:=St.start w V hV;have HB:zn k v=(List.range 41).find? fun n=>can k (jP (aN k aC) v n):=rfl
 replace HB:=aj HB;have hz:=OQ hwf hv;replace hz:=aj hz;unfold ptr;go_enter Tryd.func101,Tryd.ntmps101
 go_wp2_with (first|(refine ys ?_;clear hS;intro w' hS)|(refine ya 6 ?_;clear hS;intro b6 w' hS)|((with_reducible refine gC ?_);refine aH hS ⟨_,by(go_at_call 79;exact zL _ _ _ (by assumption) (by assumption) _ rfl _ (St.view (by assumption))),?_⟩;clear hS;intro w' hS))
 generalize aN k aC=s at hwf HL HB hz hhi hhi0 hS |-;go_loopw [10] (fun i wr=>∃ m:Nat,m<=41/\i=.int .i64 (m:Int)/\(∀ j,j<m->can k (jP s v j)=false)/\St w [] V [.blk b6 100 (dJ (jP s v m))] wr) (fun i _=>41-(intOf i).toNat)
 case atStart=>exact⟨0,by omega,rfl,fun j hj=>by omega,by rw[hz.out];exact hS⟩
 case round =>
  clear hS;obtain⟨m,hm,rfl,hlow,hS⟩:=hrel;by_cases hlt:m<41
  ·have h0:(0:Int)<=m:=by omega
   have h1:(m:Int)<41:=by omega
   have hwm:=Xc hwf v m;have hlm:(dJ (jP s v m)).length=18:=dG hwm;have HN:=OI hwf hv m;have hlh:=Pm hwm hv;have hse:=He hwm hv (((jP s v m).aP v).2+1);rw[HN]at hse;have hval:((jP s v m).aP v).2=(s.aP v).2+m:=by
    unfold jP;rw[SS.zx s hwf v hv]
   have hbd:0<=((jP s v m).aP v).2/\((jP s v m).aP v).2<=141:=by omega
   clear hval;generalize ((jP s v m).aP v).2=hi at hlh hse hbd;replace hse:=aj hse;replace HN:=aj HN;generalize hcn:can k (jP s v m)=cn;have hcon:∀ w',V.In w'->Calls Tryd.prog 78 #[.pointer (some ⟨p,0,none⟩),.agg (dJ (jP s v m)).toArray] w' fun r w''=>r=.returned (.bool cn)/\Kp w' w'':=fun w' hV'=>by rw[<- hcn];exact Dx V p k hC hG _ hwm w' hV'
   replace hcn:=aj hcn;replace hlow:=aj hlow;cases cn
   ·go_wp2_with (first | (refine ym ?_;clear hS;intro w' hS;try (simp only [hse.out] at hS)) | (refine ys ?_;clear hS;intro w' hS;try (simp only [hse.out] at hS)) | (go_at_call 78;refine rH (by assumption) (hcon _ (St.view (by assumption))) ?_;intro w' hS))
    go_roundw
    case rel =>
     refine⟨m+1,by omega,by go_num,fun j hj=>?_,hS⟩;by_cases hjm:j=m
     ·subst hjm;exact hcn.out
     ·exact hlow.out j zw
    case measure=>simp only[intOf];omega
   ·go_wp2_with (first | (refine yy ?_;clear hS;intro w' hS;try (simp only [hse.out] at hS)) | (go_at_call 78;refine rH (by assumption) (hcon _ (St.view (by assumption))) ?_;intro w' hS))
    (refine yj ?_;refine bK ⟨_,by exact dA (r1:=.tmp 4) (r2:=.tmp 5) zk (by exact bD rfl) (by exact bD rfl),?_⟩ rfl)
    refine⟨?_,hS.bM⟩;rw[HB.out,find_range hlt hcn.out hlow.out];rfl
  ·obtain rfl:m=41:=by omega
   replace hlow:=aj hlow;go_wp2_with (fail)
   (refine yj ?_;refine bK ⟨_,by exact dA (r1:=.tmp 4) (r2:=.tmp 5) zk (by exact bD rfl) (by exact bD rfl),?_⟩ rfl)
   refine⟨?_,hS.bM⟩;rw[HB.out,BU hlow.out];rfl
theorem MO (a b:Int × Int) (w:World):Calls Tryd.prog 126 #[aJ a,aJ b] w fun r w'=>r=.returned (aJ (sO a b))/\Kp w w':=by
 obtain⟨a1,a2⟩:=a;obtain⟨b1,b2⟩:=b;have hS:=St.start w (fun _=>none) (fun k o h=>by cases h);unfold aJ;go_enter Tryd.func126,Tryd.ntmps126
 go_wp2_with (first|(refine ym ?_;clear hS;intro w' hS)|(refine ys ?_;clear hS;intro w' hS)|(refine yb 2 ?_;clear hS;intro b2 w' hS)|(refine ye ?_;clear hS;intro _ w' hS)|(refine yf ?_;clear hS;intro _ w' hS))
 all_goals
  (refine yj ?_;refine bK ⟨_,by exact bH (r1:=.cell 4 27) zk (by exact rX hS rfl zd),?_⟩ rfl)
  refine⟨?_,hS.bM⟩;simp only[sO,Ending.returned.injEq,Value.agg.injEq];try simp
  try omega
theorem both_ok (a b:Int × Int) (h1:-9223372036854775808<=a.1+b.1) (h2:a.1+b.1<=9223372036854775807) (h3:-9223372036854775808<=a.2+b.2) (h4:a.2+b.2<=9223372036854775807) (w:World) :
  Calls Tryd.prog 127 #[aJ a,aJ b] w fun r w'=>r=.returned (aJ (dX a b))/\Kp w w':=by
 obtain⟨a1,a2⟩:=a;obtain⟨b1,b2⟩:=b;simp only at h1 h2 h3 h4;have hS:=St.start w (fun _=>none) (fun k o h=>by cases h);unfold aJ;go_enter Tryd.func127,Tryd.ntmps127
 go_wp2_with (first|(refine ym ?_;clear hS;intro w' hS)|(refine ys ?_;clear hS;intro w' hS)|(refine yb 2 ?_;clear hS;intro b2 w' hS)|(refine ye ?_;clear hS;intro _ w' hS)|(refine yf ?_;clear hS;intro _ w' hS))
 (refine yj ?_;refine bK ⟨_,by exact bH (r1:=.cell 4 27) zk (by exact rX hS rfl zd),?_⟩ rfl)
 exact⟨rfl,hS.bM⟩
theorem EJ (gr:Gr) (hwf:gr.WF) (g n:Nat) (hn:n<41) (v:Int × Int) (w:World) (hg:w.heap[g]? = some (.cells (sJ gr).toArray 170 (0,0))) :
  Calls Tryd.prog 133 #[.pointer (some ⟨g,0,none⟩),.int .i64 n,aJ v] w fun r w'=>r=.returned (.tuple #[])/\ni g w w'/\w'.heap[g]? = some (.cells (sJ (gr.add n v)).toArray 170 (0,0)):=by
 obtain⟨v1,v2⟩:=v;have hS:=St.xW w (fun _=>none) (fun k o h=>by cases h) hg rfl;have h0:(0:Int)<=n:=by omega
 have h1:(n:Int)<41:=by omega
 have h64:(n:Int)<64:=by omega
 have hL:=IE hwf;have hh:=sN hwf;have hj:=Wy hwf;have ha:=Fb hwf hn;have hsm:=hwf.small;unfold UW at hj;unfold aJ;cases hb:gr.has.testBit n
 ·go_enter Tryd.func133,Tryd.ntmps133
  go_wp2_with (first|(refine yy ?_;clear hS;intro w' hS)|(refine yf ?_;clear hS;intro _ w' hS)|(go_at_call 125;refine(ji gr.has n zw zw _).mono ?_;rw[hb];rintro _ w' ⟨rfl,rfl⟩))
  have hsp:=Ht hwf hn (v1,v2);have hwf':(Gr.mk (gr.at_.set n (v1,v2)) gr.has).WF:=⟨by simp[hwf.len],hwf.small⟩;have hL':=IE hwf';have hh':=sN hwf';have hset:=Dn hwf' (gr.has ||| 2 ^ n);have HB:bits .or .u64 (gr.has:Int) (IntKind.u64.wrap (2 ^ n))=((gr.has ||| 2 ^ n:Nat):Int):=by
   have:=Fh 1 n;have h2:(2:Nat) ^ n<2 ^ 41:=Nat.pow_lt_pow_right zw hn;rw[Nat.one_mul,Nat.mod_eq_of_lt zw]at this;rw[show((2:Int) ^ n)=(((1:Nat):Int) * 2 ^ n) by simp,this];exact Jw _ _ zw zw
  have HA:gr.add n (v1,v2)=⟨gr.at_.set n (v1,v2),gr.has ||| 2 ^ n⟩:=by simp[Gr.add,hb]
  replace hset:=aj hset;replace HB:=aj HB;replace HA:=aj HA;replace hsp:=aj hsp;(refine aY 6 zk zk (St.eY hS) ?_;simp only[List.take_succ_cons,List.take_zero,List.drop_succ_cons,List.drop_zero];clear hS;(repeat ((go_big_quiet_want;(first|((with_reducible refine Xf ?_);refine jW rfl rfl ?_;refine zF ?_)|((with_reducible refine Uj ?_);(refine wB rfl rfl ?_);refine⟨_,zd,?_⟩;refine zF ?_)|(refine gu ?_;refine⟨_,zp,?_⟩;refine zF ?_));go_big_quiet_on)));refine wpQuiet_nil ?_;intro w' hS)
  go_wp2_with (refine ys ?_;clear hS;intro w' hS)
  rw[hsp.out]at hS;(refine aY 9 zk zk (St.eY hS) ?_;simp only[List.take_succ_cons,List.take_zero,List.drop_succ_cons,List.drop_zero];clear hS;(repeat ((go_big_quiet_want;(first|((with_reducible refine Xf ?_);refine jW rfl rfl ?_;refine zF ?_)|((with_reducible refine Uj ?_);(refine pq rfl rfl ?_);refine⟨_,zd,?_⟩;refine zF ?_)|(refine gu ?_;refine⟨_,zp,?_⟩;refine zF ?_));go_big_quiet_on)));refine wpQuiet_nil ?_;intro w' hS)
  go_wp2_with (refine ys ?_;clear hS;intro w' hS;try (simp only[HB.out,hset.out]at hS))
  (refine yj ?_;refine bK ⟨_,by exact FB  zk,?_⟩ rfl)
  exact⟨rfl,hS.Js,by rw[HA.out];exact hS.at (j:=1) rfl⟩
 ·obtain ⟨u,hu⟩:∃ u,sO (gr.get n) (v1,v2)=u:=⟨_,rfl⟩;have hcon:∀ w',Calls Tryd.prog 126 #[.agg #[.int .i64 (gr.get n).1,.int .i64 (gr.get n).2],.agg #[.int .i64 v1,.int .i64 v2]] w' fun r w''=>r=.returned (.agg #[.int .i64 u.1,.int .i64 u.2])/\Kp w' w'':=fun w'=>by
   have:=MO (gr.get n) (v1,v2) w';rw[hu]at this;exact this
  go_enter Tryd.func133,Tryd.ntmps133
  go_wp2_with (first|(refine yy ?_;clear hS;intro w' hS)|(refine yf ?_;clear hS;intro _ w' hS)|(go_at_call 125;refine(ji gr.has n zw zw _).mono ?_;rw[hb];rintro _ w' ⟨rfl,rfl⟩))
  (refine aY 12 zk zk (St.eY hS) ?_;simp only[List.take_succ_cons,List.take_zero,List.drop_succ_cons,List.drop_zero];clear hS;(repeat ((go_big_quiet_want;(first|((with_reducible refine Xf ?_);refine jW rfl rfl ?_;refine zF ?_)|((with_reducible refine Uj ?_);(first|refine pq rfl rfl ?_|refine wB rfl rfl ?_);refine⟨_,zd,?_⟩;refine zF ?_)|((with_reducible refine YW ?_);refine mF ?_;refine⟨_,_,by(intro _;go_simp;exact⟨rfl,rfl⟩),?_⟩;refine⟨_,by(intro w' hS;(exact hcon _)),?_⟩;refine zF ?_)|(refine gu ?_;refine⟨_,zp,?_⟩;refine zF ?_));go_big_quiet_on)));refine wpQuiet_nil ?_;intro w' hS)
  go_wp2_with (refine ys ?_;clear hS;intro w' hS)
  have hsp:=Ht hwf hn u;have hwf':(Gr.mk (gr.at_.set n u) gr.has).WF:=⟨by simp[hwf.len],hwf.small⟩;have hL':=IE hwf';have hh':=sN hwf';have hset:=Dn hwf' (gr.has ||| 2 ^ n);have HB:bits .or .u64 (gr.has:Int) (IntKind.u64.wrap (2 ^ n))=((gr.has ||| 2 ^ n:Nat):Int):=by
   have:=Fh 1 n;have h2:(2:Nat) ^ n<2 ^ 41:=Nat.pow_lt_pow_right zw hn;rw[Nat.one_mul,Nat.mod_eq_of_lt zw]at this;rw[show((2:Int) ^ n)=(((1:Nat):Int) * 2 ^ n) by simp,this];exact Jw _ _ zw zw
  have HA:gr.add n (v1,v2)=⟨gr.at_.set n u,gr.has ||| 2 ^ n⟩:=by simp[Gr.add,hb,hu]
  replace hset:=aj hset;replace HB:=aj HB;replace HA:=aj HA;replace hsp:=aj hsp;(refine aY 6 zk zk (St.eY hS) ?_;simp only[List.take_succ_cons,List.take_zero,List.drop_succ_cons,List.drop_zero];clear hS;(repeat ((go_big_quiet_want;(first|((with_reducible refine Xf ?_);refine jW rfl rfl ?_;refine zF ?_)|((with_reducible refine Uj ?_);(refine wB rfl rfl ?_);refine⟨_,zd,?_⟩;refine zF ?_)|(refine gu ?_;refine⟨_,zp,?_⟩;refine zF ?_));go_big_quiet_on)));refine wpQuiet_nil ?_;intro w' hS)
  go_wp2_with (refine ys ?_;clear hS;intro w' hS)
  rw[hsp.out]at hS;(refine aY 9 zk zk (St.eY hS) ?_;simp only[List.take_succ_cons,List.take_zero,List.drop_succ_cons,List.drop_zero];clear hS;(repeat ((go_big_quiet_want;(first|((with_reducible refine Xf ?_);refine jW rfl rfl ?_;refine zF ?_)|((with_reducible refine Uj ?_);(refine pq rfl rfl ?_);refine⟨_,zd,?_⟩;refine zF ?_)|(refine gu ?_;refine⟨_,zp,?_⟩;refine zF ?_));go_big_quiet_on)));refine wpQuiet_nil ?_;intro w' hS)
  go_wp2_with (refine ys ?_;clear hS;intro w' hS;try (simp only[HB.out,hset.out]at hS))
  (refine yj ?_;refine bK ⟨_,by exact FB  zk,?_⟩ rfl)
  exact⟨rfl,hS.Js,by rw[HA.out];exact hS.at (j:=1) rfl⟩
theorem Uw (w:World):(Instr.build 170 #[(2,Value.func (.func 126) #[] #[])]).run Tryd.prog w=.ok (.agg (sJ Gr.empty).toArray) w:=by kernel_rfl
theorem IW {ρ:Operand->Value} {o:Oper} (ho:o.op=.build 170 #[(2,.func 126)]) (hρ:ρ (.func 126)=Value.func (.func 126) #[] #[]) (w:World) :
  (execOp ρ o).run Tryd.prog w=.ok (.value (.agg (sJ Gr.empty).toArray)) w:=by
 unfold execOp;have:=Uw w;simp only[ho,List.map_toArray,List.map_cons,List.map_nil,hρ];rw[Sem.run_bind,this];rfl
theorem W9 {ops:Array Oper} {rest:List Oper} {a:Act} {Q:Exit->Act->World->Prop} {w:World} {d:Option Tmp} {t:TypeId} {p:String} {af:Array Edge} {g:Option (Nat × Bool)}
  (hgd:Region.wanted ⟨d,.build 170 #[(2,.func 126)],t,p,af,g⟩ (yielded ops a.tmps)=true)
  (h:∀ a',a.put d (.agg (sJ Gr.empty).toArray)=a'->wpList Tryd.prog ops Q rest a' w):wpList Tryd.prog ops Q (⟨d,.build 170 #[(2,.func 126)],t,p,af,g⟩::rest) a w :=
 dU hgd (IW rfl rfl w) (h _ rfl)
theorem Lm (V:View) (p:Nat) (k:Wk) (ts:List Nat) (vv rv:Value) (hC:zO V p k ts vv rv) (s:SS) (hs:s.WF) (st:Bool) (i:Nat) (hi:i<k.n) (hf:k.fills i=[]) (w:World) (hV:V.In w) :
  Calls Tryd.prog 124 #[ptr (ts.getD i 0),.agg (dJ s).toArray,.bool st] w fun r w'=>∃ g,r=.returned (.pointer (some ⟨g,0,none⟩))/\Kp w w'/\w.heap.size<=g/\w'.heap[g]? = some (.cells (sJ (lY s st i 41)).toArray 170 (0,0)):=by
 have hi6:i<6:=Nat.lt_of_lt_of_le hi hC.le;have hi1:(0:Int)<=i:=by omega
 have hi2:(i:Int)<6:=by omega
 have HL:(dJ s).length=18:=dG hs;have hlx:=oh hs hi6;have hls:=hs.fZ i;obtain⟨fv,hf5,fs⟩:=hC.fil i hi;obtain⟨fa,fcap,rfl,hfc,hfm,hfe⟩:=fs.is;rw[hf]at hf5 hfc;simp only[List.length_nil]at hf5 hfc;have hnum:=hC.tun i hi 4 _ rfl;simp only[Nat.zero_add]at hnum;have hS:=St.start w V hV;unfold ptr;generalize ts.getD i 0=ti at hf5 hnum;clear hC fs hfe hf hi;go_enter Tryd.func124,Tryd.ntmps124
 go_wp2_with (first|(refine yy ?_;clear hS;intro w' hS)|(refine yb 4 ?_;clear hS;intro b4 w' hS)|(refine yb 21 ?_;clear hS;intro b21 w' hS)|(refine W9 rfl ?_;refine zF ?_))
 go_loopw [30] (fun n wr=>∃ m:Nat,m<=41/\n=.int .i64 (m:Int)/\St w [] V [.blk b21 170 (sJ (lY s st i m)),.blk b4 100 (dJ s)] wr) (fun n _=>41-(intOf n).toNat)
 case atStart=>exact⟨0,by omega,rfl,hS⟩
 case round =>
  clear hS;obtain⟨m,hm,rfl,hS⟩:=hrel;by_cases hlt:m<41
  ·have h0:(0:Int)<=m:=by omega
   have h1:(m:Int)<41:=by omega
   have hwf:=GY s st i m hm;have HN:lY s st i (m+1)=if (s.aK i).testBit m then(lY s st i m).add m (if st then((m:Int),(m:Int)) else(0,0)) else lY s st i m:=rfl
   replace HN:=aj HN;generalize lY s st i m=gr at hS hwf HN;cases hb:(s.aK i).testBit m
   ·rw [hb] at HN;go_wp2_with (first | (refine yy ?_;clear hS;intro w' hS) | (go_at_call 125;refine (ji (s.aK i) m zw zw _).mono ?_;rw [hb];rintro _ w' ⟨rfl,rfl⟩))
    go_roundw
    case rel=>exact⟨m+1,by omega,by go_num,by rw[HN.out];exact hS⟩
    case measure=>simp only[intOf];omega
   ·rw [hb] at HN;have hadd:=fun (x:Int × Int) w' hg=>EJ gr hwf b21 m hlt x w' hg
    unfold aJ at hadd;cases st
    ·have hcon:=hadd (0,0);clear hadd;go_wp2_with (first | (refine yy ?_;clear hS;intro w' hS) | (go_at_call 125;refine (ji (s.aK i) m zw zw _).mono ?_;rw [hb];rintro _ w' ⟨rfl,rfl⟩) | (go_at_call 133;refine oM hS ⟨_,_,hcon _,?_⟩;clear hS;intro w' hS;simp only [sE] at hS))
     go_roundw
     case rel=>exact⟨m+1,by omega,by go_num,by rw[HN.out];exact hS⟩
     case measure=>simp only[intOf];omega
    ·have hcon:=hadd ((m:Int),(m:Int));clear hadd;go_wp2_with (first | (refine yy ?_;clear hS;intro w' hS) | (go_at_call 125;refine (ji (s.aK i) m zw zw _).mono ?_;rw [hb];rintro _ w' ⟨rfl,rfl⟩) | (go_at_call 133;refine oM hS ⟨_,_,hcon _,?_⟩;clear hS;intro w' hS;simp only [sE] at hS))
     go_roundw
     case rel=>exact⟨m+1,by omega,by go_num,by rw[HN.out];exact hS⟩
     case measure=>simp only[intOf];omega
  ·obtain rfl:m=41:=by omega
   go_wp2_with (fail)
   (refine yj ?_;refine bK ⟨_,by exact bH (r1:=.tmp 6) zk (by exact bD rfl),?_⟩ rfl)
   exact⟨b21,rfl,hS.bM,hS.newAt,hS.dR⟩
end Go.Proofs.YtjjmefieegcddaaDoor
