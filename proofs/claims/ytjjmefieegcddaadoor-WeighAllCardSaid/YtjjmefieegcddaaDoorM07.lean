/- A part of the proof: W17. -/
import Derived.Test.YtjjmefieegcddaaDoorM06
set_option linter.unusedVariables false
set_option linter.unusedSimpArgs false
set_option maxHeartbeats 8000000
set_option maxRecDepth 20000
namespace Go.Proofs.YtjjmefieegcddaaDoor
open Go.RowKit Go.Wg Go.Mm
theorem VE {F:Nat->Gr} (l:List Nat) (g:Gr) (hg:g.WF):(l.foldl (fun sm x=>pR sm (F x)) g).WF:=by
 induction l generalizing g with
 |nil=>exact hg
 |cons x l ih=>exact ih _ (Vd _ _)
theorem Jk (V:View) (p:Nat) (k:Wk) (ts:List Nat) (vv rv:Value) (hC:zO V p k ts vv rv) (s:SS) (hs:s.WF) (st:Bool) (i:Nat) (hi:i < k.n) (hf:k.fills i≠[])
  (F:Nat->Gr) (c:Int) (hc0:0<=c) (hc1:c<=11764900) (hF:∀ x,x∈k.fills i->(F x).WF/\(F x).Bd c) (hlo:0<=(s.aP i).1) (hhi:(s.aP i).2<=1000)
  (ih:∀ x,x∈k.fills i->∀ w,V.In w->Calls Tryd.prog 124 #[ptr (ts.getD x 0),.agg (dJ s).toArray,.bool st] w fun r w'=>∃ g,r=.returned (.pointer (some ⟨g,0,none⟩))/\Kp w w'/\w.heap.size<=g/\w'.heap[g]? = some (.cells (sJ (F x)).toArray 170 (0,0)))
  (w:World) (hV:V.In w) :
  Calls Tryd.prog 124 #[ptr (ts.getD i 0),.agg (dJ s).toArray,.bool st] w fun r w'=>∃ g,r=.returned (.pointer (some ⟨g,0,none⟩))/\Kp w w'/\w.heap.size<=g /\
   w'.heap[g]? = some (.cells (sJ (jY ((k.fills i).foldl (fun sm x=>pR sm (F x)) (Gr.empty.add 0 (0,0))) (s.aK i) st (s.aP i).1 (s.aP i).2 41)).toArray 170 (0,0)):=by
 have hi6:i<6:=Nat.lt_of_lt_of_le hi hC.le;have hi1:(0:Int)<=i:=by omega
 have hi2:(i:Int)<6:=by omega
 have HL:(dJ s).length=18:=dG hs;have hlx:=oh hs hi6;have hlp:=UR hs hi6;have hls:=hs.fZ i;obtain⟨fv,hf5,fs⟩:=hC.fil i hi;obtain⟨fa,fcap,rfl,hfc,hfm,hfe⟩:=fs.is;have hfl:0<(k.fills i).length:=List.length_pos_iff.2 hf;obtain⟨fg,fo,rfl,hfr⟩:=hfe hfl;have hfl':(((k.fills i).length:Int) == 0)=false:=by rw[beq_eq_false_iff_ne];omega
 have hfl2:(k.fills i).length<=6:=by
  have:=wL k i;have:=hC.le;omega
 have hnum:=hC.tun i hi 4 _ rfl;simp only[Nat.zero_add]at hnum;have hS:=St.start w V hV;unfold ptr at *
 generalize ts.getD i 0=ti at hf5 hnum;clear hC fs hfe hf hi;generalize hlo1:(s.aP i).1=lo at *;generalize hhi1:(s.aP i).2=hi' at *;clear hlo1 hhi1;have hw0:Gr.empty.WF:=Gr.uQ;have hadd0:=fun g w' hg=>EJ Gr.empty hw0 g 0 zw (0,0) w' hg
 unfold aJ at hadd0;generalize hfs:k.fills i=fl at *;clear hfs;go_enter Tryd.func124,Tryd.ntmps124
 go_wp2_with (first|(refine yy ?_;clear hS;intro w' hS)|(refine yb 4 ?_;clear hS;intro b4 w' hS)|(refine yb 21 ?_;clear hS;intro b21 w' hS)|(refine yb 59 ?_;clear hS;intro b59 w' hS)|(refine W9 rfl ?_;refine zF ?_)|(go_at_call 133;refine oM hS ⟨_,_,hadd0 _ _,?_⟩;clear hS;intro w' hS;simp only[sE]at hS))
 have hG0:(Gr.empty.add 0 (0,0)).WF:=hw0.add zw _;have hB0:(Gr.empty.add 0 (0,0)).Bd 0:=Gr.sH.add zw 0 (by unfold Pb;simp);obtain⟨G0,hGe⟩:∃ G0,Gr.empty.add 0 (0,0)=G0:=⟨_,rfl⟩;rw[hGe]at hS hG0 hB0;replace hGe:=aj hGe;go_loopw [10,68] (fun sm qv wr=>∃ (q b:Nat),q<=fl.length/\sm=.pointer (some ⟨b,0,none⟩)/\qv=.int .i64 (q:Int)/\St w [] V [.blk b 170 (sJ ((fl.take q).foldl (fun sm x=>pR sm (F x)) G0)),.blk b21 170 (sJ Gr.empty),.blk b4 100 (dJ s)] wr) (fun _ qv _=>fl.length-(intOf qv).toNat)
 case atStart=>exact⟨0,b59,by omega,rfl,rfl,hS⟩
 case round =>
  clear hS;obtain⟨q,b,hq,rfl,rfl,hS⟩:=hrel;have hAw:((fl.take q).foldl (fun sm x=>pR sm (F x)) G0).WF:=VE _ _ hG0;have hAb0:=Jc hc0 (fl.take q) G0 0 zw hB0 (fun x hx=>(hF x (List.mem_of_mem_take hx)).2);have hAb:((fl.take q).foldl (fun sm x=>pR sm (F x)) G0).Bd 100000000:=by
   refine hAb0.mono ?_;have h6:((fl.take q).length:Int)<=6:=by rw[List.length_take];omega
   have:((fl.take q).length:Int) * c<=6 * 11764900:=Int.mul_le_mul h6 hc1 hc0 zw;omega
  clear hAb0;by_cases hql:q<fl.length
  ·have hq1:(q:Int) < fl.length:=by omega
   have hq0:(0:Int)<=q:=by omega
   obtain⟨y,hy⟩:∃ y,fl.getD q 0=y:=⟨_,rfl⟩;have hym:y∈fl:=by rw[<- hy,List.getD_eq_getElem?_getD,List.getElem?_eq_getElem hql];exact List.getElem_mem _
   have hpx:=hfr q hql 0 _ rfl;simp only[hy,Nat.mul_one,Nat.add_zero]at hpx;have hFw:=(hF y hym).1;have hFb:=(hF y hym).2;have ihy:=ih y hym;generalize ts.getD y 0=ty at hpx ihy;have HN:(fl.take (q+1)).foldl (fun sm x=>pR sm (F x)) G0=pR ((fl.take q).foldl (fun sm x=>pR sm (F x)) G0) (F y):=by
    rw[List.take_succ_eq_append_getElem hql,List.foldl_append];simp only[List.foldl_cons,List.foldl_nil];rw[<- hy,List.getD_eq_getElem?_getD,List.getElem?_eq_getElem hql];rfl
   replace HN:=aj HN;generalize (fl.take q).foldl (fun sm x=>pR sm (F x)) G0=A at hS hAw hAb HN;generalize F y=B at hFw hFb ihy HN;clear hfr ih hF hy hadd0;go_wp2_with (first|(refine yy ?_;clear hS;intro w' hS)|(refine yb 73 ?_;clear hS;intro b73 w' hS)|(refine W9 rfl ?_;refine zF ?_)|(go_at_call 124;refine Aj hS ⟨_,_,ihy _ (St.view hS),?_⟩;clear hS;intro g w' hS))
   go_loopw [78] (fun av wr=>∃ x:Nat,x<=41/\av=.int .i64 (x:Int)/\St w [] V [.blk g 170 (sJ B),.blk b73 170 (sJ (ku A B x)),.blk b 170 (sJ A),.blk b21 170 (sJ Gr.empty),.blk b4 100 (dJ s)] wr) (fun av _=>41-(intOf av).toNat)
   case atStart=>exact⟨0,by omega,rfl,hS⟩
   case round =>
    clear hS;obtain⟨x,hx,rfl,hS⟩:=hrel;by_cases hx4:x<41
    ·have hx0:(0:Int)<=x:=by omega
     have hx1:(x:Int)<41:=by omega
     have hga:=Fb hAw hx4;have hgab:=hAb.get zw x;have hha:=sN hAw;have hhb:=sN hFw;have hsa:=hAw.small;have hsb:=hFw.small;go_wp2_with (fail)
     go_loopw [83] (fun mv wr=>∃ m:Nat,m<=41-x/\mv=.int .i64 (m:Int)/\St w [] V [.blk g 170 (sJ B),.blk b73 170 (sJ (rM A B x (ku A B x) m)),.blk b 170 (sJ A),.blk b21 170 (sJ Gr.empty),.blk b4 100 (dJ s)] wr) (fun mv _=>41-(intOf mv).toNat)
     case atStart=>exact⟨0,by omega,rfl,hS⟩
     case round =>
      clear hS;obtain⟨m,hm,rfl,hS⟩:=hrel;have hNw:=MF A B x (Gu A B x hx) m zw;have HR:rM A B x (ku A B x) (m+1)=if A.has.testBit x && B.has.testBit m then(rM A B x (ku A B x) m).add (x+m) (dX (A.get x) (B.get m)) else rM A B x (ku A B x) m:=rfl
      have HE:m=41-x->rM A B x (ku A B x) m=ku A B (x+1):=fun h=>by rw[h];rfl
      replace HR:=aj HR;replace HE:=aj HE;generalize rM A B x (ku A B x) m=N at hS hNw HR HE;by_cases hm4:m<41-x
      ·have hm0:(0:Int)<=m:=by omega
       have hm1:(m:Int)<41-x:=by omega
       have hm41:(m:Int)<41:=by omega
       have hgb:=Fb hFw (n:=m) zw;have hgbb:=hFb.get hc0 m;have hhas2:=fun w=>ji B.has m zw zw w
       cases hA:A.has.testBit x
       ·rw [hA] at HR;go_wp2_with (first | (refine yy ?_;clear hS;intro w' hS) | (go_at_call 125;refine (ji A.has x zw zw _).mono ?_;rw [hA];rintro _ w' ⟨rfl,rfl⟩))
        go_roundw
        case rel=>exact⟨m+1,by omega,by go_num,by rw[HR.out];exact hS⟩
        case measure=>simp only[intOf];omega
       ·cases hB:B.has.testBit m
        ·rw [hA,hB] at HR;go_wp2_with (first | (refine yy ?_;clear hS;intro w' hS) | (go_at_call 125;refine (ji A.has x zw zw _).mono ?_;rw [hA];rintro _ w' ⟨rfl,rfl⟩) | (go_at_call 125;refine (hhas2 _).mono ?_;rw [hB];rintro _ w' ⟨rfl,rfl⟩))
         go_roundw
         case rel=>exact⟨m+1,by omega,by go_num,by rw[HR.out];exact hS⟩
         case measure=>simp only[intOf];omega
        ·rw [hA,hB] at HR;go_wp2_with (first | (refine yy ?_;clear hS;intro w' hS) | (go_at_call 125;refine (ji A.has x zw zw _).mono ?_;rw [hA];rintro _ w' ⟨rfl,rfl⟩) | (go_at_call 125;refine (hhas2 _).mono ?_;rw [hB];rintro _ w' ⟨rfl,rfl⟩))
         have hboth:=fun w=>both_ok (A.get x) (B.get m) (by unfold Pb at *;omega) (by unfold Pb at *;omega) (by unfold Pb at *;omega) (by unfold Pb at *;omega) w
         unfold aJ at hboth;have hcon:=fun w' hg=>EJ N hNw b73 (x+m) zw (dX (A.get x) (B.get m)) w' hg
         unfold aJ at hcon;rw[Int.natCast_add]at hcon;generalize dX (A.get x) (B.get m)=u at hboth hcon HR;(refine aY 17 zk zk (St.eY hS) ?_;simp only[List.take_succ_cons,List.take_zero,List.drop_succ_cons,List.drop_zero];clear hS;(repeat ((go_big_quiet_want;(first|((with_reducible refine Xf ?_);refine jW rfl rfl ?_;refine zF ?_)|((with_reducible refine Uj ?_);(refine wB rfl rfl ?_);refine⟨_,zd,?_⟩;refine zF ?_)|((with_reducible refine YW ?_);refine mF ?_;refine⟨_,_,by(intro _;go_simp;exact⟨rfl,rfl⟩),?_⟩;refine⟨_,by(intro w' hS;(exact hboth _)),?_⟩;refine zF ?_)|(refine gu ?_;refine⟨_,zp,?_⟩;refine zF ?_));go_big_quiet_on)));refine wpQuiet_nil ?_;intro w' hS)
         go_wp2_with (go_at_call 133;refine oM hS ⟨_,_,hcon _,?_⟩;clear hS;intro w' hS;simp only[sE]at hS)
         go_roundw
         case rel=>exact⟨m+1,by omega,by go_num,by rw[HR.out];exact hS⟩
         case measure=>simp only[intOf];omega
      ·obtain rfl:m=41 - x:=by omega
       rw[HE.out rfl]at hS;have e41:(((41-x:Nat)):Int)=41-x:=by omega
       rw[e41];go_wp2_with (fail)
       go_roundw
       case rel=>exact⟨x+1,by omega,by go_num,hS⟩
       case measure=>simp only[intOf];omega
    ·obtain rfl:x=41:=by omega
     have ej:ku A B 41=pR A B:=rfl;rw[ej]at hS;go_wp2_with (fail)
     go_roundw
     case rel=>exact⟨q+1,b73,by omega,rfl,by go_num,by rw[HN.out];exact hS.aG⟩
     case measure=>simp only[intOf];omega
  ·obtain rfl:q=fl.length:=by omega
   rw[List.take_length]at hS hAw hAb;obtain⟨A,hAe⟩:∃ A,fl.foldl (fun sm x=>pR sm (F x)) G0=A:=⟨_,rfl⟩;rw[hAe]at hS hAw hAb;replace hAe:=aj hAe;clear hadd0 hfr ih hF hB0 hG0;go_wp2_with (first|(refine ym ?_;clear hS;intro w' hS)|(refine ys ?_;clear hS;intro w' hS)|(refine ya 17 ?_;clear hS;intro b17 w' hS))
   go_loopw [129] (fun av wr=>∃ x:Nat,x<=41/\av=.int .i64 (x:Int)/\St w [] V [.blk b17 27 [.int .i64 lo,.int .i64 hi'],.blk b 170 (sJ A),.blk b21 170 (sJ (jY A (s.aK i) st lo hi' x)),.blk b4 100 (dJ s)] wr) (fun av _=>41-(intOf av).toNat)
   case atStart=>exact⟨0,by omega,rfl,hS⟩
   case round =>
    clear hS;obtain⟨x,hx,rfl,hS⟩:=hrel;by_cases hx4:x<41
    ·have hx0:(0:Int)<=x:=by omega
     have hx1:(x:Int)<41:=by omega
     have hga:=Fb hAw hx4;have hgab:=hAb.get zw x;have hha:=sN hAw;have hsa:=hAw.small;have hLw:=Ej A (s.aK i) st lo hi' hlo x hx;have HE:iO A (s.aK i) st lo x (jY A (s.aK i) st lo hi' x) (qY lo hi' x)=jY A (s.aK i) st lo hi' (x+1):=rfl;replace HE:=aj HE;generalize jY A (s.aK i) st lo hi' x=G at hS hLw HE;go_wp2_with (refine yy ?_;clear hS;intro w' hS)
     have hN0:qY lo hi' x=(min hi' (40-x)-lo+1).toNat:=rfl;go_loopw [19] (fun nv wr=>∃ j:Nat,j<=qY lo hi' x/\nv=.int .i64 (lo+j)/\St w [] V [.blk b17 27 [.int .i64 lo,.int .i64 hi'],.blk b 170 (sJ A),.blk b21 170 (sJ (iO A (s.aK i) st lo x G j)),.blk b4 100 (dJ s)] wr) (fun nv _=>(hi'-intOf nv+1).toNat)
     case atStart=>exact⟨0,by omega,by simp,hS⟩
     case round =>
      clear hS;obtain⟨j,hj,rfl,hS⟩:=hrel;have hjw:0<qY lo hi' x->x+lo+j<=41:=fun h=>by rw[hN0]at h hj;omega
      have HR:iO A (s.aK i) st lo x G (j+1)=if A.has.testBit x && (s.aK i).testBit (x+(lo+j).toNat) then(iO A (s.aK i) st lo x G j).add (x+(lo+j).toNat) (if st then A.get x else dX (A.get x) (lo+j,lo+j)) else iO A (s.aK i) st lo x G j:=rfl
      have HE2:j=qY lo hi' x->iO A (s.aK i) st lo x G j=jY A (s.aK i) st lo hi' (x+1):=fun h=>by rw[h];exact HE.out
      have hNw:(iO A (s.aK i) st lo x G j).WF:=by
       by_cases h0:qY lo hi' x=0
       ·have:j=0:=by omega
        subst this;exact hLw
       ·exact Ed _ _ _ _ hlo _ hLw _ (hjw zw)
      replace HR:=aj HR;replace HE2:=aj HE2;generalize iO A (s.aK i) st lo x G j=N at hS hNw HR HE2;obtain⟨nn,hnn⟩:∃ nn:Nat,lo+(j:Int)=nn:=⟨(lo+j).toNat,by omega⟩;rw[hnn,Int.toNat_natCast]at HR;rw[hnn];by_cases hjl:j<qY lo hi' x
      ·have hc36:(nn:Int)<=hi':=by rw [hN0] at hjl;omega
       have hc37:(x:Int)+nn<=40:=by rw[hN0]at hjl;omega
       have hn0:(0:Int)<=nn:=by omega
       have hhas2:=fun w=>ji (s.aK i) (x+nn) zw zw w
       rw[Int.natCast_add]at hhas2;have hjn:lo+((j+1:Nat):Int)=nn+1:=by omega
       clear hjw hN0;cases hA:A.has.testBit x
       ·rw [hA] at HR;go_wp2_with (first | (refine yy ?_;clear hS;intro w' hS) | (go_at_call 125;refine (ji A.has x zw zw _).mono ?_;rw [hA];rintro _ w' ⟨rfl,rfl⟩))
        go_roundw
        case rel=>exact⟨j+1,by omega,by rw[hjn],by rw[HR.out];exact hS⟩
        case measure=>simp only[intOf];omega
       ·cases hB:(s.aK i).testBit (x+nn)
        ·rw [hA,hB] at HR;go_wp2_with (first | (refine yy ?_;clear hS;intro w' hS) | (go_at_call 125;refine (ji A.has x zw zw _).mono ?_;rw [hA];rintro _ w' ⟨rfl,rfl⟩) | (go_at_call 125;refine (hhas2 _).mono ?_;rw [hB];rintro _ w' ⟨rfl,rfl⟩))
         go_roundw
         case rel=>exact⟨j+1,by omega,by rw[hjn],by rw[HR.out];exact hS⟩
         case measure=>simp only[intOf];omega
        ·rw [hA,hB] at HR;cases st
         ·have hboth:=fun w=>both_ok (A.get x) ((nn:Int),(nn:Int)) (by unfold Pb at *;simp only;omega) (by unfold Pb at *;simp only;omega) (by unfold Pb at *;simp only;omega) (by unfold Pb at *;simp only;omega) w
          unfold aJ at hboth;have hcon:=fun w' hg=>EJ N hNw b21 (x+nn) zw (dX (A.get x) ((nn:Int),(nn:Int))) w' hg
          unfold aJ at hcon;rw[Int.natCast_add]at hcon;generalize dX (A.get x) ((nn:Int),(nn:Int))=u at hboth hcon HR;go_wp2_with (first|(refine yy ?_;clear hS;intro w' hS)|(go_at_call 125;refine(ji A.has x zw zw _).mono ?_;rw[hA];rintro _ w' ⟨rfl,rfl⟩)|(go_at_call 125;refine(hhas2 _).mono ?_;rw[hB];rintro _ w' ⟨rfl,rfl⟩)|(go_at_call 127;refine aH hS ⟨_,hboth _,?_⟩;clear hS;intro w' hS)|(go_at_call 133;refine oM hS ⟨_,_,hcon _,?_⟩;clear hS;intro w' hS;simp only[sE]at hS))
          go_roundw
          case rel=>exact⟨j+1,by omega,by rw[hjn],by rw[HR.out];exact hS⟩
          case measure=>simp only[intOf];omega
         ·have hcon:=fun w' hg=>EJ N hNw b21 (x+nn) zw (A.get x) w' hg
          unfold aJ at hcon;rw[Int.natCast_add]at hcon;go_wp2_with (first|(refine yy ?_;clear hS;intro w' hS)|(go_at_call 125;refine(ji A.has x zw zw _).mono ?_;rw[hA];rintro _ w' ⟨rfl,rfl⟩)|(go_at_call 125;refine(hhas2 _).mono ?_;rw[hB];rintro _ w' ⟨rfl,rfl⟩)|(go_at_call 133;refine oM hS ⟨_,_,hcon _,?_⟩;clear hS;intro w' hS;simp only[sE]at hS))
          go_roundw
          case rel=>exact⟨j+1,by omega,by rw[hjn],by rw[HR.out];exact hS⟩
          case measure=>simp only[intOf];omega
      ·have hje:j=qY lo hi' x:=by omega
       rw[HE2.out hje]at hS;have hn0:(0:Int)<=nn:=by omega
       by_cases hc36:(nn:Int)<=hi'
       ·have hc37:¬ ((x:Int)+nn<=40):=by rw [hN0] at hje;omega
        clear hjw hN0 hje;go_wp2_with (refine yy ?_;clear hS;intro w' hS)
        go_roundw
        case rel=>exact⟨x+1,by omega,by go_num,hS⟩
        case measure=>simp only[intOf];omega
       ·clear hjw hN0 hje;go_wp2_with (refine yy ?_;clear hS;intro w' hS)
        go_roundw
        case rel=>exact⟨x+1,by omega,by go_num,hS⟩
        case measure=>simp only[intOf];omega
    ·obtain rfl:x=41:=by omega
     go_wp2_with (fail)
     (refine yj ?_;refine bK ⟨_,by exact bH (r1:=.tmp 6) zk (by exact bD rfl),?_⟩ rfl)
     refine⟨b21,rfl,hS.bM,hS.newAt,?_⟩;rw[hGe.out,hAe.out];exact hS.dR
end Go.Proofs.YtjjmefieegcddaaDoor
