/- A part of the proof: W53, W54, W55, W67, W68, W69, W70, W82, W85, Q9, W107, W108, S30, S31, S35, S37, W112, W99, W100. -/
import Derived.Test.YtjjmefieegcddaaDoorM13
import Derived.Test.YtjjmefieegcddaaDoorM11
import Derived.BigGuard
import Derived.Test.YtjjmefieegcddaaDoorM09
import Derived.Test.YtjjmefieegcddaaDoorM08
set_option linter.unusedVariables false
set_option linter.unusedSimpArgs false
set_option maxHeartbeats 8000000
set_option maxRecDepth 20000
namespace Go.Proofs.YtjjmefieegcddaaDoor
open Go.RowKit Go.Wg Go.Mm Go.Wk
open Go Go.Sr Go.Ph Go.Tm Go.Conc
section
variable {V:View} {w0 w:World} {p:Nat} {k:Wk} {D:List Nat} {b6 b8:Nat} {s:SS} {b:Frame} {cs:List Frame} {Q:Goroutine->World->Prop}
theorem outer (hX:NX V p k D b8 s) (hok:k.Ok) (hs:s.WF) (hlo:∀ i,0<=(s.aP i).1) (hhi:∀ i,(s.aP i).2<=1000) (err:Int) (he0:0<=err) (he9:err<=9) (hbf:b.fn=43) (hbk:b.kind=.normal)
  (hend:∀ w f v11 v12 v13 v14 v15,N1 w0 V b6 w->ay OC w->kU Tryd.prog (G (b.at ⟨kH (.int .i64 err) (ptr b6) (ptr p) (ptr b8) (.int .i64 (fM k s err k.n).1) (.int .i64 (fM k s err k.n).2) v11 v12 v13 v14 v15 (.int .i64 k.n) (.int .i64 k.n) f,[dC b6]⟩ jO) cs) w Q) :
  ∀ (m i:Nat),i+m=k.n->∀ w f v11 v12 v13 v14 v15,N1 w0 V b6 w->ay OC w ->
   kU Tryd.prog (G (b.at ⟨kH (.int .i64 err) (ptr b6) (ptr p) (ptr b8) (.int .i64 (fM k s err i).1) (.int .i64 (fM k s err i).2) v11 v12 v13 v14 v15 (.int .i64 k.n) (.int .i64 i) f,[dC b6]⟩ jO) cs) w Q:=by
 have hn6:k.n<=6:=hok.le;intro m
 induction m with
 |zero =>
  intro i hi w f v11 v12 v13 v14 v15 hN hh;obtain rfl:i=k.n:=by omega
  exact hend w f v11 v12 v13 v14 v15 hN hh
 | succ m ih =>
  intro i hi w f v11 v12 v13 v14 v15 hN hh;have hlt:i<k.n:=by omega
  have hwb:=qE k s i 41 (Nat.le_refl _);rw[show bZ k s i 41=aO k s i from rfl]at hwb;have ihc:=ih (i+1) zw;have hB:fM k s err (i+1)=if qK k s i err<(fM k s err i).2 then((i:Int),qK k s i err) else fM k s err i:=rfl
  refine vI (tgt:=iH) hbf hbk Ah (CB b6 rfl) hh (S:=fun a w'=>∃ mb b14,(∃ f,a=⟨kH (.int .i64 err) (ptr b6) (ptr p) (ptr b8) (.int .i64 (fM k s err i).1) (.int .i64 (fM k s err i).2) (.int .i64 i) (.int .i64 0) (.map (some mb)) (ptr b14) (.int .i64 ((aO k s i).1-err)) (.int .i64 k.n) (.int .i64 i) f,[dC b6]⟩) /\
    Kp w w'/\jk w' mb 0 []/\w.heap.size<=mb/\w.heap.size<=b14/\w'.heap[b14]? = some (.cells #[.int .i64 (aO k s i).1,.int .i64 (aO k s i).2] 27 (0,0)))
   (fun a w' τ d ⟨mb,b14,h1,h2,h3,h4⟩=>⟨mb,b14,h1,adC h2 τ d,yJ h3 τ d,h4⟩) (fun τ d=>?_) ?_
  ·refine(GK (w:=w.re τ d) hX hs err he0 he9 i hlt (ptr b6) _ _ v11 v12 v13 v14 v15 f hN.vin).mono ?_;rintro a w' ⟨mb,b14,h1,h2,h3,h4⟩;exact⟨mb,b14,h1,uq h2,h3,h4⟩
  ·rintro a w1 ⟨mb,b14,⟨f1,rfl⟩,hk1,hm1,lm,l14,h14⟩ hh1;have hN1:=hN.step hk1;have h6lt:=lt_of_heap hN.e6;have hVn:∀ {j:Nat},w.heap.size<=j->V j=none:=fun {j} hj=>by
    cases hv:V j with
    |none=>rfl
    |some o =>
     have:=lt_of_heap (hN.vin j o hv);omega
   have hne:mb≠b14:=by
    rintro rfl;obtain⟨es,cl,ho⟩:=hm1.obj;rw[h14]at ho;cases ho
   obtain⟨V2,hVV,hV14,hVo,hN2⟩:=hN1.more h14 zw (hVn l14);have hr14:V2.Range b14 0 [.int .i64 (aO k s i).1,.int .i64 (aO k s i).2]:=fun j v hj=>⟨_,_,_,hV14,by rw[Nat.zero_add];simpa using hj⟩
   have hin:=inner (b:=b) (cs:=cs) (Q:=Q) (w0:=w0) (b6:=b6) (hX.mono hVV) hok hs hlo hhi err he0 he9 i hlt b14 mb hbf hbk (.int .i64 (fM k s err i).1) (.int .i64 (fM k s err i).2) (fun w2 f2 sh hN3 hr3 hsh hh2=>?_) (Ia (aO k s i) err) 0 zw w1 f1
    ⟨hN2,hr14,⟨0,Nat.le_refl _,hm1⟩,Nat.le_trans hN.kp.size lm,(hVo mb hne).trans (hVn lm),by omega⟩ hh1
   ·have e0:(aO k s i).1 - err+((0:Nat):Int)=(aO k s i).1 - err:=by omega
    rw[e0]at hin;exact hin
   ·have hback:N1 w0 V b6 w2->N1 w0 V b6 w2:=id;have hN4:N1 w0 V b6 w2:=⟨hN3.kp,fun j u hj=>hN3.vin j u (hVV j u hj),hN3.e6,hN3.n6,hN.off⟩;by_cases hlt':qK k s i err < (fM k s err i).2
    ·rw [if_pos hlt'] at hB;rw [hB] at ihc;refine vI (tgt:=jO) hbf hbk Az (CB b6 rfl) hh2 (S:=fun a w'=>(∃ f,a=⟨kH (.int .i64 err) (ptr b6) (ptr p) (ptr b8) (.int .i64 i) (.int .i64 (qK k s i err)) (.int .i64 i) (.int .i64 (qK k s i err)) (.map (some mb)) (ptr b14) (.int .i64 sh) (.int .i64 k.n) (.int .i64 ((i:Int)+1)) f,[dC b6]⟩)/\Kp w2 w')
      (fun a w' τ d h=>⟨h.1,adC h.2 τ d⟩) (fun τ d=>?_) ?_
     ·refine(YP (w:=w2.re τ d) err _ _ _ sh i k.n b14 _ hr3 hwb.2.2.1 hwb.2.2.2 he0 he9 hsh hlt hn6 hlt' _ _ _ _ f2 hN3.vin).mono ?_;rintro a w' ⟨h1,h2⟩;exact⟨h1,uq h2⟩
     ·rintro a w3 ⟨⟨f3,rfl⟩,hk3⟩ hh3;exact ihc w3 f3 _ _ _ _ _ (hN4.step hk3) hh3
    ·rw [if_neg hlt'] at hB;rw [hB] at ihc;refine vI (tgt:=jO) hbf hbk Az (CB b6 rfl) hh2 (S:=fun a w'=>(∃ f,a=⟨kH (.int .i64 err) (ptr b6) (ptr p) (ptr b8) (.int .i64 (fM k s err i).1) (.int .i64 (fM k s err i).2) (.int .i64 i) (.int .i64 (qK k s i err)) (.map (some mb)) (ptr b14) (.int .i64 sh) (.int .i64 k.n) (.int .i64 ((i:Int)+1)) f,[dC b6]⟩)/\Kp w2 w')
      (fun a w' τ d h=>⟨h.1,adC h.2 τ d⟩) (fun τ d=>?_) ?_
     ·refine(ZK (w:=w2.re τ d) err _ _ _ sh i k.n b14 _ hr3 hwb.2.2.1 hwb.2.2.2 he0 he9 hsh hlt hn6 hlt' _ _ _ _ f2 hN3.vin).mono ?_;rintro a w' ⟨h1,h2⟩;exact⟨h1,uq h2⟩
     ·rintro a w3 ⟨⟨f3,rfl⟩,hk3⟩ hh3;exact ihc w3 f3 _ _ _ _ _ (hN4.step hk3) hh3
theorem KU {a:Act} {x y e:Int} {k0:List Item} (hk0:k0.all qy=true) (hbf:b.fn=43) (hbk:b.kind=.normal) (hh:ay OC w) (h4:a.tmps[4]? = some (.int .i64 x)) (h5:a.tmps[5]? = some (.int .i64 y)) (h6:a.tmps[6]? = some (ptr b6)) (hd:a.defers=[dC b6])
  (hS:St w0 [] V [.blk b6 38 [.int .i64 e]] w) :
  kU Tryd.prog (G (b.at a (.code .ret::k0)) cs) w (fun a' w'=>∃ e' fr,a'=G fr cs/\(e'=.returned (.tuple #[.int .i64 x,.int .i64 y,.int .i64 e])/\Kp w0 w')/\fr.fn=43/\fr.leaving Tryd.prog w' e'/\e'≠.outgrown/\ay OC w'):=by
 obtain⟨tm,df⟩:=a;simp only at h4 h5 h6 hd;subst hd;refine CV ?_;refine Bq (fr:={b.at ⟨tm,[dC b6]⟩ (.code .ret::k0)with mode:=.returning}) (R:=fun e' w'=>e'=.returned (.tuple #[.int .i64 x,.int .i64 y,.int .i64 e])/\Kp w0 w') lT xM (fun w h=>nomatch h.1) (fn:=Tryd.f43) ⟨⟨fun z hz=>?_,CB b6 (a:=⟨tm,[dC b6]⟩) rfl,.inl hbk⟩,rfl,hbk,hbf⟩ Tryd.func43 hh rfl (fun τ d=>?_) cs
 ·rcases List.mem_cons.1 (show z∈Item.code .ret::k0 from hz) with rfl | hz
  ·exact(show bY true .ret=true from rfl)
  ·exact Gz hk0 z hz
 ·have g:∀ {j:Nat} {v:Value},tm[j]? = some v->tm.getD j undef=v:=fun h=>by
   rw[Array.getD_eq_getD_getElem?,h];rfl
  exact iF (R:=fun e' w'=>e'=.returned (.tuple #[.int .i64 x,.int .i64 y,.int .i64 e])/\Kp w0 w') (hS.re1 τ d) fun w3 hS3=>⟨_,results3 (r1:=.tmp 4) (r2:=.tmp 5) (r3:=.cell 6 38) zk (yS (g h4)) (yS (g h5)) (AO hS3 0 (g h6) rfl zk rfl),rfl,hS3.bM⟩
end
variable {w:World} {V:View}
theorem Vu (vv rv:Value) (k:Wk) (hk:iJ V vv rv k) (hG:GV V) (hV:V.In w) (err:Int) (hbs:¬ (aS k []=0/\fQ err 0 9=false/\Go.Wg.settle k (aN k aC)=none)) :
  Calls Tryd.prog 43 #[.agg #[vv,rv],.int .i64 err] w fun r w'=>r=.returned (.tuple #[.int .i64 (oW k err).1.1,.int .i64 (oW k err).1.2,.int .i64 (oW k err).2])/\Kp w w':=by
 have hk0:=hk;obtain⟨va,vcap,rfl,hvc,hvm,hve⟩:=hk0.ves.is;obtain⟨ra,rcap,rfl,hrc,hrm,hre⟩:=hk0.rdg.is;have hS:=St.start w V hV;clear hk0 hve hre;by_cases hb:aS k []=0
 ·have hok:=dP hb;cases ho:fQ err 0 9 with
  | true =>
   have hC:oW k err=((0,0),1):=by
    unfold oW;rw[if_neg (by simp[hb]),ho];rfl
   rw[hC];simp only;replace hC:=aj hC;replace hb:=aj hb;clear hbs
   go_enter_defers Tryd.func43,Tryd.ntmps43
   go_wp2_with (first|(refine ym ?_;clear hS;intro w' hS)|(refine ys ?_;clear hS;intro w' hS)|(refine ya 6 ?_;clear hS;intro b6 w' hS)|(refine yf ?_;clear hS;intro _ w' hS)|(go_at_call 77;refine eG hS hk pG (by simp) hb.out ?_;clear hS;intro p V' w' hVV hcel hS;have hG':GV V':=hG.mono hVV)|(go_at_call 88;refine aH hS ⟨_,fB _ _ _ _,?_⟩;rw[ho];clear hS;intro w' hS))
   (refine iF hS ?_;clear hS;intro w' hS;(try simp only[sE]at hS);refine⟨_,by exact results3 (r1:=.tmp 4) (r2:=.tmp 5) (r3:=.cell 6 38) zk (by exact bD rfl) (by exact bD rfl) (by exact zA hS rfl zd),?_⟩)
   exact⟨rfl,hS.bM⟩
  | false =>
   cases hst:Go.Wg.settle k (aN k aC)with
   |none=>exact(hbs ⟨hb,ho,hst⟩).elim
   | some i =>
    have hC:oW k err=((0,0),9):=by
     unfold oW;rw[if_neg (by simp[hb]),ho,hst];rfl
    rw[hC];simp only;replace hC:=aj hC;replace hst:=aj hst;replace hb:=aj hb;clear hbs
    go_enter_defers Tryd.func43,Tryd.ntmps43
    go_wp2_with (first|(refine ym ?_;clear hS;intro w' hS)|(refine ys ?_;clear hS;intro w' hS)|(refine ya 6 ?_;clear hS;intro b6 w' hS)|(refine yf ?_;clear hS;intro _ w' hS)|(go_at_call 77;refine eG hS hk pG (by simp) hb.out ?_;clear hS;intro p V' w' hVV hcel hS;have hG':GV V':=hG.mono hVV)|(go_at_call 88;refine aH hS ⟨_,fB _ _ _ _,?_⟩;rw[ho];clear hS;intro w' hS)|(go_at_call 83;refine nH hS (zN V' p k hcel hok i hst.out _ (St.view hS)) ?_;clear hS;intro w' hS))
    (refine vJ hS ?_;clear hS;intro w' hS;(try simp only[sE]at hS);refine⟨_,by exact results3 (r1:=.tmp 4) (r2:=.tmp 5) (r3:=.cell 6 38) zk (by exact bD rfl) (by exact bD rfl) (by exact zA hS rfl zd),?_⟩)
    exact⟨rfl,hS.bM⟩
 ·clear hbs;have hC:oW k err=((0,0),aS k []):=by unfold oW;rw [if_pos hb]
  rw[hC];simp only;have hb':(aS k [] == 0)=false:=by rw[beq_eq_false_iff_ne];exact hb
  have hE:Go.RowKit.Hid (∃ e,aS k []=e):=aj ⟨_,rfl⟩;obtain⟨e,he⟩:=hE.out;rw[he]at hb' |-;replace hC:=aj hC;replace he:=aj he
  go_enter_defers Tryd.func43,Tryd.ntmps43
  go_wp2_with (first|(refine ym ?_;clear hS;intro w' hS)|(refine ys ?_;clear hS;intro w' hS)|(refine ya 6 ?_;clear hS;intro b6 w' hS)|(refine yf ?_;clear hS;intro _ w' hS)|(go_at_call 77;refine fF hS hk pG (by simp) hb ?_;rw[he.out];clear hS;intro w' hS))
  (refine bF (S:=(St w [] V [.blk b6 38 [.int .i64 e]])) [false,false,false,false] rfl zk ?_;replace hS:=St.eY hS;(refine yh [.a 0] ?_);(refine C9 1 zk rfl rfl (St.aG hS) ?_;refine⟨_,zp,?_⟩;refine zH ?_);(refine C9 2 zk rfl rfl (St.aG hS) ?_;refine⟨_,zp,?_⟩;refine zH ?_);((refine jl 3 zk rfl hS rfl  rfl rfl ?_;refine⟨_,zd,?_⟩);clear hS;refine zH ?_;intro w' hS;(try simp only[sE]at hS);refine⟨(St.aG hS),?_⟩);refine wpAnyH_done zk ?_ _)
  go_wp2_with (fail)
  (refine iF hS ?_;clear hS;intro w' hS;(try simp only[sE]at hS);refine⟨_,by exact results3 (r1:=.tmp 4) (r2:=.tmp 5) (r3:=.cell 6 38) zk (by exact bD rfl) (by exact bD rfl) (by exact zA hS rfl zd),?_⟩)
  exact⟨by rfl,(hS.bM)⟩
theorem Zn (vv rv:Value) (k:Wk) (hk:iJ V vv rv k) (hG:GV V) (hV:V.In w) (hh:ay OC w) (err:Int) :
  kL Tryd.prog 43 #[.agg #[vv,rv],.int .i64 err] w fun r w'=>r=.returned (.tuple #[.int .i64 (oW k err).1.1,.int .i64 (oW k err).1.2,.int .i64 (oW k err).2])/\Kp w w':=by
 by_cases hbs:aS k []=0/\fQ err 0 9=false/\Go.Wg.settle k (aN k aC)=none
 ·obtain ⟨hb,ho,hst⟩:=hbs;have hC:oW k err=if (fM k (aN k aC) err k.n).1 < 0 then ((0,0),11) else (fM k (aN k aC) err k.n,0):=by
   unfold oW;rw[if_neg (by simp[hb]),ho,hst];rfl
  have hok:=dP hb;have he:0<=err/\err<=9:=by
   unfold fQ at ho;simp only[Bool.or_eq_false_iff,decide_eq_false_iff_not]at ho;omega
  have hs:=gG k aC;have hlo:=QU k hok aC;have hhi:∀ i,((aN k aC).aP i).2<=1000:=fun i=>Int.le_trans (Jy k hok aC i) (by decide)
  refine jD Tryd.func43 (show Tryd.f43.body=some B43 from rfl) fun cs b hbf hbk hbr=>?_
  have e104:Tryd.f43.ntmps-(#[.agg #[vv,rv],.int .i64 err]:Array Value).size=104:=by kernel_rfl
  rw[e104];obtain⟨tm0,htm⟩:∃ tm0,#[Value.agg #[vv,rv],.int .i64 err] ++ Array.replicate 104 undef=tm0:=⟨_,rfl⟩;rw[htm];refine vI (tgt:=TT [2,3,4,5]) hbf hbk (show[Item.code B43].all qy=true by kernel_rfl) (fun d hd=>nomatch hd) hh
   (S:=fun a w'=>∃ p V' D b6 b8,((∃ f,a=⟨kH (.int .i64 err) (ptr b6) (ptr p) (ptr b8) undef undef undef undef undef undef undef undef undef f,[dC b6]⟩)/\a.tmps[29]? = some (ptr p)/\a.tmps[30]? = some (.agg (dJ (aN k aC)).toArray)) /\
    NX V' p k D b8 (aN k aC)/\St w [] V' [.blk b6 38 [.int .i64 0]] w')
   (fun a w' τ d ⟨p,V',D,b6,b8,h1,h2,h3⟩=>⟨p,V',D,b6,b8,h1,h2,h3.re1 τ d⟩) (fun τ d=>?_) ?_
  ·rw[<- htm];refine(PX (w:=w.re τ d) vv rv k hk hG hV err hb ho hst).mono ?_;rintro a w' ⟨p,V',D,b6,b8,h1,h2,h3⟩;exact⟨p,V',D,b6,b8,h1,h2,h3.re0⟩
  ·rintro a w1 ⟨p,V',D,b6,b8,⟨⟨f1,rfl⟩,h29,h30⟩,hX,hS1⟩ hh1;have e29:f1 29=ptr p:=Option.some.inj h29;have e30:f1 30=.agg (dJ (aN k aC)).toArray:=Option.some.inj h30;refine Qn hX hok hs hlo hhi hS1.view hh1 hbk (o:=ops8[2]!) (y:=.tmp 29) (z:=.tmp 30) (d:=31) rfl rfl rfl rfl rfl e29 e30 fun w2 hk2 hh2=>?_
   have hN2:=(N1.aaO hS1).step hk2;have hbd:=GH k hok.le (aN k aC) false hlo;have hB0:fM k (aN k aC) err 0=(-1,oQ (dW k (aN k aC) false)):=rfl;obtain⟨tt,htt⟩:∃ tt,dW k (aN k aC) false=tt:=⟨_,rfl⟩;rw[htt]at hbd hB0 |-;have hout:=fun Q h=>outer (w0:=w) (b6:=b6) (b:=b) (cs:=cs) (Q:=Q) hX hok hs hlo hhi err he.1 he.2 hbf hbk h k.n 0 (Nat.zero_add _)
   rw[hB0]at hout;have eA:(Act.put ⟨kH (.int .i64 err) (ptr b6) (ptr p) (ptr b8) undef undef undef undef undef undef undef undef undef f1,[dC b6]⟩ (some 31) (aJ tt)) =
     ⟨kH (.int .i64 err) (ptr b6) (ptr p) (ptr b8) undef undef undef undef undef undef undef undef undef (fun j=>if j=31 then aJ tt else f1 j),[dC b6]⟩:=rfl
   rw[eA];refine vI (tgt:=jO) hbf hbk (Yl [3,4,5]) (CB b6 rfl) hh2 (S:=fun a w'=>(∃ f,a=⟨kH (.int .i64 err) (ptr b6) (ptr p) (ptr b8) (.int .i64 (-1)) (.int .i64 (oQ tt)) undef undef undef undef undef (.int .i64 k.n) (.int .i64 0) f,[dC b6]⟩)/\Kp w2 w')
    (fun a w' τ d h=>⟨h.1,adC h.2 τ d⟩) (fun τ d=>?_) ?_
   ·refine(aas (w:=w2.re τ d) hX _ _ _ _ _ _ _ _ _ _ _ _ (fun j=>if j=31 then aJ tt else f1 j) tt (hbd.mono zw) (by simp) hN2.vin).mono ?_;rintro a w' ⟨h1,h2⟩;exact⟨h1,uq h2⟩
   ·rintro a w3 ⟨⟨f3,rfl⟩,hk3⟩ hh3;refine hout _ (fun w f v11 v12 v13 v14 v15 hN hh=>?_) w3 f3 undef undef undef undef undef (hN2.step hk3) hh3;by_cases hneg:(fM k (aN k aC) err k.n).1 < 0
    ·rw [if_pos hneg] at hC;rw [hC];refine vI (tgt:=[.code .ret,.code N28]) hbf hbk Ah (CB b6 rfl) hh (S:=fun a w'=>(a.tmps[4]? = some (.int .i64 0)/\a.tmps[5]? = some (.int .i64 0)/\a.tmps[6]? = some (ptr b6)/\a.defers=[dC b6])/\St _ [] V' [.blk b6 38 [.int .i64 11]] w')
      (fun a w' τ d h=>⟨h.1,h.2.re1 τ d⟩) (fun τ d=>Zb _ _ k.n b6 hok.le hneg _ _ _ _ _ _ _ _ f (hN.st.re1 τ d)) ?_
     rintro a w4 ⟨⟨h4,h5,h6,hd⟩,hS4⟩ hh4;exact KU (k0:=[.code N28]) zk hbf hbk hh4 h4 h5 h6 hd hS4
    ·rw [if_neg hneg] at hC;rw [hC];refine vI (tgt:=[.code .ret]) hbf hbk Ah (CB b6 rfl) hh (S:=fun a w'=>(a.tmps[4]? = some (.int .i64 (fM k (aN k aC) err k.n).1)/\a.tmps[5]? = some (.int .i64 (fM k (aN k aC) err k.n).2)/\a.tmps[6]? = some (ptr b6)/\a.defers=[dC b6])/\St _ [] V' [.blk b6 38 [.int .i64 0]] w')
      (fun a w' τ d h=>⟨h.1,h.2.re1 τ d⟩) (fun τ d=>YQ _ _ k.n b6 hok.le hneg _ _ _ _ _ _ _ _ f (hN.st.re1 τ d)) ?_
     rintro a w4 ⟨⟨h4,h5,h6,hd⟩,hS4⟩ hh4;exact KU (k0:=[]) rfl hbf hbk hh4 h4 h5 h6 hd hS4
 ·refine uF lT xM (fun w h=>nomatch h.1) hh fun τ d=>?_
  exact(Vu (w:=w.re τ d) vv rv k hk hG hV err hbs).mono fun e w' h=>⟨h.1,⟨h.2.os,h.2.output,h.2.size,h.2.old⟩⟩
end Go.Proofs.YtjjmefieegcddaaDoor
namespace Go.Proofs.YtjjmefieegcddaaDoor
open Go.RowKit Go.Wg Go.Mm
variable {k:Wk} {args:Array Value} {R:Ending->World->Prop} {f:FuncId} {l:List Int} {rv v vv:Value} {e:Int} {a:Act} {b:Frame} {o:Oper} {ρ:Operand->Value} {x y:Operand} {ops:Array Oper} {Q:Exit->Act->World->Prop} {cs:List Frame} {k0:List Item} {P:Program}
theorem SK:qN (nJ [])=([29,15,11,15],0):=by kernel_rfl
theorem JR:iw (nJ []) 1=((15,17),0):=by kernel_rfl
theorem Vg:vX (nJ [])=((1,5),0):=by kernel_rfl
theorem SE:qQ (nJ [⟨1,0,20,1⟩])=([1],0):=by kernel_rfl
theorem Xa:oW (nJ []) 0=((0,3),0):=by kernel_rfl
theorem NZ:qx (nJ [⟨1,0,20,1⟩]) 1=(2,0):=by kernel_rfl
open Go.Wk
open Go Go.Sr Go.Ph Go.Tm Go.Conc
variable {w:World} {V:View} {w0:World} {X:List Nat} {L:List dF}
theorem Bz (hS:St w0 X V L w) (hm:Calls Tryd.prog 75 args w (U5 V w k)) (h:∀ (V':View) (vv rv:Value) (w':World),(∀ j o,V j=some o->V' j=some o)->iJ V' vv rv k->St w0 X V' L w'->R (.returned (.agg #[vv,rv])) w'):Calls Tryd.prog 75 args w R:=by
 refine hm.mono ?_;rintro e w' ⟨V',vv,rv,rfl,hk,hn,hin,hwk⟩;exact h V' vv rv w' (fun j o hj=>by rw[hn j (lt_of_heap (hS.view j o hj))];exact hj) hwk (hS.call hk hin hn)
theorem tZ (hS:St w0 X V L w) (hB:Bs V) (h:∀ (V':View) (vv rv:Value) (w':World),(∀ j o,V j=some o->V' j=some o)->iJ V' vv rv (nJ [])->St w0 X V' L w'->R (.returned (.agg #[vv,rv])) w'):Calls Tryd.prog 75 #[.slice none 0 0] w R:=Bz hS (UM hB hS.view) h
theorem Ba (hS:St w0 X V L w) (hB:Bs V) {bm:Nat} {r:je} (hm:∀ i v,(fH [r])[i]? = some v->V.Cell bm i v) (h:∀ (V':View) (vv rv:Value) (w':World),(∀ j o,V j=some o->V' j=some o)->iJ V' vv rv (nJ [r])->St w0 X V' L w'->R (.returned (.agg #[vv,rv])) w') :
  Calls Tryd.prog 75 #[.slice (some ⟨bm,0,none⟩) 1 1] w R:=Bz hS (Va hB hS.view r fun j v hj=>by rw[Nat.zero_add];exact hm j v hj) h
theorem xZ {u:Value} (hS:St w0 X V L w) (hc:Calls Tryd.prog f args w fun r w'=>∃ v,r=.returned (.tuple #[v,u])/\Kp w w'/\tY w w' v l)
 (h:∀ (V':View) (v:Value) (w':World),(∀ j o,V j=some o->V' j=some o)->VI V' v l->v.oneCell'=true->St w0 X V' L w'->R (.returned (.tuple #[v,u])) w'):Calls Tryd.prog f args w R:=by
 refine hc.mono ?_;rintro e w' ⟨v,rfl,hk,ho⟩;obtain⟨V',h1,h2,h3⟩:=Um hS hk ho;refine h V' v w' h1 h3 ?_ h2;obtain⟨a,cap,rfl,_⟩:=h3.is;rfl
theorem Ls (hS:St w0 X V L w) (hB:Bs V) (hk:iJ V vv rv k) (hv:qN k=(l,e))
 (h:∀ (V':View) (v:Value) (w':World),(∀ j o,V j=some o->V' j=some o)->VI V' v l->v.oneCell'=true->St w0 X V' L w'->R (.returned (.tuple #[v,.int .i64 e])) w'):Calls Tryd.prog 27 #[.agg #[vv,rv]] w R:=by
 have hc:=Vh vv rv k hk hB.gv hS.view;rw[hv]at hc;exact xZ hS hc h
theorem MV (hS:St w0 X V L w) (hB:Bs V) (hk:iJ V vv rv k) (hv:qQ k=(l,e))
 (h:∀ (V':View) (v:Value) (w':World),(∀ j o,V j=some o->V' j=some o)->VI V' v l->v.oneCell'=true->St w0 X V' L w'->R (.returned (.tuple #[v,.int .i64 e])) w'):Calls Tryd.prog 34 #[.agg #[vv,rv]] w R:=by
 have hc:=VK vv rv k hk hB.gv hS.view;rw[hv]at hc;exact xZ hS hc h
theorem oq {v a b:Int} (hS:St w0 X V L w) (hB:Bs V) (hk:iJ V vv rv k) (hv:iw k v=((a,b),e))
 (h:∀ w',St w0 X V L w'->R (.returned (.tuple #[.agg #[.int .i64 a,.int .i64 b],.int .i64 e])) w'):Calls Tryd.prog 54 #[.agg #[vv,rv],.int .i64 v] w R:=by
 have hc:=RY vv rv k hk hB.gv hS.view v;rw[hv]at hc;exact aH hS ⟨_,hc,h⟩
theorem JC {v a:Int} (hS:St w0 X V L w) (hB:Bs V) (hk:iJ V vv rv k) (hv:qx k v=(a,e))
 (h:∀ w',St w0 X V L w'->R (.returned (.tuple #[.int .i64 a,.int .i64 e])) w'):Calls Tryd.prog 51 #[.agg #[vv,rv],.int .i64 v] w R:=by
 have hc:=RS vv rv k hk hB.gv hS.view v;rw[hv]at hc;exact aH hS ⟨_,hc,h⟩
theorem zu {l1 l2:List Int} {a b:Value} (hS:St w0 X V L w) (h1:VI V a l1) (h2:VI V b l2) (n1:l1.length<=100) (n2:l2.length<=100) (he:l1=l2) (h:∀ w',St w0 X V L w'->R (.returned (.bool true)) w'):Calls Tryd.prog 31 #[a,b] w R:=by
 have hc:=SI l1 l2 a b h1 h2 n1 n2 hS.view;rw[decide_eq_true he]at hc;exact aH hS ⟨_,hc,h⟩
theorem YD {V:View} {b:Nat} (hl:l.length<=100) (h:∀ i x,(aV l)[i]? = some x->V.Cell b i x):VI V (.slice (some ⟨b,0,none⟩) l.length l.length) l:=by
 refine⟨⟨some ⟨b,0,none⟩,l.length,rfl,Nat.le_refl _,by unfold maxLen;omega,fun _=>⟨b,0,rfl,fun i hi j x hj=>?_⟩⟩⟩;cases j with
 |succ j=>simp at hj
 |zero =>
  simp at hj;subst hj;have:=h i (.int .i64 (l.getD i 0)) (by simp[aV,List.getD_eq_getElem?_getD,List.getElem?_eq_getElem hi]);simpa using this
noncomputable def B21:Code:=match Tryd.f21.body with|some c=>c|none=>.skip
noncomputable def Yz:Code:=match B21 with | .seq _ (.seq _ (.seq _ (.seq _ r)))=>r|_=>.skip
noncomputable def Zq:Code:=match Yz with | .seq _ (.seq _ r)=>r|_=>.skip
noncomputable def Gv:Array Oper:=match B21 with | .seq _ (.seq _ (.seq _ (.seq (.region _ o _) _)))=>o|_=>#[]
noncomputable def qm:Array Oper:=match Yz with | .seq _ (.seq (.region _ o _) _)=>o|_=>#[]
def Wd1 (w:World) (V:View) (a:Act) (w':World):Prop :=
 ∃ (V':View) (vv rv v1:Value) (b3:Nat),(∃ f:Nat->Value,a=⟨#[.bool false,v1,.int .i64 0,.pointer (some ⟨b3,0,none⟩),.int .i64 0,f 5,f 6,f 7,f 8,f 9,f 10,f 11,f 12,f 13,f 14,f 15,f 16,f 17,f 18,f 19,f 20,f 21,f 22,f 23,f 24,.agg #[vv,rv],f 26,f 27,f 28,f 29,f 30,f 31,f 32,f 33,f 34,f 35,f 36,f 37,f 38,f 39,f 40,f 41,f 42,f 43,f 44,f 45,f 46,f 47,f 48,f 49,f 50,f 51,f 52,f 53,f 54,f 55,f 56,f 57,f 58,f 59,f 60,f 61,f 62,f 63,f 64,f 65,f 66,f 67,f 68,f 69,f 70,f 71,f 72,f 73,f 74,f 75,f 76,f 77,f 78,f 79,f 80,f 81,f 82,f 83,f 84,f 85,f 86,f 87,f 88,f 89,f 90,f 91,f 92,f 93,f 94,f 95,f 96,f 97,f 98,f 99,f 100,f 101,f 102],[]⟩)/\(∀ j o,V j=some o->V' j=some o)/\iJ V' vv rv (nJ [])/\VI V' v1 [29,15,11,15]/\v1.oneCell'=true/\(∀ i v,[Value.int .i64 15,.int .i64 17][i]? = some v->V'.Cell b3 i v)/\St w [] V' [] w'
theorem U2 (hB:Bs V) (hV:V.In w):fA Tryd.prog [.inRegion Gv [1,2,3,4,5,6,7],.code Yz] (Wd1 w V) [.code B21] {tmps:=#[] ++ Array.replicate 103 undef,defers:=[]} w:=by
 have hS:=St.start w V hV;simp only[Array.replicate_succ,Array.replicate_zero,List.push_toArray,List.append_toArray,List.nil_append,List.cons_append];refine au (aA ?_);go_wp2_with (fail)
 refine au (aA ?_);go_wp2_with (first|(go_at_call 75;refine tZ hS hB ?_;clear hS;intro V1 vv1 rv1 w' hV1 hk1 hS)|(go_at_call 27;refine Ls hS (hB.mono hV1) hk1 SK ?_;clear hS;intro V2 v1 w' hV2 hv1 hone hS))
 have hB2:Bs V2:=hB.mono fun j o h=>hV2 j o (hV1 j o h)
 refine au (aA ?_);go_wp2_with (first|(refine ys ?_;clear hS;intro w' hS)|(refine ya 3 ?_;clear hS;intro b3 w' hS)|(go_at_call 75;refine tZ hS hB2 ?_;clear hS;intro V3 vv3 rv3 w' hV3 hk3 hS)|(go_at_call 54;refine oq hS (hB2.mono hV3) hk3 JR ?_;clear hS;intro w' hS))
 obtain⟨V4,hV4,hc4,hS4⟩:=pin hS;clear hS;have hS:=hS4;clear hS4;have hB4:Bs V4:=hB2.mono fun j o h=>hV4 j o (hV3 j o h)
 refine au (ig ?_);refine rZ (i:=0) rfl rfl (run_call_body rfl Tryd.func75 zk rfl) ?_;simp only[List.map_toArray,List.map_cons,List.map_nil];show Calls Tryd.prog 75 #[.slice none 0 0] _ _;refine tZ hS hB4 ?_;clear hS;intro V5 vv rv w' hV5 hk5 hS;refine⟨_,rfl,?_⟩;have key:∀ a:Act,a=⟨#[.bool false,v1,.int .i64 0,.pointer (some ⟨b3,0,none⟩),.int .i64 0,a.tmps.getD 5 undef,a.tmps.getD 6 undef,a.tmps.getD 7 undef,a.tmps.getD 8 undef,a.tmps.getD 9 undef,a.tmps.getD 10 undef,a.tmps.getD 11 undef,a.tmps.getD 12 undef,a.tmps.getD 13 undef,a.tmps.getD 14 undef,a.tmps.getD 15 undef,a.tmps.getD 16 undef,a.tmps.getD 17 undef,a.tmps.getD 18 undef,a.tmps.getD 19 undef,a.tmps.getD 20 undef,a.tmps.getD 21 undef,a.tmps.getD 22 undef,a.tmps.getD 23 undef,a.tmps.getD 24 undef,.agg #[vv,rv],a.tmps.getD 26 undef,a.tmps.getD 27 undef,a.tmps.getD 28 undef,a.tmps.getD 29 undef,a.tmps.getD 30 undef,a.tmps.getD 31 undef,a.tmps.getD 32 undef,a.tmps.getD 33 undef,a.tmps.getD 34 undef,a.tmps.getD 35 undef,a.tmps.getD 36 undef,a.tmps.getD 37 undef,a.tmps.getD 38 undef,a.tmps.getD 39 undef,a.tmps.getD 40 undef,a.tmps.getD 41 undef,a.tmps.getD 42 undef,a.tmps.getD 43 undef,a.tmps.getD 44 undef,a.tmps.getD 45 undef,a.tmps.getD 46 undef,a.tmps.getD 47 undef,a.tmps.getD 48 undef,a.tmps.getD 49 undef,a.tmps.getD 50 undef,a.tmps.getD 51 undef,a.tmps.getD 52 undef,a.tmps.getD 53 undef,a.tmps.getD 54 undef,a.tmps.getD 55 undef,a.tmps.getD 56 undef,a.tmps.getD 57 undef,a.tmps.getD 58 undef,a.tmps.getD 59 undef,a.tmps.getD 60 undef,a.tmps.getD 61 undef,a.tmps.getD 62 undef,a.tmps.getD 63 undef,a.tmps.getD 64 undef,a.tmps.getD 65 undef,a.tmps.getD 66 undef,a.tmps.getD 67 undef,a.tmps.getD 68 undef,a.tmps.getD 69 undef,a.tmps.getD 70 undef,a.tmps.getD 71 undef,a.tmps.getD 72 undef,a.tmps.getD 73 undef,a.tmps.getD 74 undef,a.tmps.getD 75 undef,a.tmps.getD 76 undef,a.tmps.getD 77 undef,a.tmps.getD 78 undef,a.tmps.getD 79 undef,a.tmps.getD 80 undef,a.tmps.getD 81 undef,a.tmps.getD 82 undef,a.tmps.getD 83 undef,a.tmps.getD 84 undef,a.tmps.getD 85 undef,a.tmps.getD 86 undef,a.tmps.getD 87 undef,a.tmps.getD 88 undef,a.tmps.getD 89 undef,a.tmps.getD 90 undef,a.tmps.getD 91 undef,a.tmps.getD 92 undef,a.tmps.getD 93 undef,a.tmps.getD 94 undef,a.tmps.getD 95 undef,a.tmps.getD 96 undef,a.tmps.getD 97 undef,a.tmps.getD 98 undef,a.tmps.getD 99 undef,a.tmps.getD 100 undef,a.tmps.getD 101 undef,a.tmps.getD 102 undef],[]⟩->Wd1 w V a w':=fun a ha =>
  ⟨V5,vv,rv,v1,b3,⟨fun j=>a.tmps.getD j undef,ha⟩,fun j o h=>hV5 j o (hV4 j o (hV3 j o (hV2 j o (hV1 j o h)))),hk5,pW.mono (pW.mono (pW.mono hv1 hV3) hV4) hV5,hone,fun i v h=>(hc4 i v h).mono hV5,hS⟩
 exact bG (tgt:=[.inRegion Gv [1,2,3,4,5,6,7],.code Yz]) (key _ rfl)
def Wd2 (w:World) (V:View) (v1:Value) (b3:Nat) (a:Act) (w':World):Prop :=
 ∃ (V':View) (vv rv v7:Value) (b5:Nat),(∃ f:Nat->Value,a=⟨#[.bool false,v1,.int .i64 0,.pointer (some ⟨b3,0,none⟩),.int .i64 0,.pointer (some ⟨b5,0,none⟩),.int .i64 0,v7,.int .i64 0,f 9,f 10,f 11,f 12,f 13,f 14,f 15,f 16,f 17,f 18,f 19,f 20,f 21,f 22,f 23,f 24,f 25,f 26,f 27,f 28,f 29,f 30,f 31,f 32,f 33,f 34,f 35,f 36,.agg #[vv,rv],f 38,f 39,f 40,f 41,f 42,f 43,f 44,f 45,f 46,f 47,f 48,f 49,f 50,f 51,f 52,f 53,f 54,f 55,f 56,f 57,f 58,f 59,f 60,f 61,f 62,f 63,f 64,f 65,f 66,f 67,f 68,f 69,f 70,f 71,f 72,f 73,f 74,f 75,f 76,f 77,f 78,f 79,f 80,f 81,f 82,f 83,f 84,f 85,f 86,f 87,f 88,f 89,f 90,f 91,f 92,f 93,f 94,f 95,f 96,f 97,f 98,f 99,f 100,f 101,f 102],[]⟩)/\(∀ j o,V j=some o->V' j=some o)/\iJ V' vv rv (nJ [])/\VI V' v7 [1]/\v7.oneCell'=true/\(∀ i v,[Value.int .i64 1,.int .i64 5][i]? = some v->V'.Cell b5 i v)/\St w [] V' [] w'
theorem Vp (hB:Bs V) (hV:V.In w) (v1:Value) (b3:Nat) (f:Nat->Value):fA Tryd.prog [.inRegion qm [1,2,3,4,5,6,7,8],.code Zq] (Wd2 w V v1 b3) [.inRegion Gv [2,3,4,5,6,7],.code Yz] ⟨#[.bool false,v1,.int .i64 0,.pointer (some ⟨b3,0,none⟩),.int .i64 0,f 5,f 6,f 7,f 8,f 9,f 10,f 11,f 12,f 13,f 14,f 15,f 16,f 17,f 18,f 19,f 20,f 21,f 22,f 23,f 24,f 25,.tuple #[.agg #[.int .i64 1,.int .i64 5],.int .i64 0],f 27,f 28,f 29,f 30,f 31,f 32,f 33,f 34,f 35,f 36,f 37,f 38,f 39,f 40,f 41,f 42,f 43,f 44,f 45,f 46,f 47,f 48,f 49,f 50,f 51,f 52,f 53,f 54,f 55,f 56,f 57,f 58,f 59,f 60,f 61,f 62,f 63,f 64,f 65,f 66,f 67,f 68,f 69,f 70,f 71,f 72,f 73,f 74,f 75,f 76,f 77,f 78,f 79,f 80,f 81,f 82,f 83,f 84,f 85,f 86,f 87,f 88,f 89,f 90,f 91,f 92,f 93,f 94,f 95,f 96,f 97,f 98,f 99,f 100,f 101,f 102],[]⟩ w:=by
 have hS:=St.start w V hV;refine cO (i:=2) (v:=.tuple #[.agg #[.int .i64 1,.int .i64 5],.int .i64 0]) (w':=w) rfl rfl rfl ?_;refine cO (i:=3) (v:=.agg #[.int .i64 1,.int .i64 5]) (w':=w) rfl rfl rfl ?_;refine cO (i:=4) (v:=.int .i64 0) (w':=w) rfl rfl rfl ?_;refine cO (i:=5) rfl rfl (Aq (P:=Tryd.prog) hS (cs:=[.int .i64 0,.int .i64 0]) rfl zk zk).1 ?_;replace hS:=hS.alloc 27 [.int .i64 0,.int .i64 0];generalize w.alloc (.cells [Value.int .i64 0,.int .i64 0].toArray 27)=w1 at hS |-;obtain⟨b5,hb5⟩:∃ b5,w.heap.size=b5:=⟨_,rfl⟩;rw[hb5]at hS |-;refine xK hS (i:=6) (vs:=[.int .i64 1,.int .i64 5]) rfl rfl rfl (j:=0) (i':=0) (n:=2) rfl rfl rfl (by simp[Value.oneCell']) zk rfl (by simp) ?_;clear hS;intro w2 hS;simp only[List.set_cons_zero,splice,List.take_zero,List.nil_append,List.length_cons,List.length_nil,Nat.zero_add,List.append_nil,List.drop_nil,Nat.reduceAdd,List.drop_succ_cons,List.drop_zero]at hS;refine cO (i:=7) (v:=.int .i64 0) (w':=w2) rfl rfl rfl ?_;refine dH ?_;show fA Tryd.prog [.inRegion qm [1,2,3,4,5,6,7,8],.code Zq] (Wd2 w V v1 b3) [.code Yz] ⟨#[.bool false,v1,.int .i64 0,.pointer (some ⟨b3,0,none⟩),.int .i64 0,.pointer (some ⟨b5,0,none⟩),.int .i64 0,f 7,f 8,f 9,f 10,f 11,f 12,f 13,f 14,f 15,f 16,f 17,f 18,f 19,f 20,f 21,f 22,f 23,.tuple #[.agg #[.int .i64 1,.int .i64 5],.int .i64 0],f 25,.tuple #[.agg #[.int .i64 1,.int .i64 5],.int .i64 0],.agg #[.int .i64 1,.int .i64 5],.int .i64 0,f 29,f 30,f 31,f 32,f 33,f 34,f 35,f 36,f 37,f 38,f 39,f 40,f 41,f 42,f 43,f 44,f 45,f 46,f 47,f 48,f 49,f 50,f 51,f 52,f 53,f 54,f 55,f 56,f 57,f 58,f 59,f 60,f 61,f 62,f 63,f 64,f 65,f 66,f 67,f 68,f 69,f 70,f 71,f 72,f 73,f 74,f 75,f 76,f 77,f 78,f 79,f 80,f 81,f 82,f 83,f 84,f 85,f 86,f 87,f 88,f 89,f 90,f 91,f 92,f 93,f 94,f 95,f 96,f 97,f 98,f 99,f 100,f 101,f 102],[]⟩ w2;obtain⟨V1,hV1,hc1,hS1⟩:=pin hS;clear hS;have hS:=hS1;clear hS1;have hB1:=hB.mono hV1;refine au (aA ?_);go_wp2_with (first|fail|(go_at_call 42;refine aH hS ⟨_,y9 _ _ _ _ _,?_⟩;clear hS;intro w' hS)|((with_reducible refine uP ?_);refine zU hS rfl (oP (a:=⟨1,0,20,1⟩) rfl rfl) ?_;clear hS;intro bm a' hp;(try simp only[fr]at hp);subst hp;intro w' hS;obtain⟨V2,hV2,hc2,hS2⟩:=pin hS;clear hS;have hS:=hS2;clear hS2)|(go_at_call 75;refine Ba hS (hB1.mono hV2) hc2 ?_;clear hS;intro V3 vv3 rv3 w' hV3 hk3 hS)|(go_at_call 34;refine MV hS ((hB1.mono hV2).mono hV3) hk3 SE ?_;clear hS;intro V4 v7 w' hV4 hv7 hone hS))
 have hB4:Bs V4:=((hB1.mono hV2).mono hV3).mono hV4;refine au (ig ?_);refine rZ (i:=0) rfl rfl (run_call_body rfl Tryd.func75 zk rfl) ?_;simp only[List.map_toArray,List.map_cons,List.map_nil];show Calls Tryd.prog 75 #[.slice none 0 0] _ _;refine tZ hS hB4 ?_;clear hS;intro V5 vv rv w' hV5 hk5 hS;refine⟨_,rfl,?_⟩;have key:∀ a:Act,a=⟨#[.bool false,v1,.int .i64 0,.pointer (some ⟨b3,0,none⟩),.int .i64 0,.pointer (some ⟨b5,0,none⟩),.int .i64 0,v7,.int .i64 0,a.tmps.getD 9 undef,a.tmps.getD 10 undef,a.tmps.getD 11 undef,a.tmps.getD 12 undef,a.tmps.getD 13 undef,a.tmps.getD 14 undef,a.tmps.getD 15 undef,a.tmps.getD 16 undef,a.tmps.getD 17 undef,a.tmps.getD 18 undef,a.tmps.getD 19 undef,a.tmps.getD 20 undef,a.tmps.getD 21 undef,a.tmps.getD 22 undef,a.tmps.getD 23 undef,a.tmps.getD 24 undef,a.tmps.getD 25 undef,a.tmps.getD 26 undef,a.tmps.getD 27 undef,a.tmps.getD 28 undef,a.tmps.getD 29 undef,a.tmps.getD 30 undef,a.tmps.getD 31 undef,a.tmps.getD 32 undef,a.tmps.getD 33 undef,a.tmps.getD 34 undef,a.tmps.getD 35 undef,a.tmps.getD 36 undef,.agg #[vv,rv],a.tmps.getD 38 undef,a.tmps.getD 39 undef,a.tmps.getD 40 undef,a.tmps.getD 41 undef,a.tmps.getD 42 undef,a.tmps.getD 43 undef,a.tmps.getD 44 undef,a.tmps.getD 45 undef,a.tmps.getD 46 undef,a.tmps.getD 47 undef,a.tmps.getD 48 undef,a.tmps.getD 49 undef,a.tmps.getD 50 undef,a.tmps.getD 51 undef,a.tmps.getD 52 undef,a.tmps.getD 53 undef,a.tmps.getD 54 undef,a.tmps.getD 55 undef,a.tmps.getD 56 undef,a.tmps.getD 57 undef,a.tmps.getD 58 undef,a.tmps.getD 59 undef,a.tmps.getD 60 undef,a.tmps.getD 61 undef,a.tmps.getD 62 undef,a.tmps.getD 63 undef,a.tmps.getD 64 undef,a.tmps.getD 65 undef,a.tmps.getD 66 undef,a.tmps.getD 67 undef,a.tmps.getD 68 undef,a.tmps.getD 69 undef,a.tmps.getD 70 undef,a.tmps.getD 71 undef,a.tmps.getD 72 undef,a.tmps.getD 73 undef,a.tmps.getD 74 undef,a.tmps.getD 75 undef,a.tmps.getD 76 undef,a.tmps.getD 77 undef,a.tmps.getD 78 undef,a.tmps.getD 79 undef,a.tmps.getD 80 undef,a.tmps.getD 81 undef,a.tmps.getD 82 undef,a.tmps.getD 83 undef,a.tmps.getD 84 undef,a.tmps.getD 85 undef,a.tmps.getD 86 undef,a.tmps.getD 87 undef,a.tmps.getD 88 undef,a.tmps.getD 89 undef,a.tmps.getD 90 undef,a.tmps.getD 91 undef,a.tmps.getD 92 undef,a.tmps.getD 93 undef,a.tmps.getD 94 undef,a.tmps.getD 95 undef,a.tmps.getD 96 undef,a.tmps.getD 97 undef,a.tmps.getD 98 undef,a.tmps.getD 99 undef,a.tmps.getD 100 undef,a.tmps.getD 101 undef,a.tmps.getD 102 undef],[]⟩->Wd2 w V v1 b3 a w':=fun a ha =>
  ⟨V5,vv,rv,v7,b5,⟨fun j=>a.tmps.getD j undef,ha⟩,fun j o h=>hV5 j o (hV4 j o (hV3 j o (hV2 j o (hV1 j o h)))),hk5,pW.mono hv7 hV5,hone,fun i v h=>(((hc1 i v h).mono hV2).mono hV3 |>.mono hV4).mono hV5,hS⟩
 exact bG (tgt:=[.inRegion qm [1,2,3,4,5,6,7,8],.code Zq]) (key _ rfl)
theorem akZ (ho:o.op=.binOp .eql 27 x y 27) (hx:ρ x=.agg #[.int .i64 15,.int .i64 17]) (hy:ρ y=.agg #[.int .i64 15,.int .i64 17]) (w:World):(execOp ρ o).run Tryd.prog w=.ok (.value (.bool true)) w:=by
 unfold execOp;simp only[ho,hx,hy];kernel_rfl
theorem Sm (ho:o.op=.binOp .eql 27 x y 27) (hx:ρ x=.agg #[.int .i64 1,.int .i64 5]) (hy:ρ y=.agg #[.int .i64 1,.int .i64 5]) (w:World):(execOp ρ o).run Tryd.prog w=.ok (.value (.bool true)) w:=by
 unfold execOp;simp only[ho,hx,hy];kernel_rfl
theorem aaX {d:Option Tmp} {t:TypeId} {p:String} {af:Array Edge} {g:Option (Nat × Bool)} {rest:List Oper} (h:wpList Tryd.prog ops Q (⟨d,.binOp .eql 27 x y 27,t,p,af,g⟩::rest) a w):wpList Tryd.prog ops Q (⟨d,.binOp .eql 27 x y 27,t,p,af,g⟩::rest) a w:=h
theorem UN (hB:Bs V) (hV:V.In w) (v1 v7:Value) (b3 b5:Nat) (o1:v1.oneCell'=true) (o7:v7.oneCell'=true) (h1:VI V v1 [29,15,11,15]) (h7:VI V v7 [1]) (h3:∀ i v,[Value.int .i64 15,.int .i64 17][i]? = some v->V.Cell b3 i v) (h5:∀ i v,[Value.int .i64 1,.int .i64 5][i]? = some v->V.Cell b5 i v) (f:Nat->Value) :
  fA Tryd.prog [.code .ret] (fun a w'=>a.tmps[0]? = some (.bool true)/\a.defers=[]/\Kp w w') [.inRegion qm [2,3,4,5,6,7,8],.code Zq] ⟨#[.bool false,v1,.int .i64 0,.pointer (some ⟨b3,0,none⟩),.int .i64 0,.pointer (some ⟨b5,0,none⟩),.int .i64 0,v7,.int .i64 0,f 9,f 10,f 11,f 12,f 13,f 14,f 15,f 16,f 17,f 18,f 19,f 20,f 21,f 22,f 23,f 24,f 25,f 26,f 27,f 28,f 29,f 30,f 31,f 32,f 33,f 34,f 35,f 36,f 37,.tuple #[.int .i64 0,.int .i64 3,.int .i64 0],f 39,f 40,f 41,f 42,f 43,f 44,f 45,f 46,f 47,f 48,f 49,f 50,f 51,f 52,f 53,f 54,f 55,f 56,f 57,f 58,f 59,f 60,f 61,f 62,f 63,f 64,f 65,f 66,f 67,f 68,f 69,f 70,f 71,f 72,f 73,f 74,f 75,f 76,f 77,f 78,f 79,f 80,f 81,f 82,f 83,f 84,f 85,f 86,f 87,f 88,f 89,f 90,f 91,f 92,f 93,f 94,f 95,f 96,f 97,f 98,f 99,f 100,f 101,f 102],[]⟩ w:=by
 have hS:=St.start w V hV;refine cO (i:=2) (v:=.tuple #[.int .i64 0,.int .i64 3,.int .i64 0]) (w':=w) rfl rfl rfl ?_;show fA Tryd.prog [.code .ret] _ (.inRegion qm [3,4,5,6,7,8]::_) ⟨#[.bool false,v1,.int .i64 0,.pointer (some ⟨b3,0,none⟩),.int .i64 0,.pointer (some ⟨b5,0,none⟩),.int .i64 0,v7,.int .i64 0,f 9,f 10,f 11,f 12,f 13,f 14,f 15,f 16,f 17,f 18,f 19,f 20,f 21,f 22,f 23,f 24,f 25,f 26,f 27,f 28,f 29,f 30,f 31,f 32,f 33,f 34,f 35,.tuple #[.int .i64 0,.int .i64 3,.int .i64 0],f 37,.tuple #[.int .i64 0,.int .i64 3,.int .i64 0],f 39,f 40,f 41,f 42,f 43,f 44,f 45,f 46,f 47,f 48,f 49,f 50,f 51,f 52,f 53,f 54,f 55,f 56,f 57,f 58,f 59,f 60,f 61,f 62,f 63,f 64,f 65,f 66,f 67,f 68,f 69,f 70,f 71,f 72,f 73,f 74,f 75,f 76,f 77,f 78,f 79,f 80,f 81,f 82,f 83,f 84,f 85,f 86,f 87,f 88,f 89,f 90,f 91,f 92,f 93,f 94,f 95,f 96,f 97,f 98,f 99,f 100,f 101,f 102],[]⟩ w;refine cO (i:=3) (v:=.int .i64 0) (w':=w) rfl rfl rfl ?_;show fA Tryd.prog [.code .ret] _ (.inRegion qm [4,5,6,7,8]::_) ⟨#[.bool false,v1,.int .i64 0,.pointer (some ⟨b3,0,none⟩),.int .i64 0,.pointer (some ⟨b5,0,none⟩),.int .i64 0,v7,.int .i64 0,f 9,f 10,f 11,f 12,f 13,f 14,f 15,f 16,f 17,f 18,f 19,f 20,f 21,f 22,f 23,f 24,f 25,f 26,f 27,f 28,f 29,f 30,f 31,f 32,f 33,f 34,f 35,.tuple #[.int .i64 0,.int .i64 3,.int .i64 0],f 37,.tuple #[.int .i64 0,.int .i64 3,.int .i64 0],.int .i64 0,f 40,f 41,f 42,f 43,f 44,f 45,f 46,f 47,f 48,f 49,f 50,f 51,f 52,f 53,f 54,f 55,f 56,f 57,f 58,f 59,f 60,f 61,f 62,f 63,f 64,f 65,f 66,f 67,f 68,f 69,f 70,f 71,f 72,f 73,f 74,f 75,f 76,f 77,f 78,f 79,f 80,f 81,f 82,f 83,f 84,f 85,f 86,f 87,f 88,f 89,f 90,f 91,f 92,f 93,f 94,f 95,f 96,f 97,f 98,f 99,f 100,f 101,f 102],[]⟩ w;refine cO (i:=4) (v:=.int .i64 3) (w':=w) rfl rfl rfl ?_;show fA Tryd.prog [.code .ret] _ (.inRegion qm [5,6,7,8]::_) ⟨#[.bool false,v1,.int .i64 0,.pointer (some ⟨b3,0,none⟩),.int .i64 0,.pointer (some ⟨b5,0,none⟩),.int .i64 0,v7,.int .i64 0,f 9,f 10,f 11,f 12,f 13,f 14,f 15,f 16,f 17,f 18,f 19,f 20,f 21,f 22,f 23,f 24,f 25,f 26,f 27,f 28,f 29,f 30,f 31,f 32,f 33,f 34,f 35,.tuple #[.int .i64 0,.int .i64 3,.int .i64 0],f 37,.tuple #[.int .i64 0,.int .i64 3,.int .i64 0],.int .i64 0,.int .i64 3,f 41,f 42,f 43,f 44,f 45,f 46,f 47,f 48,f 49,f 50,f 51,f 52,f 53,f 54,f 55,f 56,f 57,f 58,f 59,f 60,f 61,f 62,f 63,f 64,f 65,f 66,f 67,f 68,f 69,f 70,f 71,f 72,f 73,f 74,f 75,f 76,f 77,f 78,f 79,f 80,f 81,f 82,f 83,f 84,f 85,f 86,f 87,f 88,f 89,f 90,f 91,f 92,f 93,f 94,f 95,f 96,f 97,f 98,f 99,f 100,f 101,f 102],[]⟩ w;refine cO (i:=5) (v:=.int .i64 0) (w':=w) rfl rfl rfl ?_;show fA Tryd.prog [.code .ret] _ (.inRegion qm [6,7,8]::_) ⟨#[.bool false,v1,.int .i64 0,.pointer (some ⟨b3,0,none⟩),.int .i64 0,.pointer (some ⟨b5,0,none⟩),.int .i64 0,v7,.int .i64 0,f 9,f 10,f 11,f 12,f 13,f 14,f 15,f 16,f 17,f 18,f 19,f 20,f 21,f 22,f 23,f 24,f 25,f 26,f 27,f 28,f 29,f 30,f 31,f 32,f 33,f 34,f 35,.tuple #[.int .i64 0,.int .i64 3,.int .i64 0],f 37,.tuple #[.int .i64 0,.int .i64 3,.int .i64 0],.int .i64 0,.int .i64 3,.int .i64 0,f 42,f 43,f 44,f 45,f 46,f 47,f 48,f 49,f 50,f 51,f 52,f 53,f 54,f 55,f 56,f 57,f 58,f 59,f 60,f 61,f 62,f 63,f 64,f 65,f 66,f 67,f 68,f 69,f 70,f 71,f 72,f 73,f 74,f 75,f 76,f 77,f 78,f 79,f 80,f 81,f 82,f 83,f 84,f 85,f 86,f 87,f 88,f 89,f 90,f 91,f 92,f 93,f 94,f 95,f 96,f 97,f 98,f 99,f 100,f 101,f 102],[]⟩ w;refine cO (i:=6) (v:=.int .i64 0) (w':=w) rfl rfl rfl ?_;show fA Tryd.prog [.code .ret] _ (.inRegion qm [7,8]::_) ⟨#[.bool false,v1,.int .i64 0,.pointer (some ⟨b3,0,none⟩),.int .i64 0,.pointer (some ⟨b5,0,none⟩),.int .i64 0,v7,.int .i64 0,.int .i64 0,f 10,f 11,f 12,f 13,f 14,f 15,f 16,f 17,f 18,f 19,f 20,f 21,f 22,f 23,f 24,f 25,f 26,f 27,f 28,f 29,f 30,f 31,f 32,f 33,f 34,f 35,.tuple #[.int .i64 0,.int .i64 3,.int .i64 0],f 37,.tuple #[.int .i64 0,.int .i64 3,.int .i64 0],.int .i64 0,.int .i64 3,.int .i64 0,f 42,f 43,f 44,f 45,f 46,f 47,f 48,f 49,f 50,f 51,f 52,f 53,f 54,f 55,f 56,f 57,f 58,f 59,f 60,f 61,f 62,f 63,f 64,f 65,f 66,f 67,f 68,f 69,f 70,f 71,f 72,f 73,f 74,f 75,f 76,f 77,f 78,f 79,f 80,f 81,f 82,f 83,f 84,f 85,f 86,f 87,f 88,f 89,f 90,f 91,f 92,f 93,f 94,f 95,f 96,f 97,f 98,f 99,f 100,f 101,f 102],[]⟩ w;refine cO (i:=7) (v:=.int .i64 3) (w':=w) rfl rfl rfl ?_;show fA Tryd.prog [.code .ret] _ (.inRegion qm [8]::_) ⟨#[.bool false,v1,.int .i64 0,.pointer (some ⟨b3,0,none⟩),.int .i64 0,.pointer (some ⟨b5,0,none⟩),.int .i64 0,v7,.int .i64 0,.int .i64 0,.int .i64 3,f 11,f 12,f 13,f 14,f 15,f 16,f 17,f 18,f 19,f 20,f 21,f 22,f 23,f 24,f 25,f 26,f 27,f 28,f 29,f 30,f 31,f 32,f 33,f 34,f 35,.tuple #[.int .i64 0,.int .i64 3,.int .i64 0],f 37,.tuple #[.int .i64 0,.int .i64 3,.int .i64 0],.int .i64 0,.int .i64 3,.int .i64 0,f 42,f 43,f 44,f 45,f 46,f 47,f 48,f 49,f 50,f 51,f 52,f 53,f 54,f 55,f 56,f 57,f 58,f 59,f 60,f 61,f 62,f 63,f 64,f 65,f 66,f 67,f 68,f 69,f 70,f 71,f 72,f 73,f 74,f 75,f 76,f 77,f 78,f 79,f 80,f 81,f 82,f 83,f 84,f 85,f 86,f 87,f 88,f 89,f 90,f 91,f 92,f 93,f 94,f 95,f 96,f 97,f 98,f 99,f 100,f 101,f 102],[]⟩ w;refine cO (i:=8) (v:=.int .i64 0) (w':=w) rfl rfl rfl ?_;show fA Tryd.prog [.code .ret] _ (.inRegion qm []::_) ⟨#[.bool false,v1,.int .i64 0,.pointer (some ⟨b3,0,none⟩),.int .i64 0,.pointer (some ⟨b5,0,none⟩),.int .i64 0,v7,.int .i64 0,.int .i64 0,.int .i64 3,.int .i64 0,f 12,f 13,f 14,f 15,f 16,f 17,f 18,f 19,f 20,f 21,f 22,f 23,f 24,f 25,f 26,f 27,f 28,f 29,f 30,f 31,f 32,f 33,f 34,f 35,.tuple #[.int .i64 0,.int .i64 3,.int .i64 0],f 37,.tuple #[.int .i64 0,.int .i64 3,.int .i64 0],.int .i64 0,.int .i64 3,.int .i64 0,f 42,f 43,f 44,f 45,f 46,f 47,f 48,f 49,f 50,f 51,f 52,f 53,f 54,f 55,f 56,f 57,f 58,f 59,f 60,f 61,f 62,f 63,f 64,f 65,f 66,f 67,f 68,f 69,f 70,f 71,f 72,f 73,f 74,f 75,f 76,f 77,f 78,f 79,f 80,f 81,f 82,f 83,f 84,f 85,f 86,f 87,f 88,f 89,f 90,f 91,f 92,f 93,f 94,f 95,f 96,f 97,f 98,f 99,f 100,f 101,f 102],[]⟩ w;refine dH ?_;show fA Tryd.prog [.code .ret] _ [.code Zq] ⟨#[.bool false,v1,.int .i64 0,.pointer (some ⟨b3,0,none⟩),.int .i64 0,.pointer (some ⟨b5,0,none⟩),.int .i64 0,v7,.int .i64 0,.int .i64 0,.int .i64 3,.int .i64 0,f 12,f 13,f 14,f 15,f 16,f 17,f 18,f 19,f 20,f 21,f 22,f 23,f 24,f 25,f 26,f 27,f 28,f 29,f 30,f 31,f 32,f 33,f 34,f 35,.tuple #[.int .i64 0,.int .i64 3,.int .i64 0],f 37,.tuple #[.int .i64 0,.int .i64 3,.int .i64 0],.int .i64 0,.int .i64 3,.int .i64 0,f 42,f 43,f 44,f 45,f 46,f 47,f 48,f 49,f 50,f 51,f 52,f 53,f 54,f 55,f 56,f 57,f 58,f 59,f 60,f 61,f 62,f 63,f 64,f 65,f 66,f 67,f 68,f 69,f 70,f 71,f 72,f 73,f 74,f 75,f 76,f 77,f 78,f 79,f 80,f 81,f 82,f 83,f 84,f 85,f 86,f 87,f 88,f 89,f 90,f 91,f 92,f 93,f 94,f 95,f 96,f 97,f 98,f 99,f 100,f 101,f 102],[]⟩ w;refine au (aA ?_);go_wp2_with (first|fail|(go_at_call 42;refine aH hS ⟨_,y9 _ _ _ _ _,?_⟩;clear hS;intro w' hS)|((with_reducible refine uP ?_);refine zU hS rfl (oP (a:=⟨1,0,20,1⟩) rfl rfl) ?_;clear hS;intro bm a' hp;(try simp only[fr]at hp);subst hp;intro w' hS;obtain⟨V2,hV2,hc2,hS2⟩:=pin hS;clear hS;have hS:=hS2;clear hS2)|(go_at_call 75;refine Ba hS (hB.mono hV2) hc2 ?_;clear hS;intro V3 vv3 rv3 w' hV3 hk3 hS)|(go_at_call 51;refine JC hS ((hB.mono hV2).mono hV3) hk3 NZ ?_;clear hS;intro w' hS))
 have hB3:Bs V3:=(hB.mono hV2).mono hV3;have h1':VI V3 v1 [29,15,11,15]:=pW.mono (pW.mono h1 hV2) hV3;have h7':VI V3 v7 [1]:=pW.mono (pW.mono h7 hV2) hV3;have hr3:V3.Range b3 0 [.int .i64 15,.int .i64 17]:=fun j v hj=>by rw[Nat.zero_add];exact((h3 j v hj).mono hV2).mono hV3
 have hr5:V3.Range b5 0 [.int .i64 1,.int .i64 5]:=fun j v hj=>by rw[Nat.zero_add];exact((h5 j v hj).mono hV2).mono hV3
 clear h1 h7 h3 h5 hc2;refine au (aA ?_);go_wp2_with (first|(refine yy ?_;clear hS;intro w' hS)|((with_reducible refine aaX ?_);refine Gx rfl (akZ rfl rfl rfl) ?_;refine zF ?_)|((with_reducible refine aaX ?_);refine Gx rfl (Sm rfl rfl rfl) ?_;refine zF ?_)|(refine yg ?_;clear hS;intro _ w' hS;obtain⟨V4,hV4,hc4,hS4⟩:=pin hS;clear hS;have hS:=hS4;clear hS4)|(go_at_call 31;refine zu hS (pW.mono h1' hV4) (YD (l:=[29,15,11,15]) (by decide) hc4) (by decide) (by decide) rfl ?_;clear hS;clear h1';intro w' hS;replace h7':=pW.mono h7' hV4;clear hc4 hV4)|(go_at_call 31;refine zu hS (pW.mono h7' hV4) (YD (l:=[1]) (by decide) hc4) (by decide) (by decide) rfl ?_;clear hS;intro w' hS))
 exact bG (tgt:=[.code .ret]) ⟨rfl,rfl,hS.bM⟩
theorem Oh {Q:Goroutine->World->Prop} {N:FuncId} {l:List Nat} {i:Nat} (hc:kL Tryd.prog N args w R) (hh:ay OC w) (hbk:b.kind=.normal)
 (ho:ops[i]? = some o) (hw:Region.wanted o (yielded ops a.tmps)=true) (hok':qj true o.op=true) (hr:∀ w,(execOp a.eval o).run Tryd.prog w=.ok (.enter N args) w) (hpan:∀ ch w,¬ R (.panicked ch) w)
  (hk:∀ v w',R (.returned v) w'->ay OC w'->kU Tryd.prog (G (b.at (a.put o.dst v) (.inRegion ops l::k0)) cs) w' Q):kU Tryd.prog (G (b.at a (.inRegion ops (i::l)::k0)) cs) w Q:=by
 refine Ou lT ho hw (by rw[hbk];decide) hok' hh (fun _ _ _=>trivial) fun d=>?_
 rw[hr];intro hhd;have hat:∀ {Q:Goroutine->World->Prop} {g:Goroutine},kU Tryd.prog g w Q->kU Tryd.prog g (w.at d) Q:=fun h=>h.at
 exact hat (xI ho hc (fun v w1 hv hh1=>hk v w1 hv hh1) fun ch w1 hv _=>(hpan ch w1 hv).elim)
theorem Vo {fn:Func} (hb:b.fn=f) (hbk:b.kind=.normal) (hd:a.defers=[]) (hf:P.funcs[f]? = some fn) (hw:ay OC w) (hr:(results fn a.tmps).run P w=.ok v w) (hR:R (.returned v) w) (hins:Ins R) :
  kU P (G (b.at a (.code .ret::k0)) cs) w (fun a' w'=>∃ e fr,a'=G fr cs/\R e w'/\fr.fn=f/\fr.leaving P w' e/\e≠.outgrown/\ay OC w') :=
 CV (Hz hb hbk hd hf hw hr hR hins)
theorem TB (hB:Bs V) (hV:V.In w) (hh:ay OC w):kL Tryd.prog 21 #[] w fun r w'=>r=.returned (.bool true)/\Kp w w':=by
 refine jD Tryd.func21 (show Tryd.f21.body=some B21 from rfl) fun cs b hbf hbk hbr=>?_
 have e103:Tryd.f21.ntmps-(#[]:Array Value).size=103:=by kernel_rfl
 rw[e103];obtain⟨tm0,htm⟩:∃ tm0,(#[]:Array Value) ++ Array.replicate 103 undef=tm0:=⟨_,rfl⟩;rw[htm];refine vI (tgt:=[.inRegion Gv [1,2,3,4,5,6,7],.code Yz]) hbf hbk (show[Item.code B21].all qy=true by kernel_rfl) (fun d hd=>nomatch hd) hh (S:=Wd1 w V)
  (fun a w' τ d ⟨V',vv,rv,v1,b3,h1,h2,h3,h4,h5,h6,h7⟩=>⟨V',vv,rv,v1,b3,h1,h2,h3,h4,h5,h6,h7.re1 τ d⟩) (fun τ d=>?_) ?_
 ·rw[<- htm];refine(U2 (w:=w.re τ d) hB hV).mono ?_;rintro a w' ⟨V',vv,rv,v1,b3,h1,h2,h3,h4,h5,h6,h7⟩;exact⟨V',vv,rv,v1,b3,h1,h2,h3,h4,h5,h6,h7.re0⟩
 rintro a w1 ⟨V1,vv,rv,v1,b3,⟨f,rfl⟩,hV1,hk1,hv1,ho1,hc3,hS1⟩ hh1;have hB1:=hB.mono hV1;have hL:=ZB vv rv (nJ []) hk1 hB1.gv hS1.view hh1;rw[Vg]at hL;refine Oh (i:=1) (o:=Gv[1]!) hL hh1 hbk rfl rfl rfl (fun w=>?_) (fun ch w h=>nomatch h.1) ?_
 ·rw[run_call_body rfl Tryd.func40 zk rfl];simp only[List.map_toArray,List.map_cons,List.map_nil];rfl
 rintro v w2 ⟨hv,hk2⟩ hh2;cases hv;have hS2:=hS1.kp hk2;obtain⟨a2,ha2⟩:∃ a2:Act,a2=⟨#[.bool false,v1,.int .i64 0,.pointer (some ⟨b3,0,none⟩),.int .i64 0,f 5,f 6,f 7,f 8,f 9,f 10,f 11,f 12,f 13,f 14,f 15,f 16,f 17,f 18,f 19,f 20,f 21,f 22,f 23,f 24,.agg #[vv,rv],.tuple #[.agg #[.int .i64 1,.int .i64 5],.int .i64 0],f 27,f 28,f 29,f 30,f 31,f 32,f 33,f 34,f 35,f 36,f 37,f 38,f 39,f 40,f 41,f 42,f 43,f 44,f 45,f 46,f 47,f 48,f 49,f 50,f 51,f 52,f 53,f 54,f 55,f 56,f 57,f 58,f 59,f 60,f 61,f 62,f 63,f 64,f 65,f 66,f 67,f 68,f 69,f 70,f 71,f 72,f 73,f 74,f 75,f 76,f 77,f 78,f 79,f 80,f 81,f 82,f 83,f 84,f 85,f 86,f 87,f 88,f 89,f 90,f 91,f 92,f 93,f 94,f 95,f 96,f 97,f 98,f 99,f 100,f 101,f 102],[]⟩:=⟨_,rfl⟩;have eA:(Act.put ⟨#[.bool false,v1,.int .i64 0,.pointer (some ⟨b3,0,none⟩),.int .i64 0,f 5,f 6,f 7,f 8,f 9,f 10,f 11,f 12,f 13,f 14,f 15,f 16,f 17,f 18,f 19,f 20,f 21,f 22,f 23,f 24,.agg #[vv,rv],f 26,f 27,f 28,f 29,f 30,f 31,f 32,f 33,f 34,f 35,f 36,f 37,f 38,f 39,f 40,f 41,f 42,f 43,f 44,f 45,f 46,f 47,f 48,f 49,f 50,f 51,f 52,f 53,f 54,f 55,f 56,f 57,f 58,f 59,f 60,f 61,f 62,f 63,f 64,f 65,f 66,f 67,f 68,f 69,f 70,f 71,f 72,f 73,f 74,f 75,f 76,f 77,f 78,f 79,f 80,f 81,f 82,f 83,f 84,f 85,f 86,f 87,f 88,f 89,f 90,f 91,f 92,f 93,f 94,f 95,f 96,f 97,f 98,f 99,f 100,f 101,f 102],[]⟩ (some 26) (.tuple #[aJ (1,5),.int .i64 0]))=a2:=by rw[ha2];rfl
 show kU Tryd.prog (G (b.at (Act.put ⟨#[.bool false,v1,.int .i64 0,.pointer (some ⟨b3,0,none⟩),.int .i64 0,f 5,f 6,f 7,f 8,f 9,f 10,f 11,f 12,f 13,f 14,f 15,f 16,f 17,f 18,f 19,f 20,f 21,f 22,f 23,f 24,.agg #[vv,rv],f 26,f 27,f 28,f 29,f 30,f 31,f 32,f 33,f 34,f 35,f 36,f 37,f 38,f 39,f 40,f 41,f 42,f 43,f 44,f 45,f 46,f 47,f 48,f 49,f 50,f 51,f 52,f 53,f 54,f 55,f 56,f 57,f 58,f 59,f 60,f 61,f 62,f 63,f 64,f 65,f 66,f 67,f 68,f 69,f 70,f 71,f 72,f 73,f 74,f 75,f 76,f 77,f 78,f 79,f 80,f 81,f 82,f 83,f 84,f 85,f 86,f 87,f 88,f 89,f 90,f 91,f 92,f 93,f 94,f 95,f 96,f 97,f 98,f 99,f 100,f 101,f 102],[]⟩ (some 26) (.tuple #[aJ (1,5),.int .i64 0])) (.inRegion Gv [2,3,4,5,6,7]::[.code Yz])) cs) w2 _;rw[eA,ha2];refine vI (tgt:=[.inRegion qm [1,2,3,4,5,6,7,8],.code Zq]) hbf hbk zk (fun d hd=>nomatch hd) hh2 (S:=Wd2 w2 V1 v1 b3)
  (fun a w' τ d ⟨V',vv,rv,v1,b3,h1,h2,h3,h4,h5,h6,h7⟩=>⟨V',vv,rv,v1,b3,h1,h2,h3,h4,h5,h6,h7.re1 τ d⟩) (fun τ d=>?_) ?_
 ·refine(Vp (w:=w2.re τ d) hB1 hS2.view v1 b3 (fun j=>if j=25 then .agg #[vv,rv] else f j)).mono ?_;rintro a w' ⟨V',vv,rv,v1,b3,h1,h2,h3,h4,h5,h6,h7⟩;exact⟨V',vv,rv,v1,b3,h1,h2,h3,h4,h5,h6,h7.re0⟩
 clear eA ha2;rintro a w3 ⟨V3,vv3,rv3,v7,b5,⟨f3,rfl⟩,hV3,hk3,hv7,ho7,hc5,hS3⟩ hh3;have hB3:=hB1.mono hV3;have hN:=Zn vv3 rv3 (nJ []) hk3 hB3.gv hS3.view hh3 0;rw[Xa]at hN;refine Oh (i:=1) (o:=qm[1]!) hN hh3 hbk rfl rfl rfl (fun w=>?_) (fun ch w h=>nomatch h.1) ?_
 ·rw[run_call_body rfl Tryd.func43 zk rfl];simp only[List.map_toArray,List.map_cons,List.map_nil];rfl
 rintro v w4 ⟨hv,hk4⟩ hh4;cases hv;have hS4:=hS3.kp hk4;have hkp:=((hS1.bM.trans hk2).trans hS3.bM).trans hk4;obtain⟨a4,ha4⟩:∃ a4:Act,a4=⟨#[.bool false,v1,.int .i64 0,.pointer (some ⟨b3,0,none⟩),.int .i64 0,.pointer (some ⟨b5,0,none⟩),.int .i64 0,v7,.int .i64 0,f3 9,f3 10,f3 11,f3 12,f3 13,f3 14,f3 15,f3 16,f3 17,f3 18,f3 19,f3 20,f3 21,f3 22,f3 23,f3 24,f3 25,f3 26,f3 27,f3 28,f3 29,f3 30,f3 31,f3 32,f3 33,f3 34,f3 35,f3 36,.agg #[vv3,rv3],.tuple #[.int .i64 0,.int .i64 3,.int .i64 0],f3 39,f3 40,f3 41,f3 42,f3 43,f3 44,f3 45,f3 46,f3 47,f3 48,f3 49,f3 50,f3 51,f3 52,f3 53,f3 54,f3 55,f3 56,f3 57,f3 58,f3 59,f3 60,f3 61,f3 62,f3 63,f3 64,f3 65,f3 66,f3 67,f3 68,f3 69,f3 70,f3 71,f3 72,f3 73,f3 74,f3 75,f3 76,f3 77,f3 78,f3 79,f3 80,f3 81,f3 82,f3 83,f3 84,f3 85,f3 86,f3 87,f3 88,f3 89,f3 90,f3 91,f3 92,f3 93,f3 94,f3 95,f3 96,f3 97,f3 98,f3 99,f3 100,f3 101,f3 102],[]⟩:=⟨_,rfl⟩;have eA:(Act.put ⟨#[.bool false,v1,.int .i64 0,.pointer (some ⟨b3,0,none⟩),.int .i64 0,.pointer (some ⟨b5,0,none⟩),.int .i64 0,v7,.int .i64 0,f3 9,f3 10,f3 11,f3 12,f3 13,f3 14,f3 15,f3 16,f3 17,f3 18,f3 19,f3 20,f3 21,f3 22,f3 23,f3 24,f3 25,f3 26,f3 27,f3 28,f3 29,f3 30,f3 31,f3 32,f3 33,f3 34,f3 35,f3 36,.agg #[vv3,rv3],f3 38,f3 39,f3 40,f3 41,f3 42,f3 43,f3 44,f3 45,f3 46,f3 47,f3 48,f3 49,f3 50,f3 51,f3 52,f3 53,f3 54,f3 55,f3 56,f3 57,f3 58,f3 59,f3 60,f3 61,f3 62,f3 63,f3 64,f3 65,f3 66,f3 67,f3 68,f3 69,f3 70,f3 71,f3 72,f3 73,f3 74,f3 75,f3 76,f3 77,f3 78,f3 79,f3 80,f3 81,f3 82,f3 83,f3 84,f3 85,f3 86,f3 87,f3 88,f3 89,f3 90,f3 91,f3 92,f3 93,f3 94,f3 95,f3 96,f3 97,f3 98,f3 99,f3 100,f3 101,f3 102],[]⟩ (some 38) (.tuple #[.int .i64 0,.int .i64 3,.int .i64 0]))=a4:=by rw[ha4];rfl
 show kU Tryd.prog (G (b.at (Act.put ⟨#[.bool false,v1,.int .i64 0,.pointer (some ⟨b3,0,none⟩),.int .i64 0,.pointer (some ⟨b5,0,none⟩),.int .i64 0,v7,.int .i64 0,f3 9,f3 10,f3 11,f3 12,f3 13,f3 14,f3 15,f3 16,f3 17,f3 18,f3 19,f3 20,f3 21,f3 22,f3 23,f3 24,f3 25,f3 26,f3 27,f3 28,f3 29,f3 30,f3 31,f3 32,f3 33,f3 34,f3 35,f3 36,.agg #[vv3,rv3],f3 38,f3 39,f3 40,f3 41,f3 42,f3 43,f3 44,f3 45,f3 46,f3 47,f3 48,f3 49,f3 50,f3 51,f3 52,f3 53,f3 54,f3 55,f3 56,f3 57,f3 58,f3 59,f3 60,f3 61,f3 62,f3 63,f3 64,f3 65,f3 66,f3 67,f3 68,f3 69,f3 70,f3 71,f3 72,f3 73,f3 74,f3 75,f3 76,f3 77,f3 78,f3 79,f3 80,f3 81,f3 82,f3 83,f3 84,f3 85,f3 86,f3 87,f3 88,f3 89,f3 90,f3 91,f3 92,f3 93,f3 94,f3 95,f3 96,f3 97,f3 98,f3 99,f3 100,f3 101,f3 102],[]⟩ (some 38) (.tuple #[.int .i64 0,.int .i64 3,.int .i64 0])) (.inRegion qm [2,3,4,5,6,7,8]::[.code Zq])) cs) w4 _;rw[eA,ha4];refine vI (tgt:=[.code .ret]) hbf hbk zk (fun d hd=>nomatch hd) hh4 (S:=fun a w'=>a.tmps[0]? = some (.bool true)/\a.defers=[]/\Kp w4 w')
  (fun a w' τ d h=>⟨h.1,h.2.1,adC h.2.2 τ d⟩) (fun τ d=>?_) ?_
 ·refine(UN (w:=w4.re τ d) hB3 hS4.view v1 v7 b3 b5 ho1 ho7 (pW.mono hv1 hV3) hv7 (fun i v h=>(hc3 i v h).mono hV3) hc5 (fun j=>if j=37 then .agg #[vv3,rv3] else f3 j)).mono ?_;rintro a w' ⟨h1,h2,h3⟩;exact⟨h1,h2,uq h3⟩
 rintro a w5 ⟨h0,hd,hk5⟩ hh5;have g:a.tmps.getD 0 undef=.bool true:=by
  rw[Array.getD_eq_getD_getElem?,h0];rfl
 refine Vo (v:=.bool true) hbf hbk hd Tryd.func21 hh5 ?_ ⟨rfl,hkp.trans hk5⟩ xM;have h:=results_tmp (fn:=Tryd.f21) (t:=0) zk a.tmps Tryd.prog w5;rw[g]at h;exact h
theorem oZ {l:List Oper} {md:Region.Mode} {S:World->Prop} {fuel:Nat} {listed:Array Bool} (i:Nat) (hr:Region.ready md l.toArray listed=[i]) (hi₀:l[i]? = some o) (hw:Region.wanted o (yielded l.toArray a.tmps)=true)
 (h:∃ f args,(execOp a.eval o).run P w=.ok (.enter f args) w/\Calls P f args w fun e w'=>∃ v,e=.returned v/\∀ a' l',a.put o.dst v=a'->listed.setIfInBounds i true=l'->S w'/\wpAnyH P md l.toArray Q S fuel l' a' w'):wpAnyH P md l.toArray Q S (fuel+1) listed a w:=by
 obtain⟨f,args,hr',hc⟩:=h;exact mG hr (yB (R:=fun v w'=>∀ a' l',a.put o.dst v=a'->listed.setIfInBounds i true=l'->S w'/\wpAnyH P md l.toArray Q S fuel l' a' w') (jV hi₀) hw hr' hc fun v w' h=>h _ _ rfl rfl)
theorem adD {w0:World} {X:List Nat} {L:List dF} (hS:St w0 X V L w) (hc:Calls Tryd.prog f args w fun r w'=>∃ u,r=.returned u/\Kp w w'/\tY w w' u l)
 (h:∀ (V':View) (v:Value) (w':World),(∀ j o,V j=some o->V' j=some o)->VI V' v l->v.oneCell'=true->St w0 X V' L w'->R (.returned v) w'):Calls Tryd.prog f args w R :=
 hc.mono fun r w' ⟨v,he,hk,ho⟩=>by
  obtain⟨V',hV',hS',hv⟩:=Um hS hk ho;subst he;obtain⟨a,cap,hi,_⟩:=hv.is;exact h V' v w' hV' ⟨⟨a,cap,hi,‹_›⟩⟩ (by rw[hi];rfl) hS'
theorem wO {n sz:Nat} {get:Nat->List Value} (h:pW V v n sz get):v.oneCell'=true:=by
 obtain⟨a,cap,rfl,_⟩:=h.is;rfl
theorem abD {w0:World} {X:List Nat} {L:List dF} {t:Bool} (hS:St w0 X V L w) (hB:Bs V) (hk:iJ V vv rv k) (hv:abV k=(t,e))
 (h:∀ w',St w0 X V L w'->R (.returned (.tuple #[.bool t,.int .i64 e])) w'):Calls Tryd.prog 25 #[.agg #[vv,rv]] w R:=by
 have hc:=adf vv rv k hk hB.gv hS.view;rw[hv]at hc;exact aH hS ⟨_,hc,h⟩
theorem IU {V V':View} (h:VI V v l) (hV:∀ j o,V j=some o->V' j=some o):VI V' v l:=pW.mono h hV
end Go.Proofs.YtjjmefieegcddaaDoor
namespace Go.Mm
open Go
variable {P:Program} {w0:World} {X:List Nat} {V:View} {L:List dF} {w:World}
variable {l:List Oper} {md:Region.Mode} {o:Oper} {a:Act} {Q:Exit->Act->World->Prop} {S:World->Prop} {fuel:Nat} {listed:Array Bool}
theorem gHd {l:Array Oper} (h:wpAnyH P md l Q S fuel listed a w):wpAnyH P md l Q S fuel listed a w:=h
theorem gWo {l:Array Oper} {i:Nat} {K:Act->World->Prop} (h:wpOp P l Q i K a w):wpOp P l Q i K a w:=h
end Go.Mm
namespace Go.Mm
open Go Go.Wg Go.Proofs.YtjjmefieegcddaaDoor
variable {w w' w0:World} {X:List Nat} {V:View} {L:List dF}
structure afV (w:World) (V V':View):Prop where
 up:∀ j o,V j=some o->V' j=some o
 new:∀ j o,V' j=some o->V j=some o\/w.heap.size<=j
theorem afV.rfl {w:World} {V:View}:afV w V V:=⟨fun _ _ h=>h,fun _ _ h=>.inl h⟩
theorem afV.trans {V1 V2 V3:View} (h:afV w V1 V2) (h':afV w V2 V3):afV w V1 V3:=⟨fun j o hj=>h'.up j o (h.up j o hj),fun j o hj=>(h'.new j o hj).elim (fun h1=>h.new j o h1) .inr⟩
theorem St.ahu (h:St w0 X V L w) {Lc:List dF} {Vc:View} (hc:St w [] Vc Lc w') (hV:afV w V Vc):St w0 X Vc (Lc ++ L) w':=by
 have h1:=h.Nq hc;refine⟨h1.os,h1.output,h1.size,h1.old,hc.view,h1.has,h1.new,fun e he b hb=>?_,h1.nd⟩;rcases List.mem_append.1 he with he|he
 ·exact hc.off e he b hb
 ·cases hb':Vc b with
  |none=>rfl
  |some o =>
   have:=h.lt he hb;rcases hV.new b o hb' with h2|h2
   ·rw[h.off e he b hb]at h2;cases h2
   ·omega
theorem af9 {t:TypeId} {us:List Value} {v:Value} (h:St w0 [] V (.row v t 1 us.length us::L) w):∃ V',afV w0 V V'/\St w0 [] V' L w/\Go.Wg.pW V' v us.length 1 fun j=>[us.getD j undef]:=by
 rcases rO h with⟨rfl,h0⟩|⟨g,cap,pad,rfl,c1,c2,c3,c4,c5,h1⟩
 ·exact⟨V,.rfl,h.drop,⟨⟨none,0,by rw[h0],by omega,by decide,fun hn=>by omega⟩⟩⟩
 ·have hgV:=h1.off _ (List.mem_cons_self ..) g rfl;have hgn:w0.heap.size<=g:=by
   rcases h1.new _ (List.mem_cons_self ..) _ rfl with h2|h2
   ·exact h2
   ·cases h2
  refine⟨_,⟨oG hgV,fun j o hj=>?_⟩,h1.freeze,⟨⟨_,cap,rfl,c1,c2,fun _=>⟨g,0,rfl,fun i hi j u hj=>?_⟩⟩⟩⟩
  ·by_cases e:j=g
   ·subst e;exact .inr hgn
   ·rw[if_neg e]at hj;exact .inl hj
  ·obtain rfl:j=0:=by
    cases j with
    |zero=>rfl
    |succ j=>simp at hj
   simp only[List.getElem?_cons_zero,Option.some.injEq]at hj;subst hj;refine⟨_,_,_,if_pos rfl,?_⟩;rw[List.getElem?_toArray,Nat.mul_one,Nat.zero_add,Nat.add_zero,List.getElem?_append_left hi,List.getD_eq_getElem?_getD,List.getElem?_eq_getElem hi];rfl
end Go.Mm
namespace Go.Proofs.YtjjmefieegcddaaDoor
open Go.RowKit Go.Wg Go.Mm
variable {w0:World} {L:List dF} {l:List Int} {v:Value} {ls:List (List Int)} {o:Oper}
variable {w:World} {V:View}
theorem ag3 (h:St w0 [] V (.row v 3 1 l.length (aV l)::L) w):∃ V',afV w0 V V'/\St w0 [] V' L w/\VI V' v l:=by
 have h2:St w0 [] V (.row v 3 1 (aV l).length (aV l)::L) w:=by rw[iD];exact h
 obtain⟨V',h3,h4,a,cap,h5,h6,h7,h8⟩:=af9 h2;rw[iD]at h5 h6 h8;refine⟨V',h3,h4,⟨a,cap,h5,h6,h7,fun hn=>?_⟩⟩;obtain⟨g,off,h9,h10⟩:=h8 hn;refine⟨g,off,h9,fun i hi=>?_⟩;have:=h10 i hi;have e:(aV l).getD i undef=.int .i64 (l.getD i 0):=by
  rw[List.getD_eq_getElem?_getD,nI rfl hi];rfl
 rw[e]at this;exact this
structure VLL (V:View) (v:Value) (ls:List (List Int)):Prop where
 is:∃ us:List Value,us.length=ls.length/\pW V v ls.length 1 (fun j=>[us.getD j undef])/\∀ j,j<ls.length->VI V (us.getD j undef) (ls.getD j [])
theorem VLL.mono {V V':View} (h:VLL V v ls) (hV:∀ j o,V j=some o->V' j=some o):VLL V' v ls:=by
 obtain⟨us,h1,h2,h3⟩:=h.is;exact⟨us,h1,pW.mono h2 hV,fun j hj=>IU (h3 j hj) hV⟩
theorem VLL.one (h:VLL V v ls):v.oneCell'=true:=by
 obtain⟨us,h1,h2,h3⟩:=h.is;exact wO h2
theorem ahv {ops:Array Oper} {rest:List Oper} {a:Act} {Q:Exit->Act->World->Prop} (hgd:Region.wanted o (yielded ops a.tmps)=true) {R:Value->World->Prop} (hr:∃ v w',(execOp a.eval o).run Tryd.prog w=.ok (.value v) w'/\R v w')
 (h:∀ v w',R v w'->∀ a',a.put o.dst v=a'->wpList Tryd.prog ops Q rest a' w'):wpList Tryd.prog ops Q (o::rest) a w:=by
 obtain⟨v,w',h1,h2⟩:=hr;exact dU hgd h1 (h v w' h2 _ rfl)
theorem ahe {X:List Nat} (hS:St w0 X V L w) {ρ:Operand->Value} (ho:o.op=.buildSlice 30 0 #[]):∃ v w',(execOp ρ o).run Tryd.prog w=.ok (.value v) w'/\St w0 X V (.row v 3 1 0 (aV [])::L) w':=by
 refine⟨.slice (some ⟨w.heap.size,0,none⟩) 0 0,w.alloc (.cells (aV []).toArray 3),?_,Fv (n:=0) (s:=1) (hS.alloc 3 (aV [])) rfl (by decide)⟩;unfold execOp;simp only[ho];kernel_rfl
theorem agO (l:List Int):∀ u∈aV l,u.oneCell'=true:=fun u hu=>by
 obtain⟨n,_,rfl⟩:=List.mem_map.1 hu;rfl
theorem agx {g off:Nat} (h:∀ i,i<l.length->V.Range g (off+i * 1) [.int .i64 (l.getD i 0)]):V.Range g off (aV l):=fun j v hj=>by
 have hl:j<l.length:=by
  have:=(List.getElem?_eq_some_iff.1 hj).1
  rwa [iD]at this
 rw[nI rfl hl]at hj;have h1:=h j hl 0 v hj
 rwa [Nat.mul_one,Nat.add_zero]at h1
theorem ahj {lv:Value} (hl:VI V lv l) (hn:l.length<=100) (hV:V.In w) :
  Calls Tryd.prog 111 #[lv] w fun e w'=>∃ u,e=.returned u/\St w [] V [.row u 3 1 l.length (aV l)] w':=by
 obtain⟨la,lcap,rfl,hlc,hlm,hle⟩:=hl.is;have hS:=St.start w V hV;have hrng:0<l.length->∃ b off,la=some ⟨b,off,none⟩/\V.Range b off (aV l):=fun h=>by
  obtain⟨g,off,h1,h2⟩:=hle h;exact⟨g,off,h1,agx h2⟩
 have hnl:(aV l).length=l.length * 1:=by rw[iD,Nat.mul_one]
 have hcc:aV l=aV [] ++ aV l:=rfl;clear hl hle;go_enter Tryd.func111,Tryd.ntmps111
 go_wp2_with (first|((with_reducible refine uP ?_);refine ahv rfl (ahe hS rfl) ?_;clear hS;intro v3 w' hS a' hp;(try simp only[fr]at hp);subst hp)|((with_reducible refine Q5 ?_);refine ahv rfl (ql (v:=v3) hS rfl rfl rfl hrng hnl (agO _) zw) ?_;clear hS;intro v5 w' hS a' hp;(try simp only[fr]at hp);subst hp;(try simp only[sE]at hS);have hv5:=dY hS v5))
 (refine yj ?_;refine bK ⟨_,by exact bH (r1:=.tmp 2) zk (by exact bD rfl),?_⟩ rfl)
 refine⟨_,rfl,?_⟩;rw[Nat.zero_add,<- hcc]at hS;exact hS.aG
end Go.Proofs.YtjjmefieegcddaaDoor
namespace Go.Proofs.YtjjmefieegcddaaDoor
open Go.RowKit Go.Wg Go.Mm
variable {us:List Value} {ls:List (List Int)} {l:List Int} {v:Value} {w0:World} {L:List dF}
variable {w:World} {V:View}
theorem one_one {a:Value} (h:a.oneCell'=true):∀ v∈[a],v.oneCell'=true:=fun v hv=>by rw[List.mem_singleton]at hv;rw[hv];exact h
structure afM (V:View) (us:List Value) (ls:List (List Int)):Prop where
 len:us.length=ls.length
 at_:∀ j,j<ls.length->VI V (us.getD j undef) (ls.getD j [])
theorem afM.mono {V V':View} (h:afM V us ls) (hV:∀ j o,V j=some o->V' j=some o):afM V' us ls:=⟨h.len,fun j hj=>IU (h.at_ j hj) hV⟩
theorem afM.nil (V:View):afM V [] []:=⟨rfl,fun j hj=>absurd hj (by simp)⟩
theorem afM.add (h:afM V us ls) {u:Value} (hu:VI V u l):afM V (us ++ [u]) (ls ++ [l]):=by
 refine⟨by simp[h.len],fun j hj=>?_⟩;have hj':j<ls.length+1:=by simpa using hj
 by_cases e:j<ls.length
 ·have:=h.at_ j e
  rwa [List.getD_eq_getElem?_getD,List.getElem?_append_left (by rw[h.len];exact e),List.getD_eq_getElem?_getD,List.getElem?_append_left e,<- List.getD_eq_getElem?_getD,<- List.getD_eq_getElem?_getD]
 ·obtain rfl:j=ls.length:=by omega
  rw[List.getD_eq_getElem?_getD,List.getElem?_append_right (by rw[h.len];exact Nat.le_refl _),List.getD_eq_getElem?_getD,List.getElem?_append_right (Nat.le_refl _),h.len,Nat.sub_self];exact hu
theorem afM.vll (h:afM V us ls) (hv:pW V v us.length 1 fun j=>[us.getD j undef]):VLL V v ls:=⟨⟨us,h.len,by rw[<- h.len];exact hv,h.at_⟩⟩
theorem agY {y:Int} (h:St w0 [] V (.row v 3 1 (l.length+1) (aV l ++ [.int .i64 y])::L) w):∃ V',afV w0 V V'/\St w0 [] V' L w/\VI V' v (l ++ [y]):=by
 have h2:St w0 [] V (.row v 3 1 (l ++ [y]).length (aV (l ++ [y]))::L) w:=by
  have e1:aV (l ++ [y])=aV l ++ [.int .i64 y]:=by simp[aV]
  rw[e1,List.length_append];exact h
 exact ag3 h2
theorem agK {g:Nat} (h:St w0 [] V (.blk g 30 [.slice none 0 0]::L) w):∃ V',afV w0 V V'/\St w0 [] V' L w/\VLL V' (.slice (some ⟨g,0,none⟩) 1 1) [[]]:=by
 obtain⟨V',h1,h2,h3⟩:=af9 (us:=[.slice none 0 0]) (Fv (n:=1) (s:=1) h rfl (by decide));exact⟨V',h1,h2,⟨⟨[.slice none 0 0],rfl,h3,fun j hj=>by
  obtain rfl:j=0:=by simp at hj;omega
  exact⟨⟨none,0,rfl,Nat.le_refl _,by decide,fun hn=>absurd hn (by decide)⟩⟩⟩⟩⟩
end Go.Proofs.YtjjmefieegcddaaDoor
namespace Go.Wg
open Go Go.Mm Go.Proofs.YtjjmefieegcddaaDoor
variable {i j n v x:Nat} {g:Gr} {P Q:Nat->Int->Prop} {y:Int} {k:Wk} {r r':Int × Int} {w w' w0:Nat->Nat} {s:SS} {S S':Int->Prop} {l:List Int}
structure Holds (g:Gr) (P:Nat->Int->Prop):Prop where
 wf:g.WF
 has:∀ n,g.has.testBit n=true↔∃ y,P n y
 lo:∀ n,g.has.testBit n=true->P n (g.get n).1
 hi:∀ n,g.has.testBit n=true->P n (g.get n).2
 all:∀ n y,P n y->(g.get n).1<=y/\y<=(g.get n).2
theorem acM (h1:x<2199023255552) (h:x.testBit n=true):n<=40:=by
 rcases Nat.lt_or_ge n 41 with h2|h2
 ·omega
 ·have:x.testBit n=false:=Nat.testBit_lt_two_pow (Nat.lt_of_lt_of_le h1 (by
   rw[show(2199023255552:Nat)=2 ^ 41 by decide];exact Nat.pow_le_pow_right (by decide) h2))
  rw[this]at h;cases h
theorem Holds.small (h:Holds g P) (hp:P n y):n<=40:=acM h.wf.small ((h.has n).2 ⟨y,hp⟩)
theorem Holds.congr (h:Holds g P) (e:∀ n y,P n y↔Q n y):Holds g Q:=by
 have:P=Q:=funext fun n=>funext fun y=>propext (e n y)
 rwa [<- this]
theorem aaM:Holds Gr.empty fun _ _=>False :=
 ⟨Gr.uQ,fun n=>⟨fun h=>by simp[Gr.empty]at h,fun⟨_,h⟩=>h.elim⟩,fun n h=>by simp[Gr.empty]at h,fun n h=>by simp[Gr.empty]at h,fun n y h=>h.elim⟩
theorem abS (g:Gr) (n:Nat) (v:Int × Int) (m:Nat):(g.add n v).has.testBit m=(g.has.testBit m || decide (n=m)):=by
 show(g.has ||| 2 ^ n).testBit m=_;rw[Nat.testBit_or,Nat.testBit_two_pow]
theorem add_get (g:Gr) (hg:g.WF) (hn:n<41) (v:Int × Int) (m:Nat):(g.add n v).get m=if n=m then(if g.has.testBit n then sO (g.get n) v else v) else g.get m:=by
 have hl:=hg.len;show(g.at_.set n _).getD m (0,0)=_;rw[fC _ _ _ _ _ (by omega)];rfl
theorem Holds.add (h:Holds g P) (hn:n<41) {Q:Int->Prop} {v:Int × Int} (h1:Q v.1) (h2:Q v.2) (ha:∀ y,Q y->v.1<=y/\y<=v.2):Holds (g.add n v) fun m y=>P m y\/(m=n/\Q y):=by
 have hv:=ha _ h1;refine⟨h.wf.add hn v,fun m=>?_,fun m hm=>?_,fun m hm=>?_,fun m y hy=>?_⟩
 ·rw [abS,Bool.or_eq_true,decide_eq_true_eq,h.has];constructor
  ·rintro (⟨y,hy⟩ | rfl)
   ·exact⟨y,.inl hy⟩
   ·exact⟨_,.inr ⟨rfl,h1⟩⟩
  ·rintro ⟨y,hy | ⟨rfl,_⟩⟩
   ·exact .inl ⟨y,hy⟩
   ·exact .inr rfl
 ·rw [abS,Bool.or_eq_true,decide_eq_true_eq] at hm;rw [add_get g h.wf hn];by_cases e:n=m
  ·subst e;rw [if_pos rfl];split
   ·rename_i hb;show P n (min (g.get n).1 v.1)\/(n=n/\Q (min (g.get n).1 v.1));rcases Int.le_total (g.get n).1 v.1 with h3 | h3
    ·rw[Int.min_eq_left h3];exact .inl (h.lo n hb)
    ·rw[Int.min_eq_right h3];exact .inr ⟨rfl,h1⟩
   ·exact .inr ⟨rfl,h1⟩
  ·rw[if_neg e];exact .inl (h.lo m (hm.resolve_right e))
 ·rw [abS,Bool.or_eq_true,decide_eq_true_eq] at hm;rw [add_get g h.wf hn];by_cases e:n=m
  ·subst e;rw [if_pos rfl];split
   ·rename_i hb;show P n (max (g.get n).2 v.2)\/(n=n/\Q (max (g.get n).2 v.2));rcases Int.le_total (g.get n).2 v.2 with h3 | h3
    ·rw[Int.max_eq_right h3];exact .inr ⟨rfl,h2⟩
    ·rw[Int.max_eq_left h3];exact .inl (h.hi n hb)
   ·exact .inr ⟨rfl,h2⟩
  ·rw[if_neg e];exact .inl (h.hi m (hm.resolve_right e))
 ·rw [add_get g h.wf hn];by_cases e:n=m
  ·subst e;rw [if_pos rfl];split
   ·show min _ _<=y/\y<=max _ _;rcases hy with hy | ⟨_,hy⟩
    ·have:=h.all n y hy;omega
    ·have:=ha y hy;omega
   ·rename_i hb;rcases hy with hy | ⟨_,hy⟩
    ·exact absurd ((h.has n).2 ⟨y,hy⟩) hb
    ·exact ha y hy
  ·rw [if_neg e];rcases hy with hy | ⟨rfl,_⟩
   ·exact h.all m y hy
   ·exact absurd rfl e
theorem acn (s:SS) (st:Bool) (i:Nat) (m:Nat) (hm:m<=41):Holds (lY s st i m) fun n y=>n<m/\(s.aK i).testBit n=true/\y=if st then(n:Int) else 0:=by
 induction m with
 |zero=>exact aaM.congr fun n y=>⟨fun h=>h.elim,fun h=>absurd h.1 (by omega)⟩
 | succ m ih =>
  rw[lY];have h:=ih (by omega);split
  ·rename_i hb;refine (h.add (n:=m) (by omega) (Q:=fun y=>y=if st then (m:Int) else 0) (by cases st <;> rfl) (by cases st <;> rfl) (by rintro y rfl;cases st <;> simp)).congr fun n y=>?_
   constructor
   ·rintro (⟨h1,h2⟩ | ⟨rfl,h2⟩)
    ·exact⟨by omega,h2⟩
    ·exact⟨by omega,hb,h2⟩
   ·rintro ⟨h1,h2,h3⟩;by_cases e:n=m
    ·subst e;exact .inr ⟨rfl,h3⟩
    ·exact .inl ⟨by omega,h2,h3⟩
  ·rename_i hb;refine h.congr fun n y=>⟨fun ⟨h1,h2⟩=>⟨by omega,h2⟩,fun ⟨h1,h2,h3⟩=>⟨?_,h2,h3⟩⟩
   by_cases e:n=m
   ·subst e;exact absurd h2 hb
   ·omega
theorem acQ {a b g:Gr} {P Q R:Nat->Int->Prop} (ha:Holds a P) (hb:Holds b Q) (hg:Holds g R) (x:Nat) (m:Nat) (hm:x+m<=41) :
  Holds (rM a b x g m) fun n y=>R n y\/∃ q y1 y2,q<m/\n=x+q/\P x y1/\Q q y2/\y=y1+y2:=by
 induction m with
 |zero=>exact hg.congr fun n y=>⟨.inl,fun h=>h.elim id fun⟨q,_,_,h,_⟩=>absurd h (by omega)⟩
 | succ m ih =>
  rw[rM];have h:=ih (by omega);split
  ·rename_i hc;rw [Bool.and_eq_true] at hc;refine (h.add (n:=x+m) (by omega) (Q:=fun y=>∃ y1 y2,P x y1/\Q m y2/\y=y1+y2) ⟨_,_,ha.lo x hc.1,hb.lo m hc.2,rfl⟩ ⟨_,_,ha.hi x hc.1,hb.hi m hc.2,rfl⟩ ?_).congr fun n y=>?_
   ·rintro y ⟨y1,y2,h1,h2,rfl⟩;have:=ha.all _ _ h1;have:=hb.all _ _ h2;show(a.get x).1+(b.get m).1<=_/\_<=(a.get x).2+(b.get m).2;omega
   ·constructor
    ·rintro ((h1 | ⟨q,y1,y2,h1,h2⟩) | ⟨rfl,y1,y2,h2⟩)
     ·exact .inl h1
     ·exact .inr ⟨q,y1,y2,by omega,h2⟩
     ·exact .inr ⟨m,y1,y2,by omega,rfl,h2⟩
    ·rintro (h1 | ⟨q,y1,y2,h1,h2,h3⟩)
     ·exact .inl (.inl h1)
     ·by_cases e:q=m
      ·subst e;exact .inr ⟨h2,y1,y2,h3⟩
      ·exact .inl (.inr ⟨q,y1,y2,by omega,h2,h3⟩)
  ·rename_i hc;refine h.congr fun n y=>⟨fun h1=>h1.imp_right fun ⟨q,y1,y2,h1,h2⟩=>⟨q,y1,y2,by omega,h2⟩,fun h1=>h1.imp_right fun ⟨q,y1,y2,h1,h2,h3,h4,h5⟩=>⟨q,y1,y2,?_,h2,h3,h4,h5⟩⟩
   by_cases e:q=m
   ·subst e;exact absurd (by rw[(ha.has x).2 ⟨y1,h3⟩,(hb.has q).2 ⟨y2,h4⟩];rfl) hc
   ·omega
theorem ab2 {a b:Gr} {P Q:Nat->Int->Prop} (ha:Holds a P) (hb:Holds b Q) (x:Nat) (hx:x<=41) :
  Holds (ku a b x) fun n y=>∃ p q y1 y2,p<x/\n=p+q/\n<=40/\P p y1/\Q q y2/\y=y1+y2:=by
 induction x with
 |zero=>exact aaM.congr fun n y=>⟨fun h=>h.elim,fun⟨_,_,_,_,h,_⟩=>absurd h (by omega)⟩
 | succ x ih =>
  rw[ku];refine(acQ ha hb (ih (by omega)) x (41-x) (by omega)).congr fun n y=>?_
  constructor
  ·rintro (⟨p,q,y1,y2,h1,h2⟩ | ⟨q,y1,y2,h1,h2,h3⟩)
   ·exact⟨p,q,y1,y2,by omega,h2⟩
   ·exact⟨x,q,y1,y2,by omega,h2,by omega,h3⟩
  ·rintro ⟨p,q,y1,y2,h1,h2,h3,h4⟩;by_cases e:p=x
   ·subst e;exact .inr ⟨q,y1,y2,by omega,h2,h4⟩
   ·exact .inl ⟨p,q,y1,y2,by omega,h2,h3,h4⟩
theorem acu {a b:Gr} (ha:Holds a P) (hb:Holds b Q):Holds (pR a b) fun n y=>∃ p q y1 y2,n=p+q/\n<=40/\P p y1/\Q q y2/\y=y1+y2 :=
 (ab2 ha hb 41 (by omega)).congr fun n y=>⟨fun⟨p,q,y1,y2,_,h⟩=>⟨p,q,y1,y2,h⟩,fun⟨p,q,y1,y2,h1,h2,h3⟩=>⟨p,q,y1,y2,by omega,h1,h2,h3⟩⟩
theorem abG {F:Nat->Gr} {Px:Nat->Nat->Int->Prop}:∀ (l:List Nat),l.Nodup->(∀ x∈l,Holds (F x) (Px x))->∀ {g:Gr} {R:Nat->Int->Prop},Holds g R ->
  Holds (l.foldl (fun sm x=>pR sm (F x)) g) fun n y=>n<=40/\∃ n0 y0,∃ (c:Nat->Nat) (z:Nat->Int),R n0 y0/\(∀ x∈l,Px x (c x) (z x))/\n=n0+(l.map c).sum/\y=y0+(l.map z).sum
 | [],_,_,g,R,hg=>hg.congr fun n y=>by
  constructor
  ·exact fun h=>⟨hg.small h,n,y,fun _=>0,fun _=>0,h,(fun x hx=>nomatch hx),by simp,by simp⟩
  ·rintro ⟨_,n0,y0,c,z,h,_,h2,h3⟩;simp at h2 h3;rw[h2,h3];exact h
 | x::l,hd,hF,g,R,hg=>by
  obtain⟨hx,hl⟩:=List.nodup_cons.1 hd;rw[List.foldl_cons];refine(abG l hl (fun y hy=>hF y (List.mem_cons_of_mem _ hy)) (acu hg (hF x (List.mem_cons_self ..)))).congr fun n y=>?_
  constructor
  ·rintro ⟨h40,n0,y0,c,z,⟨p,q,y1,y2,h1,h2,h3,h4,h5⟩,h6,h7,h8⟩;have e:∀ {β:Type} [Inhabited β] (c:Nat->β) (q:β),l.map (fun y=>if y=x then q else c y)=l.map c:=fun c q=>List.map_congr_left fun y hy=>by
    have:y≠x:=fun e=>hx (e ▸ hy)
    simp[this]
   refine⟨h40,p,y1,fun y=>if y=x then q else c y,fun y=>if y=x then y2 else z y,h3,fun y hy=>?_,?_,?_⟩
   ·rcases List.mem_cons.1 hy with rfl | hy
    ·simpa using h4
    ·have:y≠x:=fun e=>hx (e ▸ hy)
     simpa[this]using h6 y hy
   ·rw[List.map_cons,List.sum_cons,e,if_pos rfl];omega
   ·rw[List.map_cons,List.sum_cons,e,if_pos rfl];omega
  ·rintro ⟨h40,n0,y0,c,z,h1,h2,h3,h4⟩;rw[List.map_cons,List.sum_cons]at h3 h4;exact⟨h40,n0+c x,y0+z x,c,z,⟨n0,c x,y0,z x,rfl,by omega,h1,h2 x (List.mem_cons_self ..),rfl⟩,fun y hy=>h2 y (List.mem_cons_of_mem _ hy),by omega,by omega⟩
theorem abJ {sums g:Gr} {P R:Nat->Int->Prop} (hs:Holds sums P) (hg:Holds g R) (lim:Nat) (st:Bool) {lo:Int} (hlo:0<=lo) (x:Nat) (m:Nat) (hm:∀ j:Nat,j<m->x+(lo+j).toNat<41) :
  Holds (iO sums lim st lo x g m) fun n y=>R n y\/∃ (j:Nat) (y1:Int),j<m/\n=x+(lo+j).toNat/\lim.testBit n=true/\P x y1/\y=if st then y1 else y1+(lo+j):=by
 induction m with
 |zero=>exact hg.congr fun n y=>⟨.inl,fun h=>h.elim id fun⟨q,_,h,_⟩=>absurd h (by omega)⟩
 | succ m ih =>
  rw[iO];have h:=ih fun j hj=>hm j (by omega)
  split
  ·rename_i hc;rw [Bool.and_eq_true] at hc;refine (h.add (n:=x+(lo+m).toNat) (hm m (by omega)) (Q:=fun y=>∃ y1,P x y1/\y=if st then y1 else y1+(lo+m)) ⟨(sums.get x).1,hs.lo x hc.1,by cases st <;> rfl⟩ ⟨(sums.get x).2,hs.hi x hc.1,by cases st <;> rfl⟩ ?_).congr fun n y=>?_
   ·rintro y ⟨y1,h1,rfl⟩;have:=hs.all _ _ h1;cases st
    ·show(sums.get x).1+(lo+m)<=y1+(lo+m)/\y1+(lo+m)<=(sums.get x).2+(lo+m);omega
    ·exact this
   ·constructor
    ·rintro ((h1 | ⟨q,y1,h1,h2⟩) | ⟨rfl,y1,h2,h3⟩)
     ·exact .inl h1
     ·exact .inr ⟨q,y1,by omega,h2⟩
     ·exact .inr ⟨m,y1,by omega,rfl,hc.2,h2,h3⟩
    ·rintro (h1 | ⟨q,y1,h1,h2,h3,h4⟩)
     ·exact .inl (.inl h1)
     ·by_cases e:q=m
      ·subst e;exact .inr ⟨h2,y1,h4⟩
      ·exact .inl (.inr ⟨q,y1,by omega,h2,h3,h4⟩)
  ·rename_i hc;refine h.congr fun n y=>⟨fun h1=>h1.imp_right fun ⟨q,y1,h1,h2⟩=>⟨q,y1,by omega,h2⟩,fun h1=>h1.imp_right fun ⟨q,y1,h1,h2,h3,h4,h5⟩=>⟨q,y1,?_,h2,h3,h4,h5⟩⟩
   by_cases e:q=m
   ·subst e;rw[h2]at h3;exact absurd (by rw[(hs.has x).2 ⟨y1,h4⟩,h3];rfl) hc
   ·omega
theorem abW {sums:Gr} {P:Nat->Int->Prop} (hs:Holds sums P) (lim:Nat) (st:Bool) {lo hi:Int} (hlo:0<=lo) (X:Nat) (hX:X<=41) :
  Holds (jY sums lim st lo hi X) fun n y=>∃ (x d:Nat) (y1:Int),x<X/\lo<=d/\(d:Int)<=hi/\n=x+d/\n<=40/\lim.testBit n=true/\P x y1/\y=if st then y1 else y1+d:=by
 induction X with
 |zero=>exact aaM.congr fun n y=>⟨fun h=>h.elim,fun⟨_,_,_,h,_⟩=>absurd h (by omega)⟩
 | succ x ih =>
  rw[jY];have hN:∀ j:Nat,j<qY lo hi x->lo+j<=hi/\x+(lo+j).toNat<41:=fun j hj=>by
   unfold qY at hj;omega
  refine(abJ hs (ih (by omega)) lim st hlo x (qY lo hi x) fun j hj=>(hN j hj).2).congr fun n y=>?_
  constructor
  ·rintro (⟨p,d,y1,h1,h2⟩ | ⟨j,y1,h1,h2,h3,h4,h5⟩)
   ·exact⟨p,d,y1,by omega,h2⟩
   ·have:=hN j h1;refine⟨x,(lo+j).toNat,y1,by omega,by omega,by omega,h2,by omega,h3,h4,?_⟩;rw[h5,show((lo+j).toNat:Int)=lo+j by omega]
  ·rintro ⟨p,d,y1,h1,h2,h3,h4,h5,h6,h7,h8⟩;by_cases e:p=x
   ·subst e;refine .inr ⟨(d-lo).toNat,y1,by unfold qY;omega,by omega,h6,h7,?_⟩;rw[h8,show lo+((d-lo).toNat:Int)=d by omega]
   ·exact .inl ⟨p,d,y1,by omega,h2,h3,h4,h5,h6,h7,h8⟩
theorem aaU {α:Type} (p:α->Bool) (o:α->Int) (l:List α):((l.filter p).map o).sum=(l.map fun j=>if p j then o j else 0).sum:=by
 induction l with
 |nil=>rfl
 |cons a l ih =>
  by_cases h:p a=true
  ·rw[List.filter_cons_of_pos h];simp[ih,h]
  ·rw[List.filter_cons_of_neg h];simp[ih,h]
theorem sum_add {α:Type} (f g:α->Int) (l:List α):(l.map fun j=>f j+g j).sum=(l.map f).sum+(l.map g).sum:=by
 induction l with
 |nil=>rfl
 |cons a l ih=>simp only[List.map_cons,List.sum_cons,ih];omega
theorem abd {α:Type} {f:α->Int} {l:List α} (h:∀ x∈l,f x=0):(l.map f).sum=0:=by
 induction l with
 |nil=>rfl
 |cons a l ih=>rw[List.map_cons,List.sum_cons,h a (by simp),ih fun x hx=>h x (by simp[hx])];rfl
theorem abH {α:Type} {f:α->Int} {l:List α} {x:α} (hl:l.Nodup) (hx:x∈l) (h:∀ y∈l,y≠x->f y=0):(l.map f).sum=f x:=by
 induction l with
 |nil=>cases hx
 |cons a l ih =>
  obtain⟨ha,hl⟩:=List.nodup_cons.1 hl;rw[List.map_cons,List.sum_cons];rcases List.mem_cons.1 hx with rfl|hx
  ·rw[abd fun y hy=>h y (by simp[hy]) fun e=>ha (e ▸ hy)];omega
  ·rw[h a (by simp) fun e=>ha (e ▸ hx),ih hl hx fun y hy=>h y (by simp[hy])];omega
theorem ab8 {α β:Type} (g:α->β->Int) (f:List α) (l:List β):(f.map fun x=>(l.map fun j=>g x j).sum).sum=(l.map fun j=>(f.map fun x=>g x j).sum).sum:=by
 induction f with
 |nil=>simp only[List.map_nil,List.sum_nil];exact(abd fun _ _=>rfl).symm
 |cons a f ih =>
  simp only[List.map_cons,List.sum_cons];rw[ih,sum_add (fun j=>g a j) fun j=>(f.map fun x=>g x j).sum]
theorem acX {α:Type} {f g:α->Int} {l:List α} (h:∀ x∈l,f x<=g x):(l.map f).sum<=(l.map g).sum:=by
 induction l with
 |nil=>exact Int.le_refl _
 |cons a l ih =>
  have:=h a (by simp);have:=ih fun x hx=>h x (by simp[hx])
  simp only[List.map_cons,List.sum_cons];omega
def ahL (k:Wk) (o:Nat->Int) (i:Nat):Int:=(((List.range k.n).filter (inB k i)).map o).sum
theorem ace {o o':Nat->Int} (h:∀ j,j<k.n->inB k i j=true->o j=o' j):ahL k o i=ahL k o' i:=by
 unfold ahL;congr 1;exact List.map_congr_left fun j hj=>by
  obtain⟨h1,h2⟩:=List.mem_filter.1 hj;exact h j (List.mem_range.1 h1) h2
theorem abB (hok:k.Ok) (o:Nat->Int) (hi:i<k.n):ahL k o i=o i+((k.fills i).map (ahL k o)).sum:=by
 have e1:((k.fills i).map (ahL k o)).sum=((List.range k.n).map fun j=>((k.fills i).map fun x=>if inB k x j then o j else 0).sum).sum:=by
  rw[<- ab8];congr 1;exact List.map_congr_left fun x _=>aaU _ _ _
 have e2:o i=((List.range k.n).map fun j=>if j=i then o j else 0).sum:=by
  rw[abH (x:=i) List.nodup_range (List.mem_range.2 hi) fun y _ hy=>if_neg hy,if_pos rfl]
 unfold ahL;rw[aaU];conv=>rhs;rw[e2]
 rw[show((k.fills i).map fun i=>(((List.range k.n).filter (inB k i)).map o).sum).sum=((k.fills i).map (ahL k o)).sum from rfl,e1,<- sum_add];congr 1;refine List.map_congr_left fun j hj=>?_
 have hj':=List.mem_range.1 hj;by_cases e:j=i
 ·subst e;rw [if_pos rfl,if_pos (gq k j),abd fun x hx=>?_]
  ·omega
  ·rw[if_neg];intro h;have h1:=DN hok x j hj' h;have h2:=(rV hok hx).1;omega
 ·rw [if_neg e];by_cases hb:inB k i j=true
  ·rw [if_pos hb];rcases Ie hok i j hj' hb with h | ⟨x,hx,hxb⟩
   ·exact absurd h e
   ·rw [abH (Bg k i) hx fun y hy hyx=>if_neg fun h=>hyx ?_,if_pos hxb]
    ·omega
    ·exact Qz hok (gK.1 hy).1 (gK.1 hx).1 (gK.1 hy).2 (gK.1 hx).2 j hj' h hxb
  ·rw[if_neg hb,abd fun x hx=>if_neg fun h=>hb (Rz hok hx j hj' h)];rfl
theorem aah (hok:k.Ok) {r:Nat}:r∈k.sources↔r<k.n/\(k.v r).from_=-1:=by
 unfold Wk.sources;rw[List.mem_filter,List.mem_range,decide_eq_true_eq];constructor
 ·rintro ⟨h1,h2⟩;have:=(hok.ves r h1).1;exact⟨h1,by omega⟩
 ·rintro ⟨h1,h2⟩;exact⟨h1,by omega⟩
theorem abI (k:Wk):k.sources.Nodup:=List.nodup_range.filter _
theorem acz (hok:k.Ok) (o:Nat->Int):((List.range k.n).map o).sum=(k.sources.map (ahL k o)).sum:=by
 have e1:(k.sources.map (ahL k o)).sum=((List.range k.n).map fun j=>(k.sources.map fun x=>if inB k x j then o j else 0).sum).sum:=by
  rw[<- ab8];congr 1;exact List.map_congr_left fun x _=>aaU _ _ _
 rw[e1];congr 1;refine List.map_congr_left fun j hj=>?_
 have hj':=List.mem_range.1 hj;obtain⟨r,h1,h2,h3⟩:=Yf hok j hj';rw[abH (abI k) ((aah hok).2 ⟨h1,h2⟩) fun y hy hyx=>if_neg fun h=>hyx ?_,if_pos h3];have hy':=(aah hok).1 hy;exact Qz hok hy'.1 h1 hy'.2 h2 j hj' h h3
def ac5 (k:Wk) (w:Nat->Nat) (st:Bool) (j:Nat):Int :=
 if k.fills j=[] then(if st then(w j:Int) else 0) else(if st then 0 else(w j:Int)-(((k.fills j).map w).sum:Nat))
theorem ab1 (st:Bool) (h1:w j=w' j) (h2:∀ x∈k.fills j,w x=w' x):ac5 k w st j=ac5 k w' st j:=by
 unfold ac5;rw[h1,List.map_congr_left h2]
theorem aaZ (hok:k.Ok) (st:Bool) (h:∀ j,j<k.n->inB k i j=true->w j=w' j):ahL k (ac5 k w st) i=ahL k (ac5 k w' st) i :=
 ace fun j hj hb=>ab1 st (h j hj hb) fun x hx=>h x (gK.1 hx).1 (Hf hok hb hx)
theorem ab7 (hok:k.Ok) {f:List Nat} {fr:Int} (hf:∀ x∈f,x<k.n/\(k.v x).from_=fr) {Wp:Nat->(Nat->Nat)->Prop} (hW:∀ x∈f,∃ w:Nat->Nat,Wp x w/\∀ j,j<k.n->inB k x j=true->Fit k s w j) (w0:Nat->Nat) :
  ∃ w:Nat->Nat,(∀ j,(∀ x∈f,inB k x j=false)->w j=w0 j)/\∀ x∈f,∃ wx:Nat->Nat,Wp x wx/\(∀ j,j<k.n->inB k x j=true->w j=wx j/\Fit k s w j):=by
 have hW':∀ x,∃ w:Nat->Nat,x∈f->Wp x w/\∀ j,j<k.n->inB k x j=true->Fit k s w j:=fun x=>by
  by_cases hx:x∈f
  ·obtain⟨w,h⟩:=hW x hx;exact⟨w,fun _=>h⟩
  ·exact⟨fun _=>0,fun h=>absurd h hx⟩
 let W:Nat->Nat->Nat:=fun x=>Classical.choose (hW' x)
 have hWs:∀ x∈f,Wp x (W x)/\∀ j,j<k.n->inB k x j=true->Fit k s (W x) j:=fun x hx=>Classical.choose_spec (hW' x) hx
 have gin:∀ {x j},x∈f->j<k.n->inB k x j=true->glue k f W w0 j=W x j:=fun {x j} hx hj hb=>Qh hx hb fun y hy hb'=>Qz hok (hf y hy).1 (hf x hx).1 (hf y hy).2 (hf x hx).2 j hj hb' hb
 refine⟨glue k f W w0,fun j h=>Ve h,fun x hx=>⟨W x,(hWs x hx).1,fun j hj hb=>⟨gin hx hj hb,?_⟩⟩⟩;exact((hWs x hx).2 j hj hb).congr (gin hx hj hb) fun y hy=>gin hx (gK.1 hy).1 (Hf hok hb hy)
theorem abX {k:Wk} (hok:k.Ok) {s:SS} (hs:s.WF) (hlo:∀ i,0<=(s.aP i).1) (st:Bool):∀ (f i:Nat),i<k.n->k.n-i<=f ->
  Holds (jm k s st f i) fun n y=>∃ w:Nat->Nat,w i=n/\(∀ j,j<k.n->inB k i j=true->Fit k s w j)/\y=ahL k (ac5 k w st) i:=fun f=>by
 induction f with
 |zero=>exact fun i h1 h2=>by omega
 | succ f ih =>
  intro i hi hf;rw[jm];by_cases hn:k.fills i=[]
  ·rw [if_pos hn];refine (acn s st i 41 (by omega)).congr fun n y=>?_
   have hbr:∀ w,ahL k (ac5 k w st) i=if st then(w i:Int) else 0:=fun w=>by
    rw[abB hok _ hi,hn];simp[ac5,hn]
   constructor
   ·rintro ⟨h1,h2,h3⟩;refine ⟨fun _=>n,rfl,fun j hj hb=>?_,by rw [hbr,h3]⟩;rcases Ie hok i j hj hb with rfl | ⟨x,hx,_⟩
    ·exact⟨h2,fun h=>absurd hn h⟩
    ·rw[hn]at hx;cases hx
   ·rintro ⟨w,rfl,h1,h2⟩;have hl:=(h1 i hi (gq k i)).1;have:=GU hs hl;exact⟨by omega,hl,by rw[h2,hbr]⟩
  ·rw [if_neg hn];have hfg:=fun x hx=>rV hok (i:=i) (x:=x) hx
   have hH:=abG (k.fills i) (Bg k i) (fun x hx=>ih x (hfg x hx).2 (by have:=hfg x hx;omega)) (aaM.add (n:=0) (by decide) (Q:=fun y=>y=0) (v:=(0,0)) rfl rfl (by rintro y rfl;simp));refine(abW hH (s.aK i) st (hlo i) (hi:=(s.aP i).2) 41 (by omega)).congr fun n y=>?_
   constructor
   ·rintro ⟨x,d,y1,h1,h2,h3,rfl,h5,h6,⟨h7,n0,y0,c,z,h8,h9,rfl,rfl⟩,h10⟩;obtain ⟨rfl,rfl⟩:n0=0/\y0=0:=h8.resolve_left id;obtain ⟨w,hw1,hw2⟩:=ab7 hok (f:=k.fills i) (fr:=(i:Int)) (fun x hx=>gK.1 hx) (Wp:=fun x w=>w x=c x/\z x=ahL k (ac5 k w st) x) (fun x hx=>by
     obtain⟨w,g1,g2,g3⟩:=h9 x hx;exact⟨w,⟨g1,g3⟩,g2⟩) (fun _=>0+((k.fills i).map c).sum+d)
    have hwi:w i=0+((k.fills i).map c).sum+d:=hw1 i fun x hx=>by
     cases hh:inB k x i
     ·rfl
     ·have:=DN hok x i hi hh;have:=hfg x hx;omega
    have hwc:(k.fills i).map w=(k.fills i).map c:=List.map_congr_left fun x hx=>by
     obtain⟨wx,⟨g1,_⟩,g2⟩:=hw2 x hx;rw[(g2 x (hfg x hx).2 (gq k x)).1,g1]
    have hwz:(k.fills i).map (ahL k (ac5 k w st))=(k.fills i).map z:=List.map_congr_left fun x hx=>by
     obtain⟨wx,⟨_,g1⟩,g2⟩:=hw2 x hx;rw[g1];exact aaZ hok st fun j hj hb=>(g2 j hj hb).1
    refine⟨w,hwi,fun j hj hb=>?_,?_⟩
    ·rcases Ie hok i j hj hb with rfl | ⟨x,hx,hbx⟩
     ·refine⟨by rw[hwi];exact h6,fun _=>⟨d,?_,by rw[hwi,hwc];omega⟩⟩;rw[wI];simp only[Bool.and_eq_true,decide_eq_true_eq];omega
     ·obtain⟨wx,_,g2⟩:=hw2 x hx;exact(g2 j hj hbx).2
    ·rw [abB hok _ hi,hwz,h10];unfold ac5;rw [if_neg hn,hwc,hwi];cases st
     ·simp only[Bool.false_eq_true,if_false];omega
     ·simp only[if_true]
   ·rintro ⟨w,rfl,h1,h2⟩;obtain ⟨hl,hd⟩:=h1 i hi (gq k i);obtain ⟨d,hd1,hd2⟩:=hd hn;have h40:=GU hs hl;rw [wI] at hd1;simp only [Bool.and_eq_true,decide_eq_true_eq] at hd1;refine ⟨((k.fills i).map w).sum,d,((k.fills i).map (ahL k (ac5 k w st))).sum,by omega,by omega,by omega,hd2,h40,hl,⟨by omega,0,0,w,ahL k (ac5 k w st),.inr ⟨rfl,rfl⟩,fun x hx=>?_,by omega,by omega⟩,?_⟩
    ·exact⟨w,rfl,fun j hj hb=>h1 j hj (Rz hok hx j hj hb),rfl⟩
    ·rw [h2,abB hok _ hi];unfold ac5;rw [if_neg hn,hd2];cases st
     ·simp only[Bool.false_eq_true,if_false];omega
     ·simp only[if_true];omega
theorem acj {g:Gr} {P:Nat->Int->Prop} (h:Holds g P) (m:Nat) :
  match gy g m with
  |none=>∀ n y,n<m->¬ P n y
  |some r=>(∃ n,n<m/\P n r.1)/\(∃ n,n<m/\P n r.2)/\∀ n y,n<m->P n y->r.1<=y/\y<=r.2:=by
 induction m with
 |zero=>exact fun n y hn=>absurd hn (by omega)
 | succ m ih =>
  rw[gy];by_cases hb:g.has.testBit m=true
  ·rw [if_pos hb];have h1:=h.lo m hb;have h2:=h.hi m hb;cases hf:gy g m with
   |none =>
    rw[hf]at ih;refine⟨⟨m,by omega,h1⟩,⟨m,by omega,h2⟩,fun n y hn hp=>?_⟩;by_cases e:n=m
    ·subst e;exact h.all n y hp
    ·exact absurd hp (ih n y (by omega))
   | some r =>
    rw[hf]at ih;obtain⟨⟨n1,g1,g2⟩,⟨n2,g3,g4⟩,g5⟩:=ih;refine⟨?_,?_,fun n y hn hp=>?_⟩
    ·show ∃ n,n < m+1/\P n (min r.1 (g.get m).1);rcases Int.le_total r.1 (g.get m).1 with h3 | h3
     ·rw[Int.min_eq_left h3];exact⟨n1,by omega,g2⟩
     ·rw[Int.min_eq_right h3];exact⟨m,by omega,h1⟩
    ·show ∃ n,n < m+1/\P n (max r.2 (g.get m).2);rcases Int.le_total r.2 (g.get m).2 with h3 | h3
     ·rw[Int.max_eq_right h3];exact⟨m,by omega,h2⟩
     ·rw[Int.max_eq_left h3];exact⟨n2,by omega,g4⟩
    ·show min r.1 (g.get m).1<=y/\y<=max r.2 (g.get m).2;by_cases e:n=m
     ·subst e;have:=h.all n y hp;omega
     ·have:=g5 n y (by omega) hp;omega
  ·rw [if_neg hb];have hno:∀ y,¬ P m y:=fun y hp=>hb ((h.has m).2 ⟨y,hp⟩)
   cases hf:gy g m with
   |none =>
    rw[hf]at ih;intro n y hn hp;by_cases e:n=m
    ·subst e;exact hno y hp
    ·exact ih n y (by omega) hp
   |some r =>
    rw[hf]at ih;obtain⟨⟨n1,g1,g2⟩,⟨n2,g3,g4⟩,g5⟩:=ih;refine⟨⟨n1,by omega,g2⟩,⟨n2,by omega,g4⟩,fun n y hn hp=>?_⟩;by_cases e:n=m
    ·subst e;exact absurd hp (hno y)
    ·exact g5 n y (by omega) hp
theorem ab9 (hok:k.Ok) (hs:s.WF) (hlo:∀ i,0<=(s.aP i).1) (st:Bool) (hi:i<k.n) (h0:∀ j,j<k.n->inB k i j=true->Fit k s w0 j) :
  (∃ w:Nat->Nat,(∀ j,j < k.n->inB k i j=true->Fit k s w j)/\ahL k (ac5 k w st) i=(kX k s st i).1)/\(∃ w:Nat->Nat,(∀ j,j < k.n->inB k i j=true->Fit k s w j)/\ahL k (ac5 k w st) i=(kX k s st i).2) /\
   ∀ w:Nat->Nat,(∀ j,j<k.n->inB k i j=true->Fit k s w j)->(kX k s st i).1<=ahL k (ac5 k w st) i/\ahL k (ac5 k w st) i<=(kX k s st i).2:=by
 have hH:=abX hok hs hlo st (k.n-i) i hi (Nat.le_refl _);have hf:=acj hH 41;unfold kX Qg;cases e:gy (jm k s st (k.n-i) i) 41 with
 |none =>
  rw[e]at hf;have hp:∃ w:Nat->Nat,w i=w0 i/\(∀ j,j<k.n->inB k i j=true->Fit k s w j)/\ahL k (ac5 k w0 st) i=ahL k (ac5 k w st) i:=⟨w0,rfl,h0,rfl⟩;have:=hH.small hp;exact absurd hp (hf _ _ (by omega))
 |some r =>
  rw[e]at hf;obtain⟨⟨n1,_,w1,_,g1,g2⟩,⟨n2,_,w2,_,g3,g4⟩,g5⟩:=hf;refine⟨⟨w1,g1,g2.symm⟩,⟨w2,g3,g4.symm⟩,fun w hw=>?_⟩;have hp:∃ w':Nat->Nat,w' i=w i/\(∀ j,j<k.n->inB k i j=true->Fit k s w' j)/\ahL k (ac5 k w st) i=ahL k (ac5 k w' st) i:=⟨w,rfl,hw,rfl⟩;have:=hH.small hp;exact g5 _ _ (by omega) hp
def aaw (k:Wk) (w:Nat->Nat) (st:Bool):Int:=((List.range k.n).map (ac5 k w st)).sum
theorem acO (k:Wk) (s:SS) (st:Bool):dW k s st=((k.sources.map fun i=>(kX k s st i).1).sum,(k.sources.map fun i=>(kX k s st i).2).sum):=by
 have key:∀ (l:List Nat) (t:Int × Int),l.foldl (fun t i=>dX t (kX k s st i)) t=(t.1+(l.map fun i=>(kX k s st i).1).sum,t.2+(l.map fun i=>(kX k s st i).2).sum):=fun l=>by
  induction l with
  |nil=>intro t;simp
  |cons a l ih =>
   intro t;rw[List.foldl_cons,ih];simp only[dX,List.map_cons,List.sum_cons,Prod.mk.injEq];omega
 unfold dW;rw[key];simp
theorem acr (hok:k.Ok) (hs:s.WF) (hlo:∀ i,0<=(s.aP i).1) (st:Bool) (h0:Hu k s w0) :
  (∃ w,Hu k s w/\aaw k w st=(dW k s st).1)/\(∃ w,Hu k s w/\aaw k w st=(dW k s st).2)/\∀ w,Hu k s w->(dW k s st).1<=aaw k w st/\aaw k w st<=(dW k s st).2:=by
 have hF:=fun {i} (hi:i<k.n)=>ab9 hok hs hlo st hi fun j hj _=>h0 j hj
 have key:∀ g:Nat->Int,(∀ r∈k.sources,∃ w:Nat->Nat,ahL k (ac5 k w st) r=g r/\∀ j,j<k.n->inB k r j=true->Fit k s w j)->∃ w,Hu k s w/\aaw k w st=(k.sources.map g).sum:=fun g hg=>by
  obtain⟨w,_,hw⟩:=ab7 hok (f:=k.sources) (fr:=-1) (fun x hx=>(aah hok).1 hx) (Wp:=fun x w=>ahL k (ac5 k w st) x=g x) hg fun _=>0
  refine⟨w,fun j hj=>?_,?_⟩
  ·obtain⟨r,h1,h2,h3⟩:=Yf hok j hj;obtain⟨wx,_,g2⟩:=hw r ((aah hok).2 ⟨h1,h2⟩);exact(g2 j hj h3).2
  ·unfold aaw;rw [acz hok];congr 1;refine List.map_congr_left fun x hx=>?_
   obtain⟨wx,g1,g2⟩:=hw x hx;rw[<- g1];exact aaZ hok st fun j hj hb=>(g2 j hj hb).1
 rw[acO];refine⟨key _ fun r hr=>?_,key _ fun r hr=>?_,fun w hw=>?_⟩
 ·obtain⟨⟨w,h1,h2⟩,_⟩:=hF ((aah hok).1 hr).1;exact⟨w,h2,h1⟩
 ·obtain⟨_,⟨w,h1,h2⟩,_⟩:=hF ((aah hok).1 hr).1;exact⟨w,h2,h1⟩
 ·unfold aaw;rw [acz hok];refine ⟨acX fun r hr=>?_,acX fun r hr=>?_⟩
  ·obtain⟨_,_,h⟩:=hF ((aah hok).1 hr).1;exact(h w fun j hj _=>hw j hj).1
  ·obtain⟨_,_,h⟩:=hF ((aah hok).1 hr).1;exact(h w fun j hj _=>hw j hj).2
structure Least (S:Int->Prop) (r:Int × Int):Prop where
 lo:S r.1
 hi:S r.2
 all:∀ y,S y->r.1<=y/\y<=r.2
theorem Least.eq (h:Least S r) (h':Least S' r') (e:∀ y,S y↔S' y):r=r':=by
 have h1:=h.all _ ((e _).2 h'.lo);have h2:=h.all _ ((e _).2 h'.hi);have h3:=h'.all _ ((e _).1 h.lo);have h4:=h'.all _ ((e _).1 h.hi);exact Prod.ext (by omega) (by omega)
theorem Least.sub (h:Least S r) (h':Least S' r') (e:∀ y,S y->S' y):r'.1<=r.1/\r.2<=r'.2 :=
 ⟨(h'.all _ (e _ h.lo)).1,(h'.all _ (e _ h.hi)).2⟩
theorem abZ {k:Wk} (hok:k.Ok) {s:SS} (hs:s.WF) {v:Nat} (hv:v<k.n) {w0:Nat->Nat} (h0:Hu k s w0):Least (fun y=>∃ w,Hu k s w/\y=(w v:Int)) (aO k s v):=by
 have key:∀ M,M<=41->((∃ m,m<M/\can k (s.weighed v (m:Nat))=true)->(∃ m:Nat,m<M/\can k (s.weighed v (m:Nat))=true/\(bZ k s v M).1=m)/\∃ m:Nat,m<M/\can k (s.weighed v (m:Nat))=true/\(bZ k s v M).2=m)/\((∀ m,m<M->¬ can k (s.weighed v (m:Nat))=true)->(bZ k s v M).1=40):=fun M=>by
  induction M with
  |zero=>exact fun _=>⟨fun⟨m,hm,_⟩=>absurd hm (by omega),fun _=>rfl⟩
  | succ M ih =>
   intro hM;obtain⟨ih1,ih2⟩:=ih (by omega);rw[bZ];by_cases hc:can k (s.weighed v (M:Nat))=true
   ·rw [if_pos hc];refine ⟨fun _=>⟨?_,⟨M,by omega,hc,rfl⟩⟩,fun h=>absurd hc (h M (by omega))⟩;by_cases hex:∃ m,m < M/\can k (s.weighed v (m:Nat))=true
    ·obtain⟨⟨m,h1,h2,h3⟩,_⟩:=ih1 hex;refine⟨m,by omega,h2,?_⟩;simp only;omega
    ·have h4:=ih2 fun m hm hcm=>hex ⟨m,hm,hcm⟩
     refine⟨M,by omega,hc,?_⟩;simp only;omega
   ·rw [if_neg hc];refine ⟨fun ⟨m,hm,hcm⟩=>?_,fun h=>ih2 fun m hm=>h m (by omega)⟩;have hmM:m < M:=by
     by_cases e:m=M
     ·subst e;exact absurd hcm hc
     ·omega
    obtain⟨⟨m1,h1,h2,h3⟩,⟨m2,h4,h5,h6⟩⟩:=ih1 ⟨m,hmM,hcm⟩;exact⟨⟨m1,by omega,h2,h3⟩,⟨m2,by omega,h5,h6⟩⟩
 have h40:∀ w,Hu k s w->w v<=40:=fun w hw=>GU hs (hw v hv).1
 obtain⟨⟨m1,a1,a2,a3⟩,⟨m2,b1,b2,b3⟩⟩:=(key 41 (Nat.le_refl _)).1 ⟨w0 v,by have:=h40 w0 h0;omega,(vZ hok hs hv (h40 w0 h0)).2 ⟨w0,h0,rfl⟩⟩;obtain⟨w1,c1,c2⟩:=(vZ hok hs hv (by omega)).1 a2;obtain⟨w2,d1,d2⟩:=(vZ hok hs hv (by omega)).1 b2;refine⟨⟨w1,c1,by rw[c2];exact a3⟩,⟨w2,d1,by rw[d2];exact b3⟩,?_⟩;rintro y ⟨w,hw,rfl⟩;exact NV (h40 w hw) ((vZ hok hs hv (h40 w hw)).2 ⟨w,hw,rfl⟩)
theorem abq (hs:s.WF) (hv:v<6) (p:Int × Int) (j:Nat):(s.eu v p).aP j=if v=j then p else s.aP j:=fC _ _ _ _ _ (by rw[hs.los];exact hv)
theorem acp (h6:k.n<=6) (hs:s.WF) (hv:v<k.n) (hf:k.fills v≠[]) {d:Nat} (hd:(s.aP v).1<=d/\(d:Int)<=(s.aP v).2) (h40:d<=40) (w:Nat->Nat) :
  Hu k (s.eu v (d,d)) w↔Hu k s w/\ac5 k w false v=d:=by
 have hl:∀ w,Hu k (s.eu v (d,d)) w->w v=((k.fills v).map w).sum+d:=fun w h=>by
  obtain⟨_,h2⟩:=h v hv;obtain⟨e,h3,h4⟩:=h2 hf;rw[abq hs (by omega),if_pos rfl,wI]at h3;simp only[Bool.and_eq_true,decide_eq_true_eq]at h3;omega
 constructor
 ·intro h;have hw:=hl w h;refine ⟨fun j hj=>?_,by unfold ac5;rw [if_neg hf];simp only [Bool.false_eq_true,if_false];omega⟩;obtain ⟨h1,h2⟩:=h j hj;refine ⟨h1,fun hn=>?_⟩;by_cases e:v=j
  ·subst e;refine⟨d,?_,hw⟩;rw[wI];simp only[Bool.and_eq_true,decide_eq_true_eq];omega
  ·obtain⟨x,h3,h4⟩:=h2 hn;rw[abq hs (by omega),if_neg e]at h3;exact⟨x,h3,h4⟩
 ·rintro ⟨h,hw⟩ j hj;obtain ⟨h1,h2⟩:=h j hj;refine ⟨h1,fun hn=>?_⟩;rw [abq hs (by omega)];by_cases e:v=j
  ·subst e;refine ⟨d,?_,?_⟩
   ·rw[if_pos rfl,wI];simp only[Bool.and_eq_true,decide_eq_true_eq];omega
   ·unfold ac5 at hw;rw[if_neg hf]at hw;simp only[Bool.false_eq_true,if_false]at hw;omega
  ·rw[if_neg e];exact h2 hn
theorem SS.WF.adb (hs:s.WF) (v:Nat) (p:Int × Int):(s.eu v p).WF:=⟨hs.lim,by simp[SS.eu,hs.los],hs.small⟩
theorem acw {k:Wk} (hok:k.Ok) {s:SS} (hs:s.WF) (hlo:∀ i,0<=(s.aP i).1) (hhi:∀ i,(s.aP i).2<=40) {v:Nat} (hv:v<k.n) {w0:Nat->Nat} (h0:Hu k s w0):Least (fun y=>∃ w,Hu k s w/\y=ac5 k w false v) (aal k s v):=by
 unfold aal;by_cases hf:k.fills v=[]
 ·rw [if_pos hf];have e:∀ w,ac5 k w false v=0:=fun w=>by unfold ac5;rw [if_pos hf];rfl
  exact⟨⟨w0,h0,(e w0).symm⟩,⟨w0,h0,(e w0).symm⟩,fun y ⟨w,_,hy⟩=>by rw[hy,e];omega⟩
 ·rw [if_neg hf];have hl:=hlo v;have hh:=hhi v;generalize hL:(s.aP v).1=L at hl |-;generalize hH:(s.aP v).2=H at hh |-;have hcan:∀ m:Nat,L+m<=H->(can k (s.eu v (L+m,L+m))=true↔∃ w,Hu k s w/\ac5 k w false v=L+m):=fun m hm=>by
   rw[QS hok (hs.adb v _)];have hd:(((L+m).toNat:Nat):Int)=L+m:=by omega
   have:=fun w=>acp hok.le hs hv hf (d:=(L+m).toNat) (by omega) (by omega) w
   rw[hd]at this;exact⟨fun⟨w,hw⟩=>⟨w,(this w).1 hw⟩,fun⟨w,hw⟩=>⟨w,(this w).2 hw⟩⟩
  have hin:∀ w,Hu k s w->L<=ac5 k w false v/\ac5 k w false v<=H:=fun w hw=>by
   obtain⟨_,h2⟩:=hw v hv;obtain⟨d,h3,h4⟩:=h2 hf;rw[wI,hL,hH]at h3;simp only[Bool.and_eq_true,decide_eq_true_eq]at h3;unfold ac5;rw[if_neg hf];simp only[Bool.false_eq_true,if_false];omega
  have key:∀ M:Nat,(∀ m:Nat,m < M->L+m<=H)->((∃ m:Nat,m < M/\can k (s.eu v (L+m,L+m))=true)->(∃ m:Nat,m < M/\can k (s.eu v (L+m,L+m))=true/\(aeJ k s v M).1=L+m)/\∃ m:Nat,m < M/\can k (s.eu v (L+m,L+m))=true/\(aeJ k s v M).2=L+m) /\
    ((∀ m:Nat,m<M->¬ can k (s.eu v (L+m,L+m))=true)->aeJ k s v M=(H,L))/\∀ m:Nat,m<M->can k (s.eu v (L+m,L+m))=true->(aeJ k s v M).1<=L+m/\L+m<=(aeJ k s v M).2:=fun M=>by
   induction M with
   |zero=>exact fun _=>⟨fun⟨m,hm,_⟩=>absurd hm (by omega),fun _=>by rw[aeJ,hL,hH],fun m hm=>absurd hm (by omega)⟩
   | succ M ih =>
    intro hM;obtain⟨ih1,ih2,ih3⟩:=ih fun m hm=>hM m (by omega)
    have hMH:=hM M (by omega);rw[aeJ,hL];by_cases hc:can k (s.eu v (L+M,L+M))=true
    ·rw [if_pos hc];refine ⟨fun _=>?_,fun h=>absurd hc (h M (by omega)),fun m hm hcm=>?_⟩
     ·by_cases hex:∃ m:Nat,m < M/\can k (s.eu v (L+m,L+m))=true
      ·obtain ⟨⟨m,h1,h2,h3⟩,⟨m',h4,h5,h6⟩⟩:=ih1 hex;refine ⟨⟨m,by omega,h2,?_⟩,⟨M,by omega,hc,?_⟩⟩
       ·simp only;omega
       ·simp only;omega
      ·have h4:=ih2 fun m hm hcm=>hex ⟨m,hm,hcm⟩
       rw[h4];refine⟨⟨M,by omega,hc,?_⟩,⟨M,by omega,hc,?_⟩⟩
       ·simp only;omega
       ·simp only;omega
     ·simp only;by_cases e:m=M
      ·subst e;omega
      ·have:=ih3 m (by omega) hcm;omega
    ·rw [if_neg hc];have hlt:∀ m:Nat,m < M+1->can k (s.eu v (L+m,L+m))=true->m < M:=fun m hm hcm=>by
      by_cases e:m=M
      ·subst e;exact absurd hcm hc
      ·omega
     refine⟨fun⟨m,hm,hcm⟩=>?_,fun h=>ih2 fun m hm=>h m (by omega),fun m hm hcm=>ih3 m (hlt m hm hcm) hcm⟩;obtain⟨⟨m1,h1,h2,h3⟩,⟨m2,h4,h5,h6⟩⟩:=ih1 ⟨m,hlt m hm hcm,hcm⟩;exact⟨⟨m1,by omega,h2,h3⟩,⟨m2,by omega,h5,h6⟩⟩
  obtain⟨k1,_,k3⟩:=key (H-L+1).toNat fun m hm=>by omega
  have hg:=hin w0 h0;obtain⟨⟨m1,a1,a2,a3⟩,⟨m2,b1,b2,b3⟩⟩:=k1 ⟨(ac5 k w0 false v-L).toNat,by omega,(hcan _ (by omega)).2 ⟨w0,h0,by omega⟩⟩;obtain⟨w1,c1,c2⟩:=(hcan m1 (by omega)).1 a2;obtain⟨w2,d1,d2⟩:=(hcan m2 (by omega)).1 b2;refine⟨⟨w1,c1,by rw[c2,a3]⟩,⟨w2,d1,by rw[d2,b3]⟩,?_⟩;rintro y ⟨w,hw,rfl⟩;have hgw:=hin w hw;have:=k3 (ac5 k w false v-L).toNat (by omega) ((hcan _ (by omega)).2 ⟨w,hw,by omega⟩);omega
theorem ab3 (hok:k.Ok) (hs:s.WF) (hlo:∀ i,0<=(s.aP i).1) (st:Bool) (h0:Hu k s w0):Least (fun y=>∃ w,Hu k s w/\y=aaw k w st) (dW k s st):=by
 obtain⟨⟨w1,a1,a2⟩,⟨w2,b1,b2⟩,h⟩:=acr hok hs hlo st h0;exact⟨⟨w1,a1,a2.symm⟩,⟨w2,b1,b2.symm⟩,by rintro y ⟨w,hw,rfl⟩;exact h w hw⟩
theorem acK (hok:k.Ok) (b:je->Bool) (i:Nat):((aN k b).aP i).2<=40:=by
 rw[rW k hok];split
 ·rename_i hi;have:(k.v i).hi<=20:=(hok.ves i hi).2.2.2.2.2.2.2.1;simp only;omega
 ·decide
theorem abA (hok:k.Ok) (hv:v<k.n) (h0:Hu k (aN k aC) w0):Least (fun y=>∃ w,Hu k (aN k aC) w/\y=(w v:Int)) (aO k (aN k aC) v):=abZ hok (gG _ _) hv h0
theorem ab6 (hok:k.Ok) (hv:v<k.n) (h0:Hu k (aN k aC) w0):Least (fun y=>∃ w,Hu k (aN k aC) w/\y=ac5 k w false v) (aal k (aN k aC) v):=acw hok (gG _ _) (QU k hok aC) (acK hok aC) hv h0
theorem abL (hok:k.Ok) (st:Bool) (h0:Hu k (aN k aC) w0):Least (fun y=>∃ w,Hu k (aN k aC) w/\y=aaw k w st) (dW k (aN k aC) st):=ab3 hok (gG _ _) (QU k hok aC) st h0
def listOf (k:Wk) (w:Nat->Nat):List Int:=(List.range k.n).map fun i=>(w i:Int)
theorem adB (k:Wk) (w:Nat->Nat):(listOf k w).length=k.n:=by simp[listOf]
theorem listOf_at (w:Nat->Nat) (hi:i<k.n):(listOf k w).getD i 0=(w i:Int):=by
 simp[listOf,List.getD_eq_getElem?_getD,hi]
theorem adP (k:Wk) (w:Nat->Nat) (i:Nat):((k.fills i).map fun x=>((listOf k w).getD x 0).toNat).sum=((k.fills i).map w).sum:=by
 congr 1;refine List.map_congr_left fun x hx=>?_
 rw[listOf_at w (gK.1 hx).1,Int.toNat_natCast]
theorem aeD (hok:k.Ok) (h:Hu k (aN k aC) w):Truth k (listOf k w):=by
 have hlim:∀ i,i<k.n->(w i:Int)<=(k.v i).room/\∀ r∈k.rdg,r.vessel.toNat=i->r.shown-r.err<=(w i:Int)/\(w i:Int)<=r.shown+r.err:=fun i hi=>by
  have h1:=(h i hi).1;rw[Dh hok.le (yF hok) aC hi,TQ,wI]at h1;obtain⟨h2,h3⟩:=h1;simp only[Bool.and_eq_true,decide_eq_true_eq]at h2;refine⟨h2.1.2,fun r hr he=>?_⟩;have h4:=h3 r (List.mem_filter.2 ⟨hr,by simp[aC,he]⟩);rw[wI]at h4;simp only[Bool.and_eq_true,decide_eq_true_eq]at h4;exact h4.1
 refine⟨adB k w,fun i hi=>?_,fun i hi hex=>?_,fun r hr=>?_⟩
 ·rw[listOf_at w hi];exact⟨by omega,(hlim i hi).1⟩
 ·rw[OJ k _ (fun x hx=>by rw[listOf_at w hx];omega),adP,listOf_at w hi];obtain⟨x,hx1,hx2⟩:=hex;have hf:k.fills i≠[]:=List.ne_nil_of_mem (gK.2 ⟨hx1,hx2⟩);obtain⟨d,hd,he⟩:=(h i hi).2 hf;rw[rW k hok,if_pos hi,wI]at hd;simp only[Bool.and_eq_true,decide_eq_true_eq]at hd;generalize ((k.fills i).map w).sum=S at he |-;omega
 ·have hv:=yF hok r hr;rw[listOf_at w (by omega)];exact(hlim _ (by omega)).2 r hr rfl
def adx (k:Wk) (l:List Int) (i:Nat):Int:=if k.fills i=[] then 0 else l.getD i 0-((k.fills i).map fun x=>l.getD x 0).sum
def ads (k:Wk) (l:List Int):List Int:=(List.range k.n).map (adx k l)
theorem adA (k:Wk) (l:List Int):(ads k l).length=k.n:=by simp[ads]
def okV (k:Wk) (l:List Int) (i:Nat):Prop:=(0<=l.getD i 0/\l.getD i 0<=(k.v i).room)/\(k.fills i≠[]->(k.v i).lo<=adx k l i/\adx k l i<=(k.v i).hi)
def okR (l:List Int) (r:je):Prop:=-r.err<=l.getD r.vessel.toNat 0-r.shown/\l.getD r.vessel.toNat 0-r.shown<=r.err
theorem adS (l:List Int) (f:List Nat) (h:∀ x∈f,0<=l.getD x 0):(((f.map fun x=>(l.getD x 0).toNat).sum:Nat):Int)=(f.map fun x=>l.getD x 0).sum:=by
 induction f with
 |nil=>rfl
 |cons a f ih =>
  have h1:=h a (by simp);have h2:=ih fun x hx=>h x (by simp[hx])
  simp only[List.map_cons,List.sum_cons];omega
theorem ad2 (hl:l.length=k.n):Truth k l↔(∀ i,i<k.n->okV k l i)/\∀ r∈k.rdg,okR l r:=by
 have hs:(∀ x,x<k.n->0<=l.getD x 0)->∀ i,sumF (fun j=>(k.v j).from_) k.n l i=((k.fills i).map fun x=>l.getD x 0).sum:=fun h i=>by
  rw[OJ k l h,adS l _ fun x hx=>h x (gK.1 hx).1]
 constructor
 ·intro h;have h0:∀ x,x < k.n->0<=l.getD x 0:=fun x hx=>(h.room x hx).1
  refine⟨fun i hi=>⟨h.room i hi,fun hf=>?_⟩,fun r hr=>?_⟩
  ·obtain⟨x,hx⟩:=List.exists_mem_of_ne_nil _ hf;have:=h.loss i hi ⟨x,(gK.1 hx).1,(gK.1 hx).2⟩;rw[hs h0]at this;unfold adx;rw[if_neg hf];exact this
  ·have:=h.rdg r hr;unfold okR;omega
 ·rintro ⟨h1,h2⟩;have h0:∀ x,x < k.n->0<=l.getD x 0:=fun x hx=>(h1 x hx).1.1
  refine⟨hl,fun i hi=>(h1 i hi).1,fun i hi ⟨x,hx1,hx2⟩=>?_,fun r hr=>?_⟩
  ·have hf:k.fills i≠[]:=List.ne_nil_of_mem (gK.2 ⟨hx1,hx2⟩);have:=(h1 i hi).2 hf;unfold adx at this;rw[if_neg hf]at this;rw[hs h0];exact this
  ·have:=h2 r hr;unfold okR at this;omega
theorem aec (w:Nat->Nat) (hi:i<k.n):adx k (listOf k w) i=ac5 k w false i:=by
 unfold adx ac5;by_cases hf:k.fills i=[]
 ·rw[if_pos hf,if_pos hf];rfl
 ·rw[if_neg hf,if_neg hf,<- adS (listOf k w) _ fun x hx=>by rw[listOf_at w (gK.1 hx).1];omega,adP,listOf_at w hi];rfl
def adu (k:Wk) (l:List Int) (m:Nat):Int:=((List.range m).map fun i=>if k.fills i=[] then l.getD i 0 else 0).sum
theorem ad4 (k:Wk) (l:List Int) (m:Nat):adu k l (m+1)=adu k l m+if k.fills m=[] then l.getD m 0 else 0:=by
 unfold adu;rw[List.range_succ,List.map_append,List.sum_append];simp
theorem aee (w:Nat->Nat):adu k (listOf k w) k.n=aaw k w true:=by
 unfold adu aaw;congr 1;refine List.map_congr_left fun i hi=>?_
 have hi':=List.mem_range.1 hi;unfold ac5;rw[listOf_at w hi'];rfl
theorem aem (w:Nat->Nat):(ads k (listOf k w)).sum=aaw k w false:=by
 unfold ads aaw;congr 1;exact List.map_congr_left fun i hi=>aec w (List.mem_range.1 hi)
theorem adU (hok:k.Ok) (h0:Hu k (aN k aC) w0):∀ i,i<=k.n->(dQ k i).2.length=i/\(∃ w,Hu k (dQ k i).1 w)/\(∀ w,Hu k (dQ k i).1 w↔Hu k (aN k aC) w/\∀ j,j<i->(dQ k i).2.getD j 0=(w j:Int)) /\
  ∀ w,Hu k (aN k aC) w->∀ j,j<i->(∀ j',j'<j->(dQ k i).2.getD j' 0=(w j':Int))->(dQ k i).2.getD j 0<=(w j:Int):=fun i=>by
 induction i with
 |zero=>exact fun _=>⟨rfl,⟨w0,h0⟩,fun w=>⟨fun h=>⟨h,fun j hj=>absurd hj (by omega)⟩,fun h=>h.1⟩,fun w _ j hj=>absurd hj (by omega)⟩
 | succ i ih =>
  intro hi;obtain⟨g1,⟨w1,g2⟩,g3,g4⟩:=ih (by omega);have hs:=Py k i;have hc:∀ n,n<=40->(can k ((dQ k i).1.weighed i (n:Nat))=true↔∃ w,Hu k (dQ k i).1 w/\w i=n):=fun n hn=>vZ hok hs (by omega) hn
  have h40:∀ w,Hu k (dQ k i).1 w->w i<=40:=fun w hw=>GU hs (hw i (by omega)).1
  cases hf:su k (dQ k i).1 i with
  |none =>
   unfold su at hf;rw[List.find?_eq_none]at hf;exact absurd ((hc _ (h40 w1 g2)).2 ⟨w1,g2,rfl⟩) (hf (w1 i) (List.mem_range.2 (by have:=h40 w1 g2;omega)))
  | some n =>
   have hf':=hf;unfold su at hf';rw[List.find?_range_eq_some]at hf';obtain⟨hn1,hn2,hn3⟩:=hf';have hn2':=List.mem_range.1 hn2;have hE:dQ k (i+1)=((dQ k i).1.weighed i n,(dQ k i).2 ++ [(n:Int)]):=by
    rw[dQ,hf]
   have gA:∀ j,j<i->((dQ k i).2 ++ [(n:Int)]).getD j 0=(dQ k i).2.getD j 0:=fun j hj=>by
    rw[List.getD_eq_getElem?_getD,List.getElem?_append_left (by omega),<- List.getD_eq_getElem?_getD]
   have gB:((dQ k i).2 ++ [(n:Int)]).getD i 0=n:=by
    rw[List.getD_eq_getElem?_getD,List.getElem?_append_right (by omega),g1,Nat.sub_self];rfl
   have gT:∀ w,Hu k ((dQ k i).1.weighed i n) w↔Hu k (dQ k i).1 w/\w i=n:=fun w=>AV hs hok.le (by omega) (by omega) w
   rw[hE];refine⟨by simp[g1],?_,fun w=>?_,fun w hw j hj hq=>?_⟩
   ·obtain⟨w,hw⟩:=(hc n (by omega)).1 hn1;exact⟨w,(gT w).2 hw⟩
   ·simp only;rw [gT,g3];constructor
    ·rintro ⟨⟨a,b⟩,c⟩;refine ⟨a,fun j hj=>?_⟩;by_cases e:j=i
     ·subst e;rw[gB,c]
     ·rw[gA j (by omega)];exact b j (by omega)
    ·rintro ⟨a,b⟩;refine⟨⟨a,fun j hj=>by rw[<- gA j hj];exact b j (by omega)⟩,?_⟩;have:=b i (by omega);rw[gB]at this;omega
   ·simp only at hq |-;by_cases e:j=i
    ·subst e;rw [gB];have hw':Hu k (dQ k j).1 w:=(g3 w).2 ⟨hw,fun j' hj'=>by rw [<- gA j' hj'];exact hq j' hj'⟩;have h4:=h40 w hw';rcases Nat.lt_or_ge (w j) n with h5 | h5
     ·have h6:=hn3 (w j) h5;rw[(hc (w j) h4).2 ⟨w,hw',rfl⟩]at h6;cases h6
     ·omega
    ·rw[gA j (by omega)];exact g4 w hw j (by omega) fun j' hj'=>by rw[<- gA j' (by omega)];exact hq j' hj'
theorem ad3 (hok:k.Ok) (h0:Hu k (aN k aC) w0):∃ w,Hu k (aN k aC) w/\qN k=(listOf k w,0)/\∀ l,Truth k l->∀ i,i<k.n->(∀ j,j<i->l.getD j 0=(listOf k w).getD j 0)->(listOf k w).getD i 0<=l.getD i 0:=by
 obtain⟨g1,⟨w,g2⟩,g3,g4⟩:=adU hok h0 k.n (Nat.le_refl _);obtain⟨g5,g6⟩:=(g3 w).1 g2;have hL:(dQ k k.n).2=listOf k w:=by
  refine List.ext_getElem (by rw[g1,adB]) fun j h1 h2=>?_
  have h3:=g6 j (by omega);rw[List.getD_eq_getElem?_getD,List.getElem?_eq_getElem h1,Option.getD_some]at h3;have h4:=listOf_at (k:=k) w (i:=j) (by omega);rw[List.getD_eq_getElem?_getD,List.getElem?_eq_getElem h2,Option.getD_some]at h4;rw[h3,h4]
 refine⟨w,g5,?_,fun l hl i hi hj=>?_⟩
 ·unfold qN;rw[if_pos (G7 hok [] (fun n hn=>nomatch hn)),if_pos (Qu hok h0),hL]
 ·have h5:=g4 _ (adq hok hl) i hi fun j' hj'=>by
   rw[hL,<- hj j' hj'];have:=(hl.room j' (by omega)).1;omega
  rw[hL]at h5;have:=(hl.room i hi).1;omega
def strRow (l:List Int) (m:Nat):List (List Int):=(List.range m).map fun y:Nat=>l ++ [(y:Int)]
def aho (n:Nat) (out:List (List Int)) (x:Nat):List (List Int):=(out.take x).flatMap fun l=>strRow l n
def agN (n:Nat):Nat->List (List Int)
 |0=>[[]]
 |k+1=>aho n (agN n k) (agN n k).length
theorem ahW (l:List Int) (m:Nat):strRow l (m+1)=strRow l m ++ [l ++ [(m:Int)]]:=by
 unfold strRow;rw[List.range_succ,List.map_append];rfl
theorem ahz (l:List Int) (m:Nat):(strRow l m).length=m:=by simp[strRow]
theorem ahx (n:Nat) (out:List (List Int)) (hx:x<out.length):aho n out (x+1)=aho n out x ++ strRow (out.getD x []) n:=by
 unfold aho;rw[List.take_add_one,List.getElem?_eq_getElem hx,List.flatMap_append];simp[List.getD_eq_getElem?_getD,List.getElem?_eq_getElem hx]
theorem ahK (n:Nat) (out:List (List Int)) (x:Nat) (hx:x<=out.length):(aho n out x).length=n * x:=by
 induction x with
 |zero=>simp[aho]
 |succ x ih =>
  rw[ahx n out (by omega),List.length_append,ih (by omega),ahz,Nat.mul_succ]
theorem ahB (n k:Nat):(agN n k).length=n ^ k:=by
 induction k with
 |zero=>rfl
 |succ k ih =>
  rw[agN,ahK _ _ _ (Nat.le_refl _),ih,Nat.pow_succ,Nat.mul_comm]
theorem aik (n k:Nat):agN n (k+1)=(agN n k).flatMap fun l=>strRow l n:=by
 rw[agN,aho,List.take_length]
theorem ahA {l':List Int} {m:Nat}:l'∈strRow l m↔∃ y:Nat,y<m/\l'=l ++ [(y:Int)]:=by
 unfold strRow;rw[List.mem_map];constructor
 ·rintro ⟨y,hy,rfl⟩;exact⟨y,List.mem_range.1 hy,rfl⟩
 ·rintro ⟨y,hy,rfl⟩;exact⟨y,List.mem_range.2 hy,rfl⟩
theorem ahn:∀ {k:Nat} {l:List Int},l∈agN n k↔l.length=k/\∀ e∈l,0<=e/\e<(n:Int)
 |0,l=>by
  rw[agN,List.mem_singleton];constructor
  ·rintro rfl;exact⟨rfl,fun e he=>nomatch he⟩
  ·rintro ⟨h,_⟩;exact List.length_eq_zero_iff.1 h
 | k+1,l=>by
  rw[aik,List.mem_flatMap];constructor
  ·rintro ⟨l',h1,h2⟩;obtain ⟨y,hy,rfl⟩:=ahA.1 h2;obtain ⟨h3,h4⟩:=ahn.1 h1;refine ⟨by simp [h3],fun e he=>?_⟩;rcases List.mem_append.1 he with he | he
   ·exact h4 e he
   ·rw[List.mem_singleton]at he;subst he;omega
  ·rintro ⟨h1,h2⟩;have hne:l≠[]:=fun e=>by rw [e] at h1;cases h1
   obtain⟨h3,h4⟩:=h2 _ (List.getLast_mem hne);refine⟨l.dropLast,ahn.2 ⟨by rw[List.length_dropLast];omega,fun e he=>h2 e (List.dropLast_subset l he)⟩,ahA.2 ⟨(l.getLast hne).toNat,by omega,?_⟩⟩;have:(((l.getLast hne).toNat:Nat):Int)=l.getLast hne:=by omega
   rw[this];exact(List.dropLast_concat_getLast hne).symm
def Lex (a b:List Int):Prop:=∃ i,i<a.length/\(∀ j,j<i->a.getD j 0=b.getD j 0)/\a.getD i 0<b.getD i 0
theorem aio (h:j<l.length):(l ++ [y]).getD j 0=l.getD j 0:=by
 rw[List.getD_eq_getElem?_getD,List.getElem?_append_left h,<- List.getD_eq_getElem?_getD]
theorem aiC (h:l.length=n):(l ++ [y]).getD n 0=y:=by
 rw[List.getD_eq_getElem?_getD,List.getElem?_append_right (by omega),h,Nat.sub_self];rfl
theorem aiN (n:Nat):∀ k,(agN n k).Pairwise Lex
 |0=>by rw[agN];exact List.pairwise_singleton ..
 | k+1=>by
  rw[aik,List.pairwise_flatMap];refine⟨fun l hl=>?_,?_⟩
  ·unfold strRow;rw [List.pairwise_map];refine List.pairwise_lt_range.imp fun {a b} hab=>⟨l.length,by simp,fun j hj=>by rw [aio hj,aio hj],?_⟩
   rw[aiC rfl,aiC rfl];omega
  ·refine (List.Pairwise.and_mem.1 (aiN n k)).imp fun {a b} ⟨ha,hb,i,hi,h1,h2⟩ x hx y hy=>?_
   obtain⟨p,_,rfl⟩:=ahA.1 hx;obtain⟨q,_,rfl⟩:=ahA.1 hy;have hal:=(ahn.1 ha).1;have hbl:=(ahn.1 hb).1;refine⟨i,by simp;omega,fun j hj=>?_,?_⟩
   ·rw[aio (by omega),aio (by omega)];exact h1 j hj
   ·rw[aio (by omega),aio (by omega)];exact h2
noncomputable def jv (k:Wk):List (List Int):=open Classical in(agN 7 k.n).filter fun l=>decide (Truth k l)
noncomputable def ahf (k:Wk) (x:Nat):List (List Int):=open Classical in((agN 7 k.n).take x).filter fun l=>decide (Truth k l)
theorem ahM (hx:x<(agN 7 k.n).length) (h:Truth k ((agN 7 k.n).getD x [])):ahf k (x+1)=ahf k x ++ [(agN 7 k.n).getD x []]:=by
 unfold ahf;have e:(agN 7 k.n).getD x []=(agN 7 k.n)[x]:=by rw[List.getD_eq_getElem?_getD,List.getElem?_eq_getElem hx];rfl
 rw[e]at h |-;rw[List.take_add_one,List.getElem?_eq_getElem hx,List.filter_append];simp[h]
theorem ahJ (hx:x<(agN 7 k.n).length) (h:¬ Truth k ((agN 7 k.n).getD x [])):ahf k (x+1)=ahf k x:=by
 unfold ahf;have e:(agN 7 k.n).getD x []=(agN 7 k.n)[x]:=by rw[List.getD_eq_getElem?_getD,List.getElem?_eq_getElem hx];rfl
 rw[e]at h;rw[List.take_add_one,List.getElem?_eq_getElem hx,List.filter_append];simp[h]
theorem aht (k:Wk):ahf k (agN 7 k.n).length=jv k:=by
 unfold ahf jv;rw[List.take_length]
theorem ahs (k:Wk) (x:Nat):(ahf k x).length<=x:=by
 unfold ahf;refine Nat.le_trans (List.length_filter_le _ _) ?_;rw[List.length_take];omega
open Classical in
theorem ahk (hr:∀ i,i<k.n->(k.v i).room<=6) :l∈jv k↔Truth k l:=by
 unfold jv;rw[List.mem_filter,decide_eq_true_eq,ahn];constructor
 ·exact fun h=>h.2
 ·intro h;refine⟨⟨h.len,fun e he=>?_⟩,h⟩;obtain⟨i,hi,rfl⟩:=List.getElem_of_mem he;have h1:=h.room i (by rw[<- h.len];exact hi);have h2:=hr i (by rw[<- h.len];exact hi);rw[List.getD_eq_getElem?_getD,List.getElem?_eq_getElem hi,Option.getD_some]at h1;omega
theorem ahy (hok:k.Ok) (hr:∀ i,i<k.n->(k.v i).room<=6):can k (aN k aC)=true↔jv k≠[]:=by
 rw[QS hok (gG _ _)];constructor
 ·rintro ⟨w,hw⟩;exact List.ne_nil_of_mem ((ahk hr).2 (aeD hok hw))
 ·intro h;obtain⟨l,hl⟩:=List.exists_mem_of_ne_nil _ h;exact⟨_,adq hok ((ahk hr).1 hl)⟩
end Go.Wg
namespace Go.Mm
open Go
variable {e t te:TypeId} {b c j jb m n size:Nat} {v:Value} {news xs:List Value}
variable {P:Program} {w w' w0:World} {X:List Nat} {V:View} {L:List dF}
theorem ahD (hS:St w0 X V L w) {o:Oper} {ρ:Operand->Value} {sl x:Operand} (ho:o.op=.call {callee:=.builtin .append,args:=#[sl,x],argTypes:=#[t,t]})
 (ht:Yv P t e size=true) (hj:L[j]? = some (.row v e size n xs)) (hv:ρ sl=v)
 (hjb:L[jb]? = some (.blk b te news)) (hx:ρ x=.slice (some ⟨b,0,none⟩) m c) (hm:news.length=m * size) (h1:∀ u∈news,u.oneCell'=true) (hn:n+m<=10000) :
  ∃ v' w',(execOp ρ o).run P w=.ok (.value v') w'/\St w0 X V (L.set j (.row v' e size (n+m) (xs ++ news))) w':=by
 unfold Yv at ht;simp only[Bool.and_eq_true]at ht;obtain⟨⟨ht1,ht2⟩,ht3⟩:=ht;have hu:P.underlying t=some (.slice e):=by
  cases hd:P.underlying t with
  |none=>rw[hd]at ht1;cases ht1
  |some d=>rw[hd]at ht1;cases d<;>simp_all
 cases hq:P.info? e with
 |none=>rw[hq]at ht2;cases ht2
 | some q =>
  rw[hq]at ht2;simp only[Option.any_some,Bool.and_eq_true,beq_iff_eq,decide_eq_true_eq]at ht2;obtain⟨⟨hqs,hqz⟩,hqb⟩:=ht2;cases hz:q.zero with
  |none=>rw[hz]at hqz;cases hqz
  | some z =>
   rw[hz]at hqz;simp only[Option.any_some,Bool.and_eq_true,beq_iff_eq]at hqz;obtain⟨hqz,hqf⟩:=hqz;have hsz:0<size:=by simpa using ht3
   have hb:=hS.at hjb;have hbig:(n+m) * q.bytes<=10000 * 1000:=Nat.mul_le_mul hn hqb;obtain⟨v',w',hr,h2,h3,_,h5⟩:=run_append_own_at (P:=P) w 0 t o.type e q z size q.bytes hu hq hz hqs rfl hqz hsz v n xs (hS.wu hj) ⟨b,0,none⟩ m c news hm
    (fun i u hi=>by rw[Addr.add_mid];exact aX hb (by simpa using hi)) h1 (by unfold maxLen;omega) zw (Nat.zero_le _)
   refine⟨v',w',?_,hS.grow hj h3 h2 (hqs ▸ yw (P:=P) hu hq hz hqf (hqs ▸ hS.wu hj) (hqs ▸ hS.Wj hj) (a:=⟨b,0,none⟩) (hqs ▸ hm) (fun i u hi=>by rw[Addr.add_mid];exact aX hb (by simpa using hi)) h1 (by unfold maxLen;omega) zw hr) h5⟩;unfold execOp;simp only[ho,resolve,invoke,builtin,Sem.run_bind,Sem.run_pure,Result.andThen_ok,List.map_toArray,List.map_cons,List.map_nil,hv,hx,hr]
theorem ahE (hS:St w0 X V L w) [ht:Zz P t e size] [hj:Hr L v j e size n xs] [hjb:Hs L b jb te news]
 {K:Value->World->Prop} (hs:news.length=m * size/\(∀ u∈news,u.oneCell'=true)/\n+m<=10000) (h:∀ v' w',St w0 X V (L.set j (.row v' e size (n+m) (xs ++ news))) w'->K v' w'):Z8 P w t v b m c K :=
 fun o ρ sl x ho hv hx=>by
  obtain⟨v',w',hr,hS'⟩:=ahD hS ho ht.ok hj.ok hv hjb.ok hx hs.1 hs.2.1 hs.2.2;exact⟨v',w',hr,h v' w' hS'⟩
end Go.Mm
namespace Go.Proofs.YtjjmefieegcddaaDoor
open Go.RowKit Go.Wg Go.Mm
variable {w:World} {V:View}
theorem ah2 {k:Nat} (hk:k<=4) (hV:V.In w):Calls Tryd.prog 109 #[.int .i64 7,.int .i64 (k:Int)] w fun e w'=>∃ v V',e=.returned v/\afV w V V'/\St w [] V' [] w'/\VLL V' v (agN 7 k):=by
 have hS:=St.start w V hV;go_enter Tryd.func109,Tryd.ntmps109
 go_wp2_with (refine yg ?_;clear hS;intro _ w' hS)
 obtain⟨V1,hV1,hS1,hv1⟩:=agK hS;clear hS;go_loopw [5,6] (fun ov iv wr=>∃ (i:Nat) (V':View),i<=k/\iv=.int .i64 (i:Int)/\afV w V V'/\VLL V' ov (agN 7 i)/\St w [] V' [] wr) (fun _ iv _=>k-(intOf iv).toNat)
 case atStart=>exact⟨0,V1,by omega,rfl,hV1,hv1,hS1⟩
 case round =>
  clear hS1 hv1 hV1;clear V1;obtain⟨i,V1,hi,rfl,hV1,hv1,hS⟩:=hrel;have h0:(0:Int)<=i:=by omega
  by_cases hlt:i<k
  ·have hlt':(i:Int) < k:=by omega
   have hOl:(agN 7 i).length<=343:=by
    rw[ahB];exact Nat.le_trans (Nat.pow_le_pow_right (by decide) (show i<=3 by omega)) (by decide)
   obtain⟨us,hu1,hu2,hu3⟩:=hv1.is;obtain⟨oa,ocap,hov,hoc,hom,hoe⟩:=hu2.is;subst hov;have hnext:agN 7 (i+1)=aho 7 (agN 7 i) (agN 7 i).length:=rfl;have hsu:=fun x hx=>ahx 7 (agN 7 i) (x:=x) hx
   have hTl:=fun x hx=>ahK 7 (agN 7 i) x hx
   have hel:∀ x,x<(agN 7 i).length->((agN 7 i).getD x []).length=i:=fun x hx=>by
    rw[List.getD_eq_getElem?_getD,List.getElem?_eq_getElem hx];exact(ahn.1 (List.getElem_mem hx)).1
   have hz:aho 7 (agN 7 i) 0=[]:=rfl;generalize aho 7 (agN 7 i)=T at hnext hsu hTl hz;generalize agN 7 i=O at hOl hnext hsu hTl hel hu1 hu2 hu3 hoc hoe hv1 |-;clear hv1 hu2;replace hnext:=aj hnext;replace hsu:=aj hsu;replace hel:=aj hel;replace hTl:=aj hTl;replace hu3:=aj hu3;go_wp2_with (fail)
   replace hS:=hS.nilRow 30 1;go_loopw [7,8] (fun nv xv wr=>∃ (x:Nat) (vs:List Value) (V':View),x<=O.length/\xv=.int .i64 (x:Int)/\nv.oneCell'=true/\afM V' vs (T x)/\afV w V1 V'/\St w [] V' [.row nv 30 1 vs.length vs] wr) (fun _ xv _=>O.length-(intOf xv).toNat)
   case atStart=>exact⟨0,[],V1,by omega,rfl,rfl,by rw[hz];exact afM.nil V1,.rfl,hS⟩
   case round =>
    clear hS;obtain⟨x,vs,V2,hx,rfl,hone,hN,hV2,hS⟩:=hrel;have h0x:(0:Int)<=x:=by omega
    by_cases hxl:x<O.length
    ·have hxl':(x:Int) < O.length:=by omega
     obtain⟨og,oo,hoa,hor⟩:=hoe zw;subst hoa;have hcell:=(hor x hxl 0 _ rfl).mono hV2.up;simp only[Nat.mul_one,Nat.add_zero]at hcell;have hvi:=IU (hu3.out x hxl) hV2.up;have hl1:=hel.out x hxl;have hsx:=hsu.out x hxl;have hTx:=hTl.out x zw;generalize us.getD x undef=u at hcell hvi;generalize O.getD x []=l at hvi hl1 hsx;have hrow:=fun m=>ahW l m
     have hrow0:strRow l 0=[]:=rfl;have hRwl:∀ m,(strRow l m).length=m:=fun m=>ahz l m
     generalize strRow l=Rw at hsx hrow hrow0 hRwl;clear hor hoe;replace hsx:=aj hsx;replace hrow:=aj hrow;replace hvi:=aj hvi;replace hRwl:=aj hRwl;go_wp2_with (fail)
     go_loopw [7,9] (fun nv yv wr=>∃ (m:Nat) (vs:List Value) (V':View),m<=7/\yv=.int .i64 (m:Int)/\nv.oneCell'=true/\afM V' vs (T x ++ Rw m)/\afV w V1 V'/\(∀ j o,V2 j=some o->V' j=some o)/\St w [] V' [.row nv 30 1 vs.length vs] wr) (fun _ yv _=>7-(intOf yv).toNat)
     case atStart=>exact⟨0,vs,V2,by omega,rfl,hone,by rw[hrow0,List.append_nil];exact hN,hV2,fun _ _ h=>h,hS.aG⟩
     case round =>
      clear hS hN hone hV2;clear vs;obtain⟨m,vs,V3,hm,rfl,hone,hN,hV3,hV23,hS⟩:=hrel;have h0m:(0:Int)<=m:=by omega
      by_cases hmc:m<7
      ·have hmc':(m:Int) < 7:=by omega
       have hcell3:=hcell.mono hV23;have hvi3:=IU hvi.out hV23;have hrm:=hrow.out m;have hvl:vs.length+1<=10000:=by
        have h1:=hN.len;have h2:=hRwl.out m;rw[List.length_append,h2]at h1;omega
       replace hrm:=aj hrm;replace hN:=aj hN;go_wp2_with (first|(((with_reducible refine gL ?_);refine nC hS rfl rfl rfl ?_);refine⟨_,zd,?_⟩;clear hS;refine zF ?_;intro w' hS)|((with_reducible refine uP ?_);refine rE hS rfl rfl ?_;refine⟨_,zq,zd,?_⟩;clear hS;intro _;refine zF ?_;intro w' hS)|((with_reducible refine Q5 ?_);refine Ui rfl rfl ?_;refine⟨_,_,_,_,by exact rfl,by exact rfl,?_⟩;first|(refine eH hS ⟨rfl,(fun u hu=>by rw[List.mem_singleton]at hu;rw[hu];rfl),zw⟩ ?_;clear hS;intro va w' hS;refine zF ?_;(try simp only[sE]at hS);have hva:=dY hS va;have hva1:=one_one hva)|(refine ahE hS ⟨rfl,hva1,zw⟩ ?_;clear hS;intro vb w' hS;refine zF ?_;(try simp only[sE]at hS);have hvb:=dY hS vb))|(go_at_call 111;refine(ahj hvi3 zw (St.view hS)).mono ?_;rintro _ w1 ⟨u49,rfl,hS1⟩;have hS2:=hS.Nq hS1;simp only[List.cons_append,List.nil_append]at hS2;clear hS hS1;have hS:=hS2;clear hS2;rw[hl1]at hS))
       have hS3:=St.drop (St.drop hS);rw[<- hl1]at hS3;obtain⟨V4,hV4,hS4,hvi4⟩:=agY hS3;clear hS hS3;go_roundw
       case rel=>exact⟨m+1,vs ++ [_],V4,by omega,by go_num,hvb,by rw[hrm.out,<- List.append_assoc];exact(hN.out.mono hV4.up).add hvi4,hV3.trans hV4,(fun j o h=>hV4.up j o (hV23 j o h)),by rw[List.length_append];exact hS4.aG⟩
       case measure=>simp only[intOf];omega
      ·obtain rfl:m=7:=by omega
       replace hN:=aj hN;go_wp2_with (fail)
       go_roundw
       case rel=>exact⟨x+1,vs,V3,by omega,by go_num,hone,by rw[hsx.out];exact hN.out,hV3,hS.aG⟩
       case measure=>simp only[intOf];omega
    ·obtain rfl:x=O.length:=by omega
     replace hN:=aj hN;go_wp2_with (fail)
     obtain⟨V5,hV5,hS5,hvs⟩:=af9 hS;go_roundw
     case rel=>exact⟨i+1,V5,by omega,by go_num,(hV1.trans hV2).trans hV5,by rw[hnext.out];exact(hN.out.mono hV5.up).vll hvs,hS5⟩
     case measure=>simp only[intOf];omega
  ·obtain rfl:i=k:=by omega
   have hvo:=hv1.one;replace hv1:=aj hv1;go_wp2_with (fail)
   (refine yj ?_;refine bK ⟨_,by exact bH (r1:=.tmp 4) zk (by exact bD rfl),?_⟩ rfl)
   exact⟨_,V1,rfl,hV1,hS,hv1.out⟩
end Go.Proofs.YtjjmefieegcddaaDoor
namespace Go.Proofs.YtjjmefieegcddaaDoor
open Go.RowKit Go.Wg Go.Mm
variable {m:Nat} {lv:Value} {l:List Int} {k:Wk}
variable {w:World} {V:View}
def sumTo (l:List Int) (m:Nat):Int:=(l.take m).sum
theorem adJ (l:List Int) (hm:m<l.length):sumTo l (m+1)=sumTo l m+l.getD m 0:=by
 unfold sumTo;rw[List.take_add_one,List.getElem?_eq_getElem hm,List.sum_append];simp[List.getD_eq_getElem?_getD,List.getElem?_eq_getElem hm]
theorem aeE (l:List Int) (h:∀ i,i<l.length->-1000<=l.getD i 0/\l.getD i 0<=1000) (m:Nat) (hm:m<=l.length):-(1000 * (m:Int))<=sumTo l m/\sumTo l m<=1000 * (m:Int):=by
 induction m with
 |zero=>simp[sumTo]
 |succ m ih =>
  rw[adJ l zw];have h1:=ih zw;have h2:=h m zw;omega
theorem adZ (hl:VI V lv l) (hn:l.length<=100) (hb:∀ i,i<l.length->-1000<=l.getD i 0/\l.getD i 0<=1000) (hV:V.In w) :
  Calls Tryd.prog 47 #[lv] w fun e w'=>e=.returned (.int .i64 l.sum)/\Kp w w':=by
 obtain⟨la,lcap,rfl,hlc,hlm,hle⟩:=hl.is;have hS:=St.start w V hV;have hsb:=aeE l hb;have hss:=fun m hm=>adJ l (m:=m) hm
 have hs0:sumTo l 0=0:=by simp[sumTo]
 have hsl:sumTo l l.length=l.sum:=by simp[sumTo]
 generalize sumTo l=F at hsb hss hs0 hsl;clear hl hb;replace hsb:=aj hsb;replace hss:=aj hss;replace hsl:=aj hsl;go_enter Tryd.func47,Tryd.ntmps47
 go_wp2_with (fail)
 go_loopw [3,4] (fun nv iv wr=>∃ i:Nat,i<=l.length/\iv=.int .i64 (i:Int)/\nv=.int .i64 (F i)/\St w [] V [] wr) (fun _ iv _=>l.length-(intOf iv).toNat)
 case atStart=>exact⟨0,by omega,rfl,by rw[hs0],hS⟩
 case round =>
  clear hS;obtain⟨i,hi,rfl,rfl,hS⟩:=hrel;have h0:(0:Int)<=i:=by omega
  by_cases hlt:i<l.length
  ·have hlt':(i:Int) < l.length:=by omega
   obtain⟨lg,lo,rfl,hlr⟩:=hle zw;have hcell:=hlr i hlt 0 _ rfl;simp only[Nat.mul_one,Nat.add_zero]at hcell;have h1:=hss.out i hlt;obtain⟨b1,b2⟩:=hsb.out i zw;obtain⟨b3,b4⟩:=hsb.out (i+1) zw;rw[h1]at b3 b4;generalize l.getD i 0=y at hcell h1 b3 b4;generalize hz:F (i+1)=z at h1;generalize F i=x at h1 b1 b2 b3 b4;clear hle hlr;subst h1;replace hz:=aj hz;go_wp2_with (refine yy ?_;clear hS;intro w' hS)
   go_roundw
   case rel=>exact⟨i+1,by omega,by go_num,by rw[hz.out],hS⟩
   case measure=>simp only[intOf];omega
  ·obtain rfl:i=l.length:=by omega
   go_wp2_with (fail)
   (refine yj ?_;refine bK ⟨_,by exact bH (r1:=.tmp 2) zk (by exact bD rfl),?_⟩ rfl)
   exact⟨by rw[hsl.out],hS.bM⟩
theorem aex {vv rv lv:Value} {k:Wk} {l:List Int} (hk:iJ V vv rv k) (hok:k.Ok) (hl:VI V lv l) (hn:l.length=k.n) (hb:∀ i,i<k.n->0<=l.getD i 0/\l.getD i 0<=100) (hV:V.In w) :
  Calls Tryd.prog 48 #[.agg #[vv,rv],lv] w fun e w'=>e=.returned (.int .i64 (adu k l k.n))/\Kp w w':=by
 obtain⟨la,lcap,rfl,hlc,hlm,hle⟩:=hl.is;have hone:=qB (wO hk.ves) (wO hk.rdg);have hn6:=hok.le;have hS:=St.start w V hV;have hss:=fun m=>ad4 k l m
 have hsb:∀ m,m<=k.n->0<=adu k l m/\adu k l m<=100 * (m:Int):=fun m=>by
  induction m with
  |zero=>simp[adu]
  |succ m ih =>
   intro hm;rw[hss];have h1:=ih zw;have h2:=hb m zw;split<;>omega
 have hs0:adu k l 0=0:=by simp[adu]
 rw[hn]at hlc hle |-;generalize adu k l=F at hsb hss hs0;clear hl;replace hsb:=aj hsb;replace hss:=aj hss;replace hb:=aj hb;go_enter Tryd.func48,Tryd.ntmps48
 go_wp2_with (refine yb 2 ?_;clear hS;intro b2 w' hS)
 go_loopw [5,6] (fun nv iv wr=>∃ i:Nat,i<=k.n/\iv=.int .i64 (i:Int)/\nv=.int .i64 (F i)/\St w [] V [.blk b2 25 [vv,rv]] wr) (fun _ iv _=>k.n-(intOf iv).toNat)
 case atStart=>exact⟨0,by omega,rfl,by rw[hs0],hS.aG⟩
 case round =>
  clear hS;obtain⟨i,hi,rfl,rfl,hS⟩:=hrel;have h0:(0:Int)<=i:=by omega
  by_cases hlt:i<k.n
  ·have hlt':(i:Int) < k.n:=by omega
   obtain⟨lg,lo,rfl,hlr⟩:=hle zw;have hcell:=hlr i hlt 0 _ rfl;simp only[Nat.mul_one,Nat.add_zero]at hcell;have h1:=hss.out i;obtain⟨b1,b2⟩:=hsb.out i zw;obtain⟨b3,b4⟩:=hb.out i hlt;have hfl:(adt k i k.n).length=(k.fills i).length:=by rw[adI,List.length_map]
   have hfn:(adt k i k.n).length<=k.n:=adL k i k.n;generalize l.getD i 0=y at hcell h1 b3 b4;have hFi:F (i+1)=F i+if k.fills i=[] then y else 0:=h1
   generalize F i=x at h1 b1 b2 hFi;clear hle hlr h1;by_cases hf:k.fills i=[]
   ·rw [if_pos hf] at hFi;have hF0:(adt k i k.n).length=0:=by rw [hfl,hf];rfl
    clear hfl hfn hf;replace hF0:=aj hF0;replace hFi:=aj hFi;go_wp2_with (first|(refine yy ?_;clear hS;intro w' hS)|(go_at_call 36;refine adD hS (adK hk i (St.view hS)) ?_;clear hS;intro V4 v4 w' hV4 hv4 hone4 hS;replace hS:=hS.weaken hV4;obtain⟨fa,fcap,hfv,hfc,hfm,hfe⟩:=hv4.is;rw[hF0.out]at hfv;subst hfv;clear hv4 hfe hV4 hone4 hfc hfm))
    go_roundw
    case rel=>exact⟨i+1,by omega,by go_num,by rw[hFi.out],hS⟩
    case measure=>simp only[intOf];omega
   ·rw [if_neg hf,Int.add_zero] at hFi;obtain ⟨c,hF0⟩:∃ c,(adt k i k.n).length=c+1:=⟨(adt k i k.n).length - 1,by have:=List.length_pos_iff.2 hf;omega⟩;have hc6:c<=6:=by omega
    have hc0:(((c+1:Nat):Int) == 0)=false:=by rw[beq_eq_false_iff_ne];omega
    clear hfl hfn hf;replace hF0:=aj hF0;replace hFi:=aj hFi;go_wp2_with (first|(refine yy ?_;clear hS;intro w' hS)|(go_at_call 36;refine adD hS (adK hk i (St.view hS)) ?_;clear hS;intro V4 v4 w' hV4 hv4 hone4 hS;replace hS:=hS.weaken hV4;obtain⟨fa,fcap,hfv,hfc,hfm,hfe⟩:=hv4.is;rw[hF0.out]at hfv;subst hfv;clear hv4 hfe hV4 hone4 hfc hfm))
    go_roundw
    case rel=>exact⟨i+1,by omega,by go_num,by rw[hFi.out],hS⟩
    case measure=>simp only[intOf];omega
  ·obtain rfl:i=k.n:=by omega
   go_wp2_with (fail)
   (refine yj ?_;refine bK ⟨_,by exact bH (r1:=.tmp 4) zk (by exact bD rfl),?_⟩ rfl)
   exact⟨rfl,hS.bM⟩
def aeJ (k:Wk) (l:List Int) (m:Nat):List Int:=(List.range k.n).map fun j=>if j<m then adx k l j else 0
theorem ad7 (k:Wk) (l:List Int):aeJ k l 0=List.replicate k.n 0:=by
 unfold aeJ;refine List.ext_getElem (by simp) fun j h1 h2=>by simp
theorem aeb (k:Wk) (l:List Int):aeJ k l k.n=ads k l:=by
 unfold aeJ ads;exact List.map_congr_left fun j hj=>if_pos (List.mem_range.1 hj)
theorem aeg (k:Wk) (l:List Int) (m:Nat):(aeJ k l m).length=k.n:=by simp[aeJ]
theorem aef (k:Wk) (l:List Int) (hm:m<k.n):(aeJ k l m).set m (adx k l m)=aeJ k l (m+1):=by
 refine List.ext_getElem (by simp[aeJ]) fun j h1 h2=>?_
 simp only[aeJ,List.length_map,List.length_range]at h2;rw[List.getElem_set];simp only[aeJ,List.getElem_map,List.getElem_range];by_cases e:m=j
 ·subst e;simp
 ·rw [if_neg e];by_cases h:j < m
  ·rw[if_pos h,if_pos zw]
  ·rw[if_neg h,if_neg zw]
theorem ad1 (k:Wk) (l:List Int) (h0:k.fills m=[]):aeJ k l m=aeJ k l (m+1):=by
 unfold aeJ;refine List.map_congr_left fun j _=>?_
 by_cases h:j<m
 ·rw[if_pos h,if_pos zw]
 ·rw [if_neg h];by_cases e:j=m
  ·subst e;rw[if_pos zw];unfold adx;rw[if_pos h0]
  ·rw[if_neg zw]
def adz (k:Wk) (l:List Int) (i q:Nat):Int:=l.getD i 0-(((k.fills i).take q).map fun x=>l.getD x 0).sum
theorem adH (k:Wk) (l:List Int) (i:Nat) {q:Nat} (hq:q<(k.fills i).length):adz k l i (q+1)=adz k l i q-l.getD ((k.fills i).getD q 0) 0:=by
 unfold adz;rw[List.take_add_one,List.getElem?_eq_getElem hq,List.map_append,List.sum_append];simp[List.getD_eq_getElem?_getD,List.getElem?_eq_getElem hq];omega
theorem ael {k:Wk} {l:List Int} (hb:∀ i,i<k.n->0<=l.getD i 0/\l.getD i 0<=100) {i:Nat} (hi:i<k.n) (q:Nat) (hq:q<=(k.fills i).length):-(100 * (q:Int))<=adz k l i q/\adz k l i q<=100:=by
 induction q with
 |zero =>
  have:=hb i hi;have e:adz k l i 0=l.getD i 0:=by simp[adz]
  rw[e];omega
 |succ q ih =>
  have h1:=ih zw;have h2:=hb ((k.fills i).getD q 0) (gK.1 (by rw[List.getD_eq_getElem?_getD,List.getElem?_eq_getElem zw];exact List.getElem_mem zw)).1;rw[adH k l i zw];omega
theorem ad8 {i:Nat} (h:k.fills i≠[]):adz k l i (k.fills i).length=adx k l i:=by
 unfold adz adx;rw[List.take_length,if_neg h]
theorem aeC {vv rv:Value} (hk:iJ V vv rv k) (hok:k.Ok) (hl:VI V lv l) (hn:l.length=k.n) (hb:∀ i,i < k.n->0<=l.getD i 0/\l.getD i 0<=100) (hV:V.In w) :
  Calls Tryd.prog 44 #[.agg #[vv,rv],lv] w fun e w'=>(Truth k l/\∃ v,e=.returned (.tuple #[v,.bool true])/\St w [] V [.row v 3 1 k.n (aV (ads k l))] w')\/(¬ Truth k l/\e=.returned (.tuple #[.slice none 0 0,.bool false])/\Kp w w'):=by
 obtain⟨la,lcap,rfl,hlc,hlm,hle⟩:=hl.is;obtain⟨va,vcap,rfl,hvc,hvm,hve⟩:=hk.ves.is;obtain⟨ra,rcap,rfl,hrc,hrm,hre⟩:=hk.rdg.is;have hn6:=hok.le;have hr6:=hok.rdl;have hpos:=hok.pos;obtain⟨vg,vo,rfl,hvr⟩:=hve hpos;rw[hn]at hlc hle |-;obtain⟨lg,lo,rfl,hlr⟩:=hle hpos;have hlx:∀ x,x<k.n->V.Cell lg (lo+x) (.int .i64 (l.getD x 0)):=fun x hx=>by
  have:=hlr x hx 0 _ rfl;simpa only[Nat.mul_one,Nat.add_zero]using this
 have hT:=ad2 (k:=k) hn;have hS:=St.start w V hV;clear hl hve hlr hle;replace hb:=aj hb;replace hT:=aj hT;replace hlx:=aj hlx;go_enter Tryd.func44,Tryd.ntmps44
 go_wp2_with (first|(refine yy ?_;clear hS;intro w' hS)|(refine yb 2 ?_;clear hS;intro b2 w' hS)|((with_reducible refine gMk ?_);refine U6 23 rfl hS rfl rfl rfl rfl zw ?_;clear hS;intro b23;refine zF ?_;intro w' hS))
 have hz:=ad7 k l;have hll:=aeg k l;have hhit:=fun m hm=>aef k l (m:=m) hm
 have hmis:=fun m hm=>ad1 k l (m:=m) hm
 have hall:=aeb k l;rw[<- hz]at hS;generalize aeJ k l=LT at hS hz hll hhit hmis hall;clear hz;replace hll:=aj hll;replace hhit:=aj hhit;replace hmis:=aj hmis;replace hall:=aj hall;go_loopw [7] (fun iv wr=>∃ i:Nat,i<=k.n/\iv=.int .i64 (i:Int)/\(∀ j,j<i->okV k l j)/\St w [] V [.blk b23 3 (aV (LT i)),.blk b2 25 [.slice (some ⟨vg,vo,none⟩) k.n vcap,.slice ra k.rdg.length rcap]] wr) (fun iv _=>k.n-(intOf iv).toNat)
 case atStart=>exact⟨0,by omega,rfl,(fun j hj=>absurd hj zw),hS⟩
 case round =>
  clear hS;obtain⟨i,hi,rfl,hgo,hS⟩:=hrel;have h0:(0:Int)<=i:=by omega
  by_cases hlt:i<k.n
  ·have hlt':(i:Int) < k.n:=by omega
   have hcell:=hlx.out i hlt;have hcv:=hvr i hlt;have hcl:(k.v i).cells.length=4:=rfl;have hvi:=hok.ves i hlt;obtain⟨y1,y2⟩:=hb.out i hlt;have hlN:(aV (LT i)).length=k.n:=by rw[iD,hll.out]
   have hst:=hhit.out i hlt;have hmi:=hmis.out i;have hfl:=adI k i;have hfn:=wL k i;have hfg:∀ q,q<(k.fills i).length->(k.fills i).getD q 0<k.n:=fun q hq=>(rV hok (i:=i) (by rw[List.getD_eq_getElem?_getD,List.getElem?_eq_getElem hq];exact List.getElem_mem hq)).2
   have hls:=fun q hq=>adH k l i (q:=q) hq
   have hlb:=fun q hq=>ael hb.out hlt q hq
   have hla:=ad8 (k:=k) (l:=l) (i:=i);have hl0:adz k l i 0=l.getD i 0:=by simp[adz]
   have hyes:(0<=l.getD i 0/\l.getD i 0<=(k.v i).room)->(k.fills i≠[]->(k.v i).lo<=adx k l i/\adx k l i<=(k.v i).hi)->∀ j,j<i+1->okV k l j:=fun a b j hj=>by
    rcases Nat.lt_succ_iff_lt_or_eq.1 hj with hj|rfl
    ·exact hgo j hj
    ·exact⟨a,b⟩
   have hnoT:¬ ((0<=l.getD i 0/\l.getD i 0<=(k.v i).room)/\(k.fills i≠[]->(k.v i).lo<=adx k l i/\adx k l i<=(k.v i).hi))->¬ Truth k l:=fun h hh=>h ((hT.out.1 hh).1 i hlt)
   obtain⟨F,hF⟩:∃ F,k.fills i=F:=⟨_,rfl⟩;have hFn:k.fills i=[]↔F.length=0:=by rw[hF,List.length_eq_zero_iff]
   rw[hF]at hfl hfn hfg hls hlb hla hyes hnoT hmi;have hFl:(adt k i k.n).length=F.length:=by rw[hfl,List.length_map]
   have hFi:∀ q,q<F.length->(adt k i k.n).getD q 0=((F.getD q 0:Nat):Int):=fun q hq=>by
    rw[hfl];simp[List.getD_eq_getElem?_getD,List.getElem?_eq_getElem hq]
   unfold nN.cells at hcv hcl;generalize hro:(k.v i).room=ro at hcv hcl hyes hnoT;generalize hlo:(k.v i).lo=lo' at hcv hcl hyes hnoT;generalize hhi:(k.v i).hi=hi' at hcv hcl hyes hnoT;generalize (k.v i).from_=f at hcv hcl;generalize adz k l i=D at hls hlb hla hl0;generalize adx k l i=n at hst hla hyes hnoT;generalize hy:l.getD i 0=y at hcell y1 y2 hl0 hyes hnoT;have hvi':0<=ro/\ro<=40/\0<=lo'/\lo'<=20/\0<=hi'/\hi'<=20:=by
    obtain⟨_,_,o3,o4,o5,o6,o7,o8,_⟩:=hvi;omega
   clear hvi hro hlo hhi hgo hF hy;replace hls:=aj hls;replace hlb:=aj hlb;replace hyes:=aj hyes;replace hnoT:=aj hnoT;replace hFi:=aj hFi;replace hfg:=aj hfg;replace hFn:=aj hFn;replace hst:=aj hst;replace hmi:=aj hmi;replace hla:=aj hla;have hdy:decide (y<0)=false:=decide_eq_false zw;by_cases hr:y<=ro
   ·have hdr:decide (ro < y)=false:=decide_eq_false zw;have hno:=hnoT;clear hnoT;go_wp2_with (first | (refine ym ?_;clear hS;intro w' hS) | (refine ys ?_;clear hS;intro w' hS) | (refine ya 8 ?_;clear hS;intro b8 w' hS))
    (refine bF (S:=(St w [] V [.blk b8 29 [.int .i64 f,.int .i64 ro,.int .i64 lo',.int .i64 hi'],.blk b23 3 (aV (LT i)),.blk b2 25 [.slice (some ⟨vg,vo,none⟩) k.n vcap,.slice ra k.rdg.length rcap]])) (List.replicate 14 false) rfl zk ?_;replace hS:=St.eY hS;(refine yh [.m 0,.m 1,.p 2,.c 3,.p 4,.m 5,.m 6,.m 7,.p 8,.c 9,.p 10,.a 11,.p 12,.p 13] ?_);refine wpAnyH_done zk ?_ _)
    go_wp2_with (first|(refine yy ?_;clear hS;intro w' hS)|(go_at_call 36;refine adD hS (adK hk i (St.view hS)) ?_;clear hS;intro V4 v4 w' hV4 hv4 hone4 hS;have hcell4:=hcell.mono hV4))
    obtain⟨fa,fcap,hfv,hfc,hfm,hfe⟩:=hv4.is;subst hfv;rw[hFl]at hfe hfc;have hlx4:∀ x,x<k.n->V4.Cell lg (lo+x) (.int .i64 (l.getD x 0)):=fun x hx=>(hlx.out x hx).mono hV4
    replace hlx4:=aj hlx4;rw[hFl];go_loopw [10,11] (fun nv qv wr=>∃ q:Nat,q<=F.length/\qv=.int .i64 (q:Int)/\nv=.int .i64 (D q)/\St w [] V4 [.blk b8 29 [.int .i64 f,.int .i64 ro,.int .i64 lo',.int .i64 hi'],.blk b23 3 (aV (LT i)),.blk b2 25 [.slice (some ⟨vg,vo,none⟩) k.n vcap,.slice ra k.rdg.length rcap]] wr) (fun _ qv _=>F.length-(intOf qv).toNat)
    case atStart=>exact⟨0,by omega,rfl,by rw[hl0],hS⟩
    case round =>
     clear hS;obtain⟨q,hq,rfl,rfl,hS⟩:=hrel;have h0q:(0:Int)<=q:=by omega
     by_cases hql:q<F.length
     ·have hql':(q:Int) < F.length:=by omega
      obtain⟨fg,fo,hfa,hfr⟩:=hfe zw;subst hfa;have hcf:=hfr q hql 0 _ rfl;simp only[Nat.mul_one,Nat.add_zero]at hcf;rw[hFi.out q hql]at hcf;have hx:=hfg.out q hql;have hsq:=hls.out q hql;obtain⟨c1,c2⟩:=hlb.out q zw;obtain⟨c3,c4⟩:=hlb.out (q+1) zw;generalize F.getD q 0=x at hcf hx hsq;have hcx:=hlx4.out x hx;generalize l.getD x 0=z at hcx hsq;rw[hsq]at c3 c4;have hx0:(0:Int)<=x:=by omega
      have hxk:(x:Int)<k.n:=by omega
      replace hsq:=aj hsq;clear hfe hfr hv4;go_wp2_with (refine yy ?_;clear hS;intro w' hS)
      go_roundw
      case rel=>exact⟨q+1,by omega,by go_num,by rw[hsq.out],hS⟩
      case measure=>simp only[intOf];omega
     ·obtain rfl:q=F.length:=by omega
      clear hfe hv4;rcases Nat.eq_zero_or_pos F.length with hz|hp
      ·have hdz:decide ((0:Int) < (F.length:Int))=false:=decide_eq_false zw;have hok1:=hyes.out ⟨y1,hr⟩ fun h=>absurd (List.length_eq_zero_iff.1 hz) h
       have hmi':=hmi.out (List.length_eq_zero_iff.1 hz);clear hls hlb hFi hfg hFn hst hmi hla hyes;replace hok1:=aj hok1;replace hmi':=aj hmi';go_wp2_with (fail)
       go_roundw
       case rel=>exact⟨i+1,by omega,by go_num,hok1.out,by rw[<- hmi'.out];exact(hS.weaken hV4).aG⟩
       case measure=>simp only[intOf];omega
      ·have hdz:decide ((0:Int) < (F.length:Int))=true:=decide_eq_true zw;have hne:F≠[]:=List.ne_nil_of_length_pos hp;have hD:=hla.out hne;obtain ⟨c1,c2⟩:=hlb.out F.length zw;rw [hD] at c1 c2 |-;have hok1:=fun h=>hyes.out ⟨y1,hr⟩ fun _=>h
       have hno1:¬ (lo'<=n/\n<=hi')->¬ Truth k l:=fun h=>hno.out fun hh=>h (hh.2 hne)
       clear hls hlb hFi hfg hFn hmi hla hyes hno;replace hok1:=aj hok1;replace hno1:=aj hno1;replace hst:=aj hst;by_cases h1:n<lo'
       ·have hd1:decide (n < lo')=true:=decide_eq_true h1;have hnt:=hno1.out zw;replace hnt:=aj hnt;go_wp2_with (refine yy ?_;clear hS;intro w' hS)
        (refine yj ?_;refine bK ⟨_,by exact dA (r1:=.tmp 4) (r2:=.tmp 5) zk (by exact bD rfl) (by exact bD rfl),?_⟩ rfl)
        exact .inr ⟨hnt.out,rfl,hS.bM⟩
       ·have hd1:decide (n < lo')=false:=decide_eq_false h1;by_cases h2:hi' < n
        ·have hd2:decide (hi' < n)=true:=decide_eq_true h2;have hnt:=hno1.out zw;replace hnt:=aj hnt;go_wp2_with (refine yy ?_;clear hS;intro w' hS)
         (refine yj ?_;refine bK ⟨_,by exact dA (r1:=.tmp 4) (r2:=.tmp 5) zk (by exact bD rfl) (by exact bD rfl),?_⟩ rfl)
         exact .inr ⟨hnt.out,rfl,hS.bM⟩
        ·have hd2:decide (hi' < n)=false:=decide_eq_false h2;have hok2:=hok1.out ⟨by omega,by omega⟩;replace hok2:=aj hok2;go_wp2_with (first | (refine ym ?_;clear hS;intro w' hS;try (simp only [jJ] at hS)) | (refine ys ?_;clear hS;intro w' hS;try (simp only [jJ] at hS)))
         go_roundw
         case rel =>
          rw[hst.out]at hS;exact⟨i+1,by omega,by go_num,hok2.out,(hS.weaken hV4).aG⟩
         case measure=>simp only[intOf];omega
   ·have hdr:decide (ro < y)=true:=decide_eq_true zw;have hno:=hnoT.out fun h=>hr h.1.2
    clear hyes hnoT hls hlb hFi hfg hFn hst hmi hla;replace hno:=aj hno;go_wp2_with (first|(refine ym ?_;clear hS;intro w' hS)|(refine ys ?_;clear hS;intro w' hS)|(refine ya 8 ?_;clear hS;intro b8 w' hS))
    (refine bF (S:=(St w [] V [.blk b8 29 [.int .i64 f,.int .i64 ro,.int .i64 lo',.int .i64 hi'],.blk b23 3 (aV (LT i)),.blk b2 25 [.slice (some ⟨vg,vo,none⟩) k.n vcap,.slice ra k.rdg.length rcap]])) (List.replicate 14 false) rfl zk ?_;replace hS:=St.eY hS;(refine yh [.m 0,.m 1,.p 2,.c 3,.p 4,.m 5,.m 6,.m 7,.p 8,.c 9,.p 10,.a 11,.p 12,.p 13] ?_);refine wpAnyH_done zk ?_ _)
    go_wp2_with (fail)
    (refine yj ?_;refine bK ⟨_,by exact dA (r1:=.tmp 4) (r2:=.tmp 5) zk (by exact bD rfl) (by exact bD rfl),?_⟩ rfl)
    exact .inr ⟨hno.out,rfl,hS.bM⟩
  ·obtain rfl:i=k.n:=by omega
   rw[hall.out]at hS;have hmem:∀ q,q<k.rdg.length->k.rdg.getD q default∈k.rdg:=fun q hq=>by
    rw[List.getD_eq_getElem?_getD,List.getElem?_eq_getElem hq];exact List.getElem_mem hq
   replace hmem:=aj hmem;go_wp2_with (fail)
   go_loopw [12] (fun iv wr=>∃ q:Nat,q<=k.rdg.length/\iv=.int .i64 (q:Int)/\(∀ j,j<q->okR l (k.rdg.getD j default))/\St w [] V [.blk b23 3 (aV (ads k l)),.blk b2 25 [.slice (some ⟨vg,vo,none⟩) k.n vcap,.slice ra k.rdg.length rcap]] wr) (fun iv _=>k.rdg.length-(intOf iv).toNat)
   case atStart=>exact⟨0,by omega,rfl,(fun j hj=>absurd hj zw),hS⟩
   case round =>
    clear hS;obtain⟨q,hq,rfl,hgr,hS⟩:=hrel;have h0q:(0:Int)<=q:=by omega
    by_cases hlt:q<k.rdg.length
    ·have hlt':(q:Int) < k.rdg.length:=by omega
     obtain⟨rg,rx,rfl,hrr⟩:=hre zw;have hcr:=hrr q hlt;have hcl:(k.rdg.getD q default).cells.length=4:=rfl;have hrok:=hok.rdg q hlt;have hyes:okR l (k.rdg.getD q default)->∀ j,j<q+1->okR l (k.rdg.getD j default):=fun h j hj=>by
      rcases Nat.lt_succ_iff_lt_or_eq.1 hj with hj|rfl
      ·exact hgr j hj
      ·exact h
     have hnoT:¬ okR l (k.rdg.getD q default)->¬ Truth k l:=fun h hh=>h ((hT.out.1 hh).2 _ (hmem.out q hlt))
     unfold je.Ok at hrok;unfold je.cells at hcr hcl;have hyes':(-(k.rdg.getD q default).err<=l.getD (k.rdg.getD q default).vessel.toNat 0-(k.rdg.getD q default).shown/\l.getD (k.rdg.getD q default).vessel.toNat 0-(k.rdg.getD q default).shown<=(k.rdg.getD q default).err)->∀ j,j<q+1->okR l (k.rdg.getD j default):=hyes;have hnoT':¬ (-(k.rdg.getD q default).err<=l.getD (k.rdg.getD q default).vessel.toNat 0-(k.rdg.getD q default).shown/\l.getD (k.rdg.getD q default).vessel.toNat 0-(k.rdg.getD q default).shown<=(k.rdg.getD q default).err)->¬ Truth k l:=hnoT;clear hyes hnoT hgr;obtain⟨r1,r2,r3,r4,r5,r6,r7,r8⟩:=hrok;generalize hP:(∀ j,j<q+1->okR l (k.rdg.getD j default))=P at hyes';generalize (k.rdg.getD q default).vessel=f at hcr hcl hyes' hnoT' r1 r2;generalize (k.rdg.getD q default).scale=sc at hcr hcl r3 r4;generalize (k.rdg.getD q default).shown=sh at hcr hcl hyes' hnoT' r5 r6;generalize (k.rdg.getD q default).err=er at hcr hcl hyes' hnoT' r7 r8;obtain⟨x,rfl⟩:∃ x:Nat,f=(x:Int):=⟨f.toNat,by omega⟩;rw[Int.toNat_natCast]at hyes' hnoT';have hcx:=hlx.out x zw;obtain⟨y1,y2⟩:=hb.out x zw;generalize l.getD x 0=y at hcx y1 y2 hyes' hnoT';clear hrr;replace hyes':=aj hyes';replace hnoT':=aj hnoT';replace hP:=aj hP;replace hgo:=aj hgo;by_cases h1:y-sh < -er
     ·have hd1:decide (y - sh < -er)=true:=decide_eq_true h1;have hnt:=hnoT'.out zw;replace hnt:=aj hnt;go_wp2_with (first | (refine ym ?_;clear hS;intro w' hS) | (refine ys ?_;clear hS;intro w' hS) | (refine ya 13 ?_;clear hS;intro b13 w' hS))
      (refine bF (S:=(St w [] V [.blk b13 59 [.int .i64 (x:Int),.int .i64 sc,.int .i64 sh,.int .i64 er],.blk b23 3 (aV (ads k l)),.blk b2 25 [.slice (some ⟨vg,vo,none⟩) k.n vcap,.slice (some ⟨rg,rx,none⟩) k.rdg.length rcap]])) (List.replicate 9 false) rfl zk ?_;replace hS:=St.eY hS;(refine yh [.m 0,.p 1,.a 2,.p 3,.c 4,.p 5,.a 6,.p 7,.p 8] ?_);refine wpAnyH_done zk ?_ _)
      go_wp2_with (refine yy ?_;clear hS;intro w' hS)
      (refine yj ?_;refine bK ⟨_,by exact dA (r1:=.tmp 4) (r2:=.tmp 5) zk (by exact bD rfl) (by exact bD rfl),?_⟩ rfl)
      exact .inr ⟨hnt.out,rfl,hS.bM⟩
     ·have hd1:decide (y - sh < -er)=false:=decide_eq_false h1;by_cases h2:er < y - sh
      ·have hd2:decide (er < y - sh)=true:=decide_eq_true h2;have hnt:=hnoT'.out zw;replace hnt:=aj hnt;go_wp2_with (first | (refine ym ?_;clear hS;intro w' hS) | (refine ys ?_;clear hS;intro w' hS) | (refine ya 13 ?_;clear hS;intro b13 w' hS))
       (refine bF (S:=(St w [] V [.blk b13 59 [.int .i64 (x:Int),.int .i64 sc,.int .i64 sh,.int .i64 er],.blk b23 3 (aV (ads k l)),.blk b2 25 [.slice (some ⟨vg,vo,none⟩) k.n vcap,.slice (some ⟨rg,rx,none⟩) k.rdg.length rcap]])) (List.replicate 9 false) rfl zk ?_;replace hS:=St.eY hS;(refine yh [.m 0,.p 1,.a 2,.p 3,.c 4,.p 5,.a 6,.p 7,.p 8] ?_);refine wpAnyH_done zk ?_ _)
       go_wp2_with (refine yy ?_;clear hS;intro w' hS)
       (refine yj ?_;refine bK ⟨_,by exact dA (r1:=.tmp 4) (r2:=.tmp 5) zk (by exact bD rfl) (by exact bD rfl),?_⟩ rfl)
       exact .inr ⟨hnt.out,rfl,hS.bM⟩
      ·have hd2:decide (er < y - sh)=false:=decide_eq_false h2;have hyt:=hyes'.out zw;rw [<- hP.out] at hyt;replace hyt:=aj hyt;go_wp2_with (first | (refine ym ?_;clear hS;intro w' hS) | (refine ys ?_;clear hS;intro w' hS) | (refine ya 13 ?_;clear hS;intro b13 w' hS))
       (refine bF (S:=(St w [] V [.blk b13 59 [.int .i64 (x:Int),.int .i64 sc,.int .i64 sh,.int .i64 er],.blk b23 3 (aV (ads k l)),.blk b2 25 [.slice (some ⟨vg,vo,none⟩) k.n vcap,.slice (some ⟨rg,rx,none⟩) k.rdg.length rcap]])) (List.replicate 9 false) rfl zk ?_;replace hS:=St.eY hS;(refine yh [.m 0,.p 1,.a 2,.p 3,.c 4,.p 5,.a 6,.p 7,.p 8] ?_);refine wpAnyH_done zk ?_ _)
       go_wp2_with (refine yy ?_;clear hS;intro w' hS)
       go_roundw
       case rel=>exact⟨q+1,by omega,by go_num,hyt.out,hS.aG⟩
       case measure=>simp only[intOf];omega
    ·obtain rfl:q=k.rdg.length:=by omega
     have htr:=hT.out.2 ⟨hgo,fun r hr=>by
      obtain⟨j,hj,rfl⟩:=List.getElem_of_mem hr;have:=hgr j hj
      rwa [List.getD_eq_getElem?_getD,List.getElem?_eq_getElem hj]at this⟩
     clear hgr hgo;replace htr:=aj htr;go_wp2_with (refine yy ?_;clear hS;intro w' hS)
     (refine yj ?_;refine bK ⟨_,by exact dA (r1:=.tmp 4) (r2:=.tmp 5) zk (by exact bD rfl) (by exact bD rfl),?_⟩ rfl)
     refine .inl ⟨htr.out,_,rfl,?_⟩;have h2:=XT (n:=k.n) (cap:=k.n) (xs:=aV (ads k l)) (pad:=[]) (s:=1) (by rw[List.append_nil];exact hS) (Nat.le_refl _) (Nat.le_trans hn6 (by decide)) (by rw[iD,adA,Nat.mul_one]) (by rw[List.append_nil,iD,adA,Nat.mul_one]) (fun c hc=>nomatch hc);exact h2.aG
end Go.Proofs.YtjjmefieegcddaaDoor
