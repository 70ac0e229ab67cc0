/- A part of the proof: W53, W54, W55, W67, W68, W69, W70, W82, W85, Q9, W107, W108, S30, S31, S35, S37, W112, W99, W100, W113, W114, T29, W89, S32. -/
import Derived.Test.YtjjmefieegcddaaDoorL14
import Derived.Test.YtjjmefieegcddaaDoorL11
import Derived.BigGuard
import Derived.Test.YtjjmefieegcddaaDoorL09
import Derived.Test.YtjjmefieegcddaaDoorL08
set_option linter.unusedVariables false
set_option linter.unusedSimpArgs false
set_option maxHeartbeats 8000000
set_option maxRecDepth 20000
namespace Go.Proofs.YtjjmefieegcddaaDoor
open Go.RowKit Go.Wg Go.Mm Go.Wk
open Go Go.Sr Go.Ph Go.Tm Go.Conc
section
variable {V:View} {w0 w:World} {p:Nat} {k:Wk} {D:List Nat} {b6 b8:Nat} {s:SS} {b:Frame} {cs:List Frame} {Q:Goroutine->World->Prop}
theorem outer (hX:NX V p k D b8 s) (hok:k.Ok) (hs:s.WF) (hlo:∀ i,0<=(s.aP i).1) (hhi:∀ i,(s.aP i).2<=1000) (err:Int) (he0:0<=err) (he9:err<=9) (hbf:b.fn=43) (hbk:b.kind=.normal)
  (hend:∀ w f v11 v12 v13 v14 v15,N1 w0 V b6 w->ay OC w->kU Tryd.prog (G (b.at ⟨kH (.int .i64 err) (ptr b6) (ptr p) (ptr b8) (.int .i64 (fM k s err k.n).1) (.int .i64 (fM k s err k.n).2) v11 v12 v13 v14 v15 (.int .i64 k.n) (.int .i64 k.n) f,[dC b6]⟩ jO) cs) w Q) :
  ∀ (m i:Nat),i+m=k.n->∀ w f v11 v12 v13 v14 v15,N1 w0 V b6 w->ay OC w ->
   kU Tryd.prog (G (b.at ⟨kH (.int .i64 err) (ptr b6) (ptr p) (ptr b8) (.int .i64 (fM k s err i).1) (.int .i64 (fM k s err i).2) v11 v12 v13 v14 v15 (.int .i64 k.n) (.int .i64 i) f,[dC b6]⟩ jO) cs) w Q:=by
 have hn6:k.n<=6:=hok.le
 intro m
 induction m with
 |zero =>
  intro i hi w f v11 v12 v13 v14 v15 hN hh
  obtain rfl:i=k.n:=by omega
  exact hend w f v11 v12 v13 v14 v15 hN hh
 | succ m ih =>
  intro i hi w f v11 v12 v13 v14 v15 hN hh
  have hlt:i<k.n:=by omega
  have hwb:=qE k s i 41 (Nat.le_refl _)
  rw[show bZ k s i 41=aO k s i from rfl]at hwb
  have ihc:=ih (i+1) (by omega)
  have hB:fM k s err (i+1)=if qK k s i err<(fM k s err i).2 then((i:Int),qK k s i err) else fM k s err i:=rfl
  refine vI (tgt:=iH) hbf hbk Ah (CB b6 rfl) hh (S:=fun a w'=>∃ mb b14,(∃ f,a=⟨kH (.int .i64 err) (ptr b6) (ptr p) (ptr b8) (.int .i64 (fM k s err i).1) (.int .i64 (fM k s err i).2) (.int .i64 i) (.int .i64 0) (.map (some mb)) (ptr b14) (.int .i64 ((aO k s i).1-err)) (.int .i64 k.n) (.int .i64 i) f,[dC b6]⟩) /\
    Kp w w'/\jk w' mb 0 []/\w.heap.size<=mb/\w.heap.size<=b14/\w'.heap[b14]? = some (.cells #[.int .i64 (aO k s i).1,.int .i64 (aO k s i).2] 27 (0,0)))
   (fun a w' τ d ⟨mb,b14,h1,h2,h3,h4⟩=>⟨mb,b14,h1,adC h2 τ d,yJ h3 τ d,h4⟩) (fun τ d=>?_) ?_
  ·refine (GK (w:=w.re τ d) hX hs err he0 he9 i hlt (ptr b6) _ _ v11 v12 v13 v14 v15 f hN.vin).mono ?_
   rintro a w' ⟨mb,b14,h1,h2,h3,h4⟩
   exact⟨mb,b14,h1,uq h2,h3,h4⟩
  ·rintro a w1 ⟨mb,b14,⟨f1,rfl⟩,hk1,hm1,lm,l14,h14⟩ hh1
   have hN1:=hN.step hk1
   have h6lt:=lt_of_heap hN.e6
   have hVn:∀ {j:Nat},w.heap.size<=j->V j=none:=fun {j} hj=>by
    cases hv:V j with
    |none=>rfl
    |some o =>
     have:=lt_of_heap (hN.vin j o hv)
     omega
   have hne:mb≠b14:=by
    rintro rfl
    obtain⟨es,cl,ho⟩:=hm1.obj
    rw[h14]at ho
    cases ho
   obtain⟨V2,hVV,hV14,hVo,hN2⟩:=hN1.more h14 (by omega) (hVn l14)
   have hr14:V2.Range b14 0 [.int .i64 (aO k s i).1,.int .i64 (aO k s i).2]:=fun j v hj=>⟨_,_,_,hV14,by rw[Nat.zero_add];simpa using hj⟩
   have hin:=inner (b:=b) (cs:=cs) (Q:=Q) (w0:=w0) (b6:=b6) (hX.mono hVV) hok hs hlo hhi err he0 he9 i hlt b14 mb hbf hbk (.int .i64 (fM k s err i).1) (.int .i64 (fM k s err i).2) (fun w2 f2 sh hN3 hr3 hsh hh2=>?_) (Ia (aO k s i) err) 0 (by omega) w1 f1
    ⟨hN2,hr14,⟨0,Nat.le_refl _,hm1⟩,Nat.le_trans hN.kp.size lm,(hVo mb hne).trans (hVn lm),by omega⟩ hh1
   ·have e0:(aO k s i).1 - err+((0:Nat):Int)=(aO k s i).1 - err:=by omega
    rw[e0]at hin
    exact hin
   ·have hback:N1 w0 V b6 w2->N1 w0 V b6 w2:=id
    have hN4:N1 w0 V b6 w2:=⟨hN3.kp,fun j u hj=>hN3.vin j u (hVV j u hj),hN3.e6,hN3.n6,hN.off⟩
    by_cases hlt':qK k s i err<(fM k s err i).2
    ·rw [if_pos hlt'] at hB
     rw[hB]at ihc
     refine vI (tgt:=jO) hbf hbk Az (CB b6 rfl) hh2 (S:=fun a w'=>(∃ f,a=⟨kH (.int .i64 err) (ptr b6) (ptr p) (ptr b8) (.int .i64 i) (.int .i64 (qK k s i err)) (.int .i64 i) (.int .i64 (qK k s i err)) (.map (some mb)) (ptr b14) (.int .i64 sh) (.int .i64 k.n) (.int .i64 ((i:Int)+1)) f,[dC b6]⟩)/\Kp w2 w')
      (fun a w' τ d h=>⟨h.1,adC h.2 τ d⟩) (fun τ d=>?_) ?_
     ·refine (YP (w:=w2.re τ d) err _ _ _ sh i k.n b14 _ hr3 hwb.2.2.1 hwb.2.2.2 he0 he9 hsh hlt hn6 hlt' _ _ _ _ f2 hN3.vin).mono ?_
      rintro a w' ⟨h1,h2⟩
      exact⟨h1,uq h2⟩
     ·rintro a w3 ⟨⟨f3,rfl⟩,hk3⟩ hh3
      exact ihc w3 f3 _ _ _ _ _ (hN4.step hk3) hh3
    ·rw [if_neg hlt'] at hB
     rw[hB]at ihc
     refine vI (tgt:=jO) hbf hbk Az (CB b6 rfl) hh2 (S:=fun a w'=>(∃ f,a=⟨kH (.int .i64 err) (ptr b6) (ptr p) (ptr b8) (.int .i64 (fM k s err i).1) (.int .i64 (fM k s err i).2) (.int .i64 i) (.int .i64 (qK k s i err)) (.map (some mb)) (ptr b14) (.int .i64 sh) (.int .i64 k.n) (.int .i64 ((i:Int)+1)) f,[dC b6]⟩)/\Kp w2 w')
      (fun a w' τ d h=>⟨h.1,adC h.2 τ d⟩) (fun τ d=>?_) ?_
     ·refine (ZK (w:=w2.re τ d) err _ _ _ sh i k.n b14 _ hr3 hwb.2.2.1 hwb.2.2.2 he0 he9 hsh hlt hn6 hlt' _ _ _ _ f2 hN3.vin).mono ?_
      rintro a w' ⟨h1,h2⟩
      exact⟨h1,uq h2⟩
     ·rintro a w3 ⟨⟨f3,rfl⟩,hk3⟩ hh3
      exact ihc w3 f3 _ _ _ _ _ (hN4.step hk3) hh3
theorem KU {a:Act} {x y e:Int} {k0:List Item} (hk0:k0.all qy=true) (hbf:b.fn=43) (hbk:b.kind=.normal) (hh:ay OC w) (h4:a.tmps[4]? = some (.int .i64 x)) (h5:a.tmps[5]? = some (.int .i64 y)) (h6:a.tmps[6]? = some (ptr b6)) (hd:a.defers=[dC b6])
  (hS:St w0 [] V [.blk b6 38 [.int .i64 e]] w) :
  kU Tryd.prog (G (b.at a (.code .ret::k0)) cs) w (fun a' w'=>∃ e' fr,a'=G fr cs/\(e'=.returned (.tuple #[.int .i64 x,.int .i64 y,.int .i64 e])/\Kp w0 w')/\fr.fn=43/\fr.leaving Tryd.prog w' e'/\e'≠.outgrown/\ay OC w'):=by
 obtain⟨tm,df⟩:=a
 simp only at h4 h5 h6 hd
 subst hd
 refine CV ?_
 refine Bq (fr:={b.at ⟨tm,[dC b6]⟩ (.code .ret::k0)with mode:=.returning}) (R:=fun e' w'=>e'=.returned (.tuple #[.int .i64 x,.int .i64 y,.int .i64 e])/\Kp w0 w') lT xM (fun w h=>nomatch h.1) (fn:=Tryd.f43) ⟨⟨fun z hz=>?_,CB b6 (a:=⟨tm,[dC b6]⟩) rfl,.inl hbk⟩,rfl,hbk,hbf⟩ Tryd.func43 hh rfl (fun τ d=>?_) cs
 ·rcases List.mem_cons.1 (show z∈Item.code .ret::k0 from hz) with rfl | hz
  ·exact(show bY true .ret=true from rfl)
  ·exact Gz hk0 z hz
 ·have g:∀ {j:Nat} {v:Value},tm[j]? = some v->tm.getD j undef=v:=fun h=>by
   rw[Array.getD_eq_getD_getElem?,h]
   rfl
  exact iF (R:=fun e' w'=>e'=.returned (.tuple #[.int .i64 x,.int .i64 y,.int .i64 e])/\Kp w0 w') (hS.re1 τ d) fun w3 hS3=>⟨_,results3 (r1:=.tmp 4) (r2:=.tmp 5) (r3:=.cell 6 38) (by kernel_rfl) (yS (g h4)) (yS (g h5)) (AO hS3 0 (g h6) rfl (by kernel_rfl) rfl),rfl,hS3.bM⟩
end
variable {w:World} {V:View}
theorem Vu (vv rv:Value) (k:Wk) (hk:iJ V vv rv k) (hG:GV V) (hV:V.In w) (err:Int) (hbs:¬ (aS k []=0/\fQ err 0 9=false/\Go.Wg.settle k (aN k aC)=none)) :
  Calls Tryd.prog 43 #[.agg #[vv,rv],.int .i64 err] w fun r w'=>r=.returned (.tuple #[.int .i64 (oW k err).1.1,.int .i64 (oW k err).1.2,.int .i64 (oW k err).2])/\Kp w w':=by
 have hk0:=hk
 obtain⟨va,vcap,rfl,hvc,hvm,hve⟩:=hk0.ves.is
 obtain⟨ra,rcap,rfl,hrc,hrm,hre⟩:=hk0.rdg.is
 have hS:=St.start w V hV
 clear hk0 hve hre
 by_cases hb:aS k []=0
 ·have hok:=dP hb
  cases ho:fQ err 0 9 with
  | true =>
   have hC:oW k err=((0,0),1):=by
    unfold oW
    rw[if_neg (by simp[hb]),ho]
    rfl
   rw[hC]
   simp only
   replace hC:=aj hC;replace hb:=aj hb
   clear hbs
   go_enter_defers Tryd.func43,Tryd.ntmps43
   go_wp2_with (first|(first|((first|((with_reducible refine gL ?_);first|refine gY hS rfl rfl rfl ?_|refine lW hS rfl rfl rfl ?_)|((with_reducible refine gS ?_);refine pX hS rfl rfl rfl ?_));refine⟨_,zd,?_⟩;clear hS;(try clear w');refine zF ?_;intro w' hS;(try simp only[sE]at hS))|((with_reducible refine gA ?_);refine aT 6 rfl hS rfl rfl ?_;clear hS;(try clear w');intro b6;refine zF ?_;intro w' hS)|(((with_reducible refine gB ?_);refine jQ hS rfl rfl rfl ?_;refine⟨_,za,?_⟩);clear hS;(try clear w');intro _;refine zF ?_;intro w' hS)) |
    (go_at_call 77;refine eG hS hk pG (by simp) hb.out ?_;clear hS;(try clear w');intro p V' w' hVV hcel hS;have hG':GV V':=hG.mono hVV) |
    (go_at_call 88;refine aH hS ⟨_,fB _ _ _ _,?_⟩;rw[ho];clear hS;(try clear w');intro w' hS))
   (refine iF hS ?_;clear hS;(try clear w');intro w' hS;(try simp only[sE]at hS);refine⟨_,by exact results3 (r1:=.tmp 4) (r2:=.tmp 5) (r3:=.cell 6 38) (by kernel_rfl) (by exact bD rfl) (by exact bD rfl) (by exact zA hS rfl zd),?_⟩)
   exact⟨rfl,hS.bM⟩
  | false =>
   cases hst:Go.Wg.settle k (aN k aC)with
   |none=>exact(hbs ⟨hb,ho,hst⟩).elim
   | some i =>
    have hC:oW k err=((0,0),9):=by
     unfold oW
     rw[if_neg (by simp[hb]),ho,hst]
     rfl
    rw[hC]
    simp only
    replace hC:=aj hC;replace hst:=aj hst;replace hb:=aj hb
    clear hbs
    go_enter_defers Tryd.func43,Tryd.ntmps43
    go_wp2_with (first|(first|((first|((with_reducible refine gL ?_);first|refine gY hS rfl rfl rfl ?_|refine lW hS rfl rfl rfl ?_)|((with_reducible refine gS ?_);refine pX hS rfl rfl rfl ?_));refine⟨_,zd,?_⟩;clear hS;(try clear w');refine zF ?_;intro w' hS;(try simp only[sE]at hS))|((with_reducible refine gA ?_);refine aT 6 rfl hS rfl rfl ?_;clear hS;(try clear w');intro b6;refine zF ?_;intro w' hS)|(((with_reducible refine gB ?_);refine jQ hS rfl rfl rfl ?_;refine⟨_,za,?_⟩);clear hS;(try clear w');intro _;refine zF ?_;intro w' hS)) |
     (go_at_call 77;refine eG hS hk pG (by simp) hb.out ?_;clear hS;(try clear w');intro p V' w' hVV hcel hS;have hG':GV V':=hG.mono hVV) |
     (go_at_call 88;refine aH hS ⟨_,fB _ _ _ _,?_⟩;rw[ho];clear hS;(try clear w');intro w' hS) |
     (go_at_call 83;refine nH hS (zN V' p k hcel hok i hst.out _ (St.view hS)) ?_;clear hS;(try clear w');intro w' hS))
    (refine vJ hS ?_;clear hS;(try clear w');intro w' hS;(try simp only[sE]at hS);refine⟨_,by exact results3 (r1:=.tmp 4) (r2:=.tmp 5) (r3:=.cell 6 38) (by kernel_rfl) (by exact bD rfl) (by exact bD rfl) (by exact zA hS rfl zd),?_⟩)
    exact⟨rfl,hS.bM⟩
 ·clear hbs
  have hC:oW k err=((0,0),aS k []):=by unfold oW;rw[if_pos hb]
  rw[hC]
  simp only
  have hb':(aS k [] == 0)=false:=by rw[beq_eq_false_iff_ne];exact hb
  have hE:Go.RowKit.Hid (∃ e,aS k []=e):=aj ⟨_,rfl⟩
  obtain⟨e,he⟩:=hE.out
  rw[he]at hb' |-
  replace hC:=aj hC;replace he:=aj he
  go_enter_defers Tryd.func43,Tryd.ntmps43
  go_wp2_with (first|(first|((first|((with_reducible refine gL ?_);first|refine gY hS rfl rfl rfl ?_|refine lW hS rfl rfl rfl ?_)|((with_reducible refine gS ?_);refine pX hS rfl rfl rfl ?_));refine⟨_,zd,?_⟩;clear hS;(try clear w');refine zF ?_;intro w' hS;(try simp only[sE]at hS))|((with_reducible refine gA ?_);refine aT 6 rfl hS rfl rfl ?_;clear hS;(try clear w');intro b6;refine zF ?_;intro w' hS)|(((with_reducible refine gB ?_);refine jQ hS rfl rfl rfl ?_;refine⟨_,za,?_⟩);clear hS;(try clear w');intro _;refine zF ?_;intro w' hS)) |
   (go_at_call 77;refine fF hS hk pG (by simp) hb ?_;rw[he.out];clear hS;(try clear w');intro w' hS))
  (refine bF (S:=(St w [] V [.blk b6 38 [.int .i64 e]])) [false,false,false,false] rfl (by kernel_rfl) ?_;replace hS:=St.eY hS;(refine hxa 0 rfl ?_;refine zH ?_);(refine C9 1 (by kernel_rfl) rfl rfl (St.aG hS) ?_;refine⟨_,zp,?_⟩;refine zH ?_);(refine C9 2 (by kernel_rfl) rfl rfl (St.aG hS) ?_;refine⟨_,zp,?_⟩;refine zH ?_);((refine jl 3 (by kernel_rfl) rfl hS rfl  rfl rfl ?_;refine⟨_,zd,?_⟩);clear hS;(try clear w');refine zH ?_;intro w' hS;(try simp only[sE]at hS);refine⟨(St.aG hS),?_⟩);refine wpAnyH_done (by kernel_rfl) ?_ _)
  go_wp2_with (fail)
  (refine iF hS ?_;clear hS;(try clear w');intro w' hS;(try simp only[sE]at hS);refine⟨_,by exact results3 (r1:=.tmp 4) (r2:=.tmp 5) (r3:=.cell 6 38) (by kernel_rfl) (by exact bD rfl) (by exact bD rfl) (by exact zA hS rfl zd),?_⟩)
  exact⟨by rfl,(hS.bM)⟩
theorem Zn (vv rv:Value) (k:Wk) (hk:iJ V vv rv k) (hG:GV V) (hV:V.In w) (hh:ay OC w) (err:Int) :
  kL Tryd.prog 43 #[.agg #[vv,rv],.int .i64 err] w fun r w'=>r=.returned (.tuple #[.int .i64 (oW k err).1.1,.int .i64 (oW k err).1.2,.int .i64 (oW k err).2])/\Kp w w':=by
 by_cases hbs:aS k []=0/\fQ err 0 9=false/\Go.Wg.settle k (aN k aC)=none
 ·obtain ⟨hb,ho,hst⟩:=hbs
  have hC:oW k err=if (fM k (aN k aC) err k.n).1<0 then((0,0),11) else(fM k (aN k aC) err k.n,0):=by
   unfold oW
   rw[if_neg (by simp[hb]),ho,hst]
   rfl
  have hok:=dP hb
  have he:0<=err/\err<=9:=by
   unfold fQ at ho
   simp only[Bool.or_eq_false_iff,decide_eq_false_iff_not]at ho
   omega
  have hs:=gG k aC
  have hlo:=QU k hok aC
  have hhi:∀ i,((aN k aC).aP i).2<=1000:=fun i=>Int.le_trans (Jy k hok aC i) (by decide)
  refine jD Tryd.func43 (show Tryd.f43.body=some B43 from rfl) fun cs b hbf hbk hbr=>?_
  have e104:Tryd.f43.ntmps-(#[.agg #[vv,rv],.int .i64 err]:Array Value).size=104:=by kernel_rfl
  rw[e104]
  obtain⟨tm0,htm⟩:∃ tm0,#[Value.agg #[vv,rv],.int .i64 err] ++ Array.replicate 104 undef=tm0:=⟨_,rfl⟩
  rw[htm]
  refine vI (tgt:=TT [2,3,4,5]) hbf hbk (show[Item.code B43].all qy=true by kernel_rfl) (fun d hd=>nomatch hd) hh
   (S:=fun a w'=>∃ p V' D b6 b8,((∃ f,a=⟨kH (.int .i64 err) (ptr b6) (ptr p) (ptr b8) undef undef undef undef undef undef undef undef undef f,[dC b6]⟩)/\a.tmps[29]? = some (ptr p)/\a.tmps[30]? = some (.agg (dJ (aN k aC)).toArray)) /\
    NX V' p k D b8 (aN k aC)/\St w [] V' [.blk b6 38 [.int .i64 0]] w')
   (fun a w' τ d ⟨p,V',D,b6,b8,h1,h2,h3⟩=>⟨p,V',D,b6,b8,h1,h2,h3.re1 τ d⟩) (fun τ d=>?_) ?_
  ·rw [<- htm]
   refine(PX (w:=w.re τ d) vv rv k hk hG hV err hb ho hst).mono ?_
   rintro a w' ⟨p,V',D,b6,b8,h1,h2,h3⟩
   exact⟨p,V',D,b6,b8,h1,h2,h3.re0⟩
  ·rintro a w1 ⟨p,V',D,b6,b8,⟨⟨f1,rfl⟩,h29,h30⟩,hX,hS1⟩ hh1
   have e29:f1 29=ptr p:=Option.some.inj h29
   have e30:f1 30=.agg (dJ (aN k aC)).toArray:=Option.some.inj h30
   refine Qn hX hok hs hlo hhi hS1.view hh1 hbk (o:=ops8[2]!) (y:=.tmp 29) (z:=.tmp 30) (d:=31) rfl rfl rfl rfl rfl e29 e30 fun w2 hk2 hh2=>?_
   have hN2:=(N1.aaO hS1).step hk2
   have hbd:=GH k hok.le (aN k aC) false hlo
   have hB0:fM k (aN k aC) err 0=(-1,oQ (dW k (aN k aC) false)):=rfl
   obtain⟨tt,htt⟩:∃ tt,dW k (aN k aC) false=tt:=⟨_,rfl⟩
   rw[htt]at hbd hB0 |-
   have hout:=fun Q h=>outer (w0:=w) (b6:=b6) (b:=b) (cs:=cs) (Q:=Q) hX hok hs hlo hhi err he.1 he.2 hbf hbk h k.n 0 (Nat.zero_add _)
   rw[hB0]at hout
   have eA:(Act.put ⟨kH (.int .i64 err) (ptr b6) (ptr p) (ptr b8) undef undef undef undef undef undef undef undef undef f1,[dC b6]⟩ (some 31) (aJ tt)) =
     ⟨kH (.int .i64 err) (ptr b6) (ptr p) (ptr b8) undef undef undef undef undef undef undef undef undef (fun j=>if j=31 then aJ tt else f1 j),[dC b6]⟩:=rfl
   rw[eA]
   refine vI (tgt:=jO) hbf hbk (Yl [3,4,5]) (CB b6 rfl) hh2 (S:=fun a w'=>(∃ f,a=⟨kH (.int .i64 err) (ptr b6) (ptr p) (ptr b8) (.int .i64 (-1)) (.int .i64 (oQ tt)) undef undef undef undef undef (.int .i64 k.n) (.int .i64 0) f,[dC b6]⟩)/\Kp w2 w')
    (fun a w' τ d h=>⟨h.1,adC h.2 τ d⟩) (fun τ d=>?_) ?_
   ·refine (aas (w:=w2.re τ d) hX _ _ _ _ _ _ _ _ _ _ _ _ (fun j=>if j=31 then aJ tt else f1 j) tt (hbd.mono (by omega)) (by simp) hN2.vin).mono ?_
    rintro a w' ⟨h1,h2⟩
    exact⟨h1,uq h2⟩
   ·rintro a w3 ⟨⟨f3,rfl⟩,hk3⟩ hh3
    refine hout _ (fun w f v11 v12 v13 v14 v15 hN hh=>?_) w3 f3 undef undef undef undef undef (hN2.step hk3) hh3
    by_cases hneg:(fM k (aN k aC) err k.n).1<0
    ·rw [if_pos hneg] at hC
     rw[hC]
     refine vI (tgt:=[.code .ret,.code N28]) hbf hbk Ah (CB b6 rfl) hh (S:=fun a w'=>(a.tmps[4]? = some (.int .i64 0)/\a.tmps[5]? = some (.int .i64 0)/\a.tmps[6]? = some (ptr b6)/\a.defers=[dC b6])/\St _ [] V' [.blk b6 38 [.int .i64 11]] w')
      (fun a w' τ d h=>⟨h.1,h.2.re1 τ d⟩) (fun τ d=>Zb _ _ k.n b6 hok.le hneg _ _ _ _ _ _ _ _ f (hN.st.re1 τ d)) ?_
     rintro a w4 ⟨⟨h4,h5,h6,hd⟩,hS4⟩ hh4
     exact KU (k0:=[.code N28]) (by kernel_rfl) hbf hbk hh4 h4 h5 h6 hd hS4
    ·rw [if_neg hneg] at hC
     rw[hC]
     refine vI (tgt:=[.code .ret]) hbf hbk Ah (CB b6 rfl) hh (S:=fun a w'=>(a.tmps[4]? = some (.int .i64 (fM k (aN k aC) err k.n).1)/\a.tmps[5]? = some (.int .i64 (fM k (aN k aC) err k.n).2)/\a.tmps[6]? = some (ptr b6)/\a.defers=[dC b6])/\St _ [] V' [.blk b6 38 [.int .i64 0]] w')
      (fun a w' τ d h=>⟨h.1,h.2.re1 τ d⟩) (fun τ d=>YQ _ _ k.n b6 hok.le hneg _ _ _ _ _ _ _ _ f (hN.st.re1 τ d)) ?_
     rintro a w4 ⟨⟨h4,h5,h6,hd⟩,hS4⟩ hh4
     exact KU (k0:=[]) rfl hbf hbk hh4 h4 h5 h6 hd hS4
 ·refine uF lT xM (fun w h=>nomatch h.1) hh fun τ d=>?_
  exact(Vu (w:=w.re τ d) vv rv k hk hG hV err hbs).mono fun e w' h=>⟨h.1,⟨h.2.os,h.2.output,h.2.size,h.2.old⟩⟩
end Go.Proofs.YtjjmefieegcddaaDoor
namespace Go.Proofs.YtjjmefieegcddaaDoor
open Go.RowKit Go.Wg Go.Mm
theorem SK:qN (nJ [])=([29,15,11,15],0):=by kernel_rfl
theorem JR:iw (nJ []) 1=((15,17),0):=by kernel_rfl
theorem Vg:vX (nJ [])=((1,5),0):=by kernel_rfl
theorem SE:qQ (nJ [⟨1,0,20,1⟩])=([1],0):=by kernel_rfl
theorem Xa:oW (nJ []) 0=((0,3),0):=by kernel_rfl
theorem NZ:qx (nJ [⟨1,0,20,1⟩]) 1=(2,0):=by kernel_rfl
open Go.Wk
open Go Go.Sr Go.Ph Go.Tm Go.Conc
variable {w:World} {V:View} {w0:World} {X:List Nat} {L:List dF}
theorem Bz {k:Wk} {args:Array Value} {R:Ending->World->Prop} (hS:St w0 X V L w) (hm:Calls Tryd.prog 75 args w (U5 V w k)) (h:∀ (V':View) (vv rv:Value) (w':World),(∀ j o,V j=some o->V' j=some o)->iJ V' vv rv k->St w0 X V' L w'->R (.returned (.agg #[vv,rv])) w'):Calls Tryd.prog 75 args w R:=by
 refine hm.mono ?_
 rintro e w' ⟨V',vv,rv,rfl,hk,hn,hin,hwk⟩
 exact h V' vv rv w' (fun j o hj=>by rw[hn j (lt_of_heap (hS.view j o hj))];exact hj) hwk (hS.call hk hin hn)
theorem tZ {R:Ending->World->Prop} (hS:St w0 X V L w) (hB:Bs V) (h:∀ (V':View) (vv rv:Value) (w':World),(∀ j o,V j=some o->V' j=some o)->iJ V' vv rv (nJ [])->St w0 X V' L w'->R (.returned (.agg #[vv,rv])) w'):Calls Tryd.prog 75 #[.slice none 0 0] w R:=Bz hS (UM hB hS.view) h
theorem Ba {R:Ending->World->Prop} (hS:St w0 X V L w) (hB:Bs V) {bm:Nat} {r:je} (hm:∀ i v,(fH [r])[i]? = some v->V.Cell bm i v) (h:∀ (V':View) (vv rv:Value) (w':World),(∀ j o,V j=some o->V' j=some o)->iJ V' vv rv (nJ [r])->St w0 X V' L w'->R (.returned (.agg #[vv,rv])) w') :
  Calls Tryd.prog 75 #[.slice (some ⟨bm,0,none⟩) 1 1] w R:=Bz hS (Va hB hS.view r fun j v hj=>by rw[Nat.zero_add];exact hm j v hj) h
theorem xZ {f:FuncId} {args:Array Value} {R:Ending->World->Prop} {u:Value} {l:List Int} (hS:St w0 X V L w) (hc:Calls Tryd.prog f args w fun r w'=>∃ v,r=.returned (.tuple #[v,u])/\Kp w w'/\tY w w' v l)
  (h:∀ (V':View) (v:Value) (w':World),(∀ j o,V j=some o->V' j=some o)->VI V' v l->v.oneCell'=true->St w0 X V' L w'->R (.returned (.tuple #[v,u])) w'):Calls Tryd.prog f args w R:=by
 refine hc.mono ?_
 rintro e w' ⟨v,rfl,hk,ho⟩
 obtain⟨V',h1,h2,h3⟩:=Um hS hk ho
 refine h V' v w' h1 h3 ?_ h2
 obtain⟨a,cap,rfl,_⟩:=h3.is
 rfl
theorem Ls {vv rv:Value} {k:Wk} {R:Ending->World->Prop} {l:List Int} {e:Int} (hS:St w0 X V L w) (hB:Bs V) (hk:iJ V vv rv k) (hv:qN k=(l,e))
  (h:∀ (V':View) (v:Value) (w':World),(∀ j o,V j=some o->V' j=some o)->VI V' v l->v.oneCell'=true->St w0 X V' L w'->R (.returned (.tuple #[v,.int .i64 e])) w'):Calls Tryd.prog 27 #[.agg #[vv,rv]] w R:=by
 have hc:=Vh vv rv k hk hB.gv hS.view
 rw[hv]at hc
 exact xZ hS hc h
theorem MV {vv rv:Value} {k:Wk} {R:Ending->World->Prop} {l:List Int} {e:Int} (hS:St w0 X V L w) (hB:Bs V) (hk:iJ V vv rv k) (hv:qQ k=(l,e))
  (h:∀ (V':View) (v:Value) (w':World),(∀ j o,V j=some o->V' j=some o)->VI V' v l->v.oneCell'=true->St w0 X V' L w'->R (.returned (.tuple #[v,.int .i64 e])) w'):Calls Tryd.prog 34 #[.agg #[vv,rv]] w R:=by
 have hc:=VK vv rv k hk hB.gv hS.view
 rw[hv]at hc
 exact xZ hS hc h
theorem oq {vv rv:Value} {k:Wk} {R:Ending->World->Prop} {v a b e:Int} (hS:St w0 X V L w) (hB:Bs V) (hk:iJ V vv rv k) (hv:iw k v=((a,b),e))
  (h:∀ w',St w0 X V L w'->R (.returned (.tuple #[.agg #[.int .i64 a,.int .i64 b],.int .i64 e])) w'):Calls Tryd.prog 54 #[.agg #[vv,rv],.int .i64 v] w R:=by
 have hc:=RY vv rv k hk hB.gv hS.view v
 rw[hv]at hc
 exact aH hS ⟨_,hc,h⟩
theorem JC {vv rv:Value} {k:Wk} {R:Ending->World->Prop} {v a e:Int} (hS:St w0 X V L w) (hB:Bs V) (hk:iJ V vv rv k) (hv:qx k v=(a,e))
  (h:∀ w',St w0 X V L w'->R (.returned (.tuple #[.int .i64 a,.int .i64 e])) w'):Calls Tryd.prog 51 #[.agg #[vv,rv],.int .i64 v] w R:=by
 have hc:=RS vv rv k hk hB.gv hS.view v
 rw[hv]at hc
 exact aH hS ⟨_,hc,h⟩
theorem zu {l1 l2:List Int} {a b:Value} {R:Ending->World->Prop} (hS:St w0 X V L w) (h1:VI V a l1) (h2:VI V b l2) (n1:l1.length<=100) (n2:l2.length<=100) (he:l1=l2) (h:∀ w',St w0 X V L w'->R (.returned (.bool true)) w'):Calls Tryd.prog 31 #[a,b] w R:=by
 have hc:=SI l1 l2 a b h1 h2 n1 n2 hS.view
 rw[decide_eq_true he]at hc
 exact aH hS ⟨_,hc,h⟩
theorem YD {V:View} {b:Nat} {l:List Int} (hl:l.length<=100) (h:∀ i x,(aV l)[i]? = some x->V.Cell b i x):VI V (.slice (some ⟨b,0,none⟩) l.length l.length) l:=by
 refine⟨⟨some ⟨b,0,none⟩,l.length,rfl,Nat.le_refl _,by unfold maxLen;omega,fun _=>⟨b,0,rfl,fun i hi j x hj=>?_⟩⟩⟩
 cases j with
 |succ j=>simp at hj
 |zero =>
  simp at hj
  subst hj
  have:=h i (.int .i64 (l.getD i 0)) (by simp[aV,List.getD_eq_getElem?_getD,List.getElem?_eq_getElem hi])
  simpa using this
noncomputable def B21:Code:=match Tryd.f21.body with|some c=>c|none=>.skip
noncomputable def Yz:Code:=match B21 with | .seq _ (.seq _ (.seq _ (.seq _ r)))=>r|_=>.skip
noncomputable def Zq:Code:=match Yz with | .seq _ (.seq _ r)=>r|_=>.skip
noncomputable def Gv:Array Oper:=match B21 with | .seq _ (.seq _ (.seq _ (.seq (.region _ o _) _)))=>o|_=>#[]
noncomputable def qm:Array Oper:=match Yz with | .seq _ (.seq (.region _ o _) _)=>o|_=>#[]
def Wd1 (w:World) (V:View) (a:Act) (w':World):Prop :=
 ∃ (V':View) (vv rv v1:Value) (b3:Nat),(∃ f:Nat->Value,a=⟨#[.bool false,v1,.int .i64 0,.pointer (some ⟨b3,0,none⟩),.int .i64 0,f 5,f 6,f 7,f 8,f 9,f 10,f 11,f 12,f 13,f 14,f 15,f 16,f 17,f 18,f 19,f 20,f 21,f 22,f 23,f 24,.agg #[vv,rv],f 26,f 27,f 28,f 29,f 30,f 31,f 32,f 33,f 34,f 35,f 36,f 37,f 38,f 39,f 40,f 41,f 42,f 43,f 44,f 45,f 46,f 47,f 48,f 49,f 50,f 51,f 52,f 53,f 54,f 55,f 56,f 57,f 58,f 59,f 60,f 61,f 62,f 63,f 64,f 65,f 66,f 67,f 68,f 69,f 70,f 71,f 72,f 73,f 74,f 75,f 76,f 77,f 78,f 79,f 80,f 81,f 82,f 83,f 84,f 85,f 86,f 87,f 88,f 89,f 90,f 91,f 92,f 93,f 94,f 95,f 96,f 97,f 98,f 99,f 100,f 101,f 102],[]⟩)/\(∀ j o,V j=some o->V' j=some o)/\iJ V' vv rv (nJ [])/\VI V' v1 [29,15,11,15]/\v1.oneCell'=true/\(∀ i v,[Value.int .i64 15,.int .i64 17][i]? = some v->V'.Cell b3 i v)/\St w [] V' [] w'
theorem U2 (hB:Bs V) (hV:V.In w):fA Tryd.prog [.inRegion Gv [1,2,3,4,5,6,7],.code Yz] (Wd1 w V) [.code B21] {tmps:=#[] ++ Array.replicate 103 undef,defers:=[]} w:=by
 have hS:=St.start w V hV
 simp only[Array.replicate_succ,Array.replicate_zero,List.push_toArray,List.append_toArray,List.nil_append,List.cons_append]
 refine au (aA ?_)
 go_wp2_with (fail)
 refine au (aA ?_)
 go_wp2_with (first|(go_at_call 75;refine tZ hS hB ?_;clear hS;(try clear w');intro V1 vv1 rv1 w' hV1 hk1 hS)|(go_at_call 27;refine Ls hS (hB.mono hV1) hk1 SK ?_;clear hS;(try clear w');intro V2 v1 w' hV2 hv1 hone hS))
 have hB2:Bs V2:=hB.mono fun j o h=>hV2 j o (hV1 j o h)
 refine au (aA ?_)
 go_wp2_with (first|(first|(((with_reducible refine gS ?_);refine bQ hS rfl rfl rfl ?_);refine⟨_,zd,?_⟩;clear hS;(try clear w');refine zF ?_;intro w' hS;(try simp only[sE]at hS))|((with_reducible refine gA ?_);refine aT 3 rfl hS rfl rfl ?_;clear hS;(try clear w');intro b3;refine zF ?_;intro w' hS))|(go_at_call 75;refine tZ hS hB2 ?_;clear hS;(try clear w');intro V3 vv3 rv3 w' hV3 hk3 hS)|(go_at_call 54;refine oq hS (hB2.mono hV3) hk3 JR ?_;clear hS;(try clear w');intro w' hS))
 obtain⟨V4,hV4,hc4,hS4⟩:=pin hS
 clear hS
 have hS:=hS4
 clear hS4
 have hB4:Bs V4:=hB2.mono fun j o h=>hV4 j o (hV3 j o h)
 refine au (ig ?_)
 refine rZ (i:=0) rfl rfl (run_call_body rfl Tryd.func75 (by kernel_rfl) rfl) ?_
 simp only[List.map_toArray,List.map_cons,List.map_nil]
 show Calls Tryd.prog 75 #[.slice none 0 0] _ _
 refine tZ hS hB4 ?_
 clear hS
 intro V5 vv rv w' hV5 hk5 hS
 refine⟨_,rfl,?_⟩
 have key:∀ a:Act,a=⟨#[.bool false,v1,.int .i64 0,.pointer (some ⟨b3,0,none⟩),.int .i64 0,a.tmps.getD 5 undef,a.tmps.getD 6 undef,a.tmps.getD 7 undef,a.tmps.getD 8 undef,a.tmps.getD 9 undef,a.tmps.getD 10 undef,a.tmps.getD 11 undef,a.tmps.getD 12 undef,a.tmps.getD 13 undef,a.tmps.getD 14 undef,a.tmps.getD 15 undef,a.tmps.getD 16 undef,a.tmps.getD 17 undef,a.tmps.getD 18 undef,a.tmps.getD 19 undef,a.tmps.getD 20 undef,a.tmps.getD 21 undef,a.tmps.getD 22 undef,a.tmps.getD 23 undef,a.tmps.getD 24 undef,.agg #[vv,rv],a.tmps.getD 26 undef,a.tmps.getD 27 undef,a.tmps.getD 28 undef,a.tmps.getD 29 undef,a.tmps.getD 30 undef,a.tmps.getD 31 undef,a.tmps.getD 32 undef,a.tmps.getD 33 undef,a.tmps.getD 34 undef,a.tmps.getD 35 undef,a.tmps.getD 36 undef,a.tmps.getD 37 undef,a.tmps.getD 38 undef,a.tmps.getD 39 undef,a.tmps.getD 40 undef,a.tmps.getD 41 undef,a.tmps.getD 42 undef,a.tmps.getD 43 undef,a.tmps.getD 44 undef,a.tmps.getD 45 undef,a.tmps.getD 46 undef,a.tmps.getD 47 undef,a.tmps.getD 48 undef,a.tmps.getD 49 undef,a.tmps.getD 50 undef,a.tmps.getD 51 undef,a.tmps.getD 52 undef,a.tmps.getD 53 undef,a.tmps.getD 54 undef,a.tmps.getD 55 undef,a.tmps.getD 56 undef,a.tmps.getD 57 undef,a.tmps.getD 58 undef,a.tmps.getD 59 undef,a.tmps.getD 60 undef,a.tmps.getD 61 undef,a.tmps.getD 62 undef,a.tmps.getD 63 undef,a.tmps.getD 64 undef,a.tmps.getD 65 undef,a.tmps.getD 66 undef,a.tmps.getD 67 undef,a.tmps.getD 68 undef,a.tmps.getD 69 undef,a.tmps.getD 70 undef,a.tmps.getD 71 undef,a.tmps.getD 72 undef,a.tmps.getD 73 undef,a.tmps.getD 74 undef,a.tmps.getD 75 undef,a.tmps.getD 76 undef,a.tmps.getD 77 undef,a.tmps.getD 78 undef,a.tmps.getD 79 undef,a.tmps.getD 80 undef,a.tmps.getD 81 undef,a.tmps.getD 82 undef,a.tmps.getD 83 undef,a.tmps.getD 84 undef,a.tmps.getD 85 undef,a.tmps.getD 86 undef,a.tmps.getD 87 undef,a.tmps.getD 88 undef,a.tmps.getD 89 undef,a.tmps.getD 90 undef,a.tmps.getD 91 undef,a.tmps.getD 92 undef,a.tmps.getD 93 undef,a.tmps.getD 94 undef,a.tmps.getD 95 undef,a.tmps.getD 96 undef,a.tmps.getD 97 undef,a.tmps.getD 98 undef,a.tmps.getD 99 undef,a.tmps.getD 100 undef,a.tmps.getD 101 undef,a.tmps.getD 102 undef],[]⟩->Wd1 w V a w':=fun a ha =>
  ⟨V5,vv,rv,v1,b3,⟨fun j=>a.tmps.getD j undef,ha⟩,fun j o h=>hV5 j o (hV4 j o (hV3 j o (hV2 j o (hV1 j o h)))),hk5,pW.mono (pW.mono (pW.mono hv1 hV3) hV4) hV5,hone,fun i v h=>(hc4 i v h).mono hV5,hS⟩
 exact bG (tgt:=[.inRegion Gv [1,2,3,4,5,6,7],.code Yz]) (key _ rfl)
def Wd2 (w:World) (V:View) (v1:Value) (b3:Nat) (a:Act) (w':World):Prop :=
 ∃ (V':View) (vv rv v7:Value) (b5:Nat),(∃ f:Nat->Value,a=⟨#[.bool false,v1,.int .i64 0,.pointer (some ⟨b3,0,none⟩),.int .i64 0,.pointer (some ⟨b5,0,none⟩),.int .i64 0,v7,.int .i64 0,f 9,f 10,f 11,f 12,f 13,f 14,f 15,f 16,f 17,f 18,f 19,f 20,f 21,f 22,f 23,f 24,f 25,f 26,f 27,f 28,f 29,f 30,f 31,f 32,f 33,f 34,f 35,f 36,.agg #[vv,rv],f 38,f 39,f 40,f 41,f 42,f 43,f 44,f 45,f 46,f 47,f 48,f 49,f 50,f 51,f 52,f 53,f 54,f 55,f 56,f 57,f 58,f 59,f 60,f 61,f 62,f 63,f 64,f 65,f 66,f 67,f 68,f 69,f 70,f 71,f 72,f 73,f 74,f 75,f 76,f 77,f 78,f 79,f 80,f 81,f 82,f 83,f 84,f 85,f 86,f 87,f 88,f 89,f 90,f 91,f 92,f 93,f 94,f 95,f 96,f 97,f 98,f 99,f 100,f 101,f 102],[]⟩)/\(∀ j o,V j=some o->V' j=some o)/\iJ V' vv rv (nJ [])/\VI V' v7 [1]/\v7.oneCell'=true/\(∀ i v,[Value.int .i64 1,.int .i64 5][i]? = some v->V'.Cell b5 i v)/\St w [] V' [] w'
theorem Vp (hB:Bs V) (hV:V.In w) (v1:Value) (b3:Nat) (f:Nat->Value):fA Tryd.prog [.inRegion qm [1,2,3,4,5,6,7,8],.code Zq] (Wd2 w V v1 b3) [.inRegion Gv [2,3,4,5,6,7],.code Yz] ⟨#[.bool false,v1,.int .i64 0,.pointer (some ⟨b3,0,none⟩),.int .i64 0,f 5,f 6,f 7,f 8,f 9,f 10,f 11,f 12,f 13,f 14,f 15,f 16,f 17,f 18,f 19,f 20,f 21,f 22,f 23,f 24,f 25,.tuple #[.agg #[.int .i64 1,.int .i64 5],.int .i64 0],f 27,f 28,f 29,f 30,f 31,f 32,f 33,f 34,f 35,f 36,f 37,f 38,f 39,f 40,f 41,f 42,f 43,f 44,f 45,f 46,f 47,f 48,f 49,f 50,f 51,f 52,f 53,f 54,f 55,f 56,f 57,f 58,f 59,f 60,f 61,f 62,f 63,f 64,f 65,f 66,f 67,f 68,f 69,f 70,f 71,f 72,f 73,f 74,f 75,f 76,f 77,f 78,f 79,f 80,f 81,f 82,f 83,f 84,f 85,f 86,f 87,f 88,f 89,f 90,f 91,f 92,f 93,f 94,f 95,f 96,f 97,f 98,f 99,f 100,f 101,f 102],[]⟩ w:=by
 have hS:=St.start w V hV
 refine cO (i:=2) (v:=.tuple #[.agg #[.int .i64 1,.int .i64 5],.int .i64 0]) (w':=w) rfl rfl rfl ?_
 refine cO (i:=3) (v:=.agg #[.int .i64 1,.int .i64 5]) (w':=w) rfl rfl rfl ?_
 refine cO (i:=4) (v:=.int .i64 0) (w':=w) rfl rfl rfl ?_
 refine cO (i:=5) rfl rfl (Aq (P:=Tryd.prog) hS (cs:=[.int .i64 0,.int .i64 0]) rfl (by kernel_rfl) (by kernel_rfl)).1 ?_
 replace hS:=hS.alloc 27 [.int .i64 0,.int .i64 0]
 generalize w.alloc (.cells [Value.int .i64 0,.int .i64 0].toArray 27)=w1 at hS |-
 obtain⟨b5,hb5⟩:∃ b5,w.heap.size=b5:=⟨_,rfl⟩
 rw[hb5]at hS |-
 refine xK hS (i:=6) (vs:=[.int .i64 1,.int .i64 5]) rfl rfl rfl (j:=0) (i':=0) (n:=2) rfl rfl rfl (by simp[Value.oneCell']) (by kernel_rfl) rfl (by simp) ?_
 clear hS
 intro w2 hS
 simp only[List.set_cons_zero,splice,List.take_zero,List.nil_append,List.length_cons,List.length_nil,Nat.zero_add,List.append_nil,List.drop_nil,Nat.reduceAdd,List.drop_succ_cons,List.drop_zero]at hS
 refine cO (i:=7) (v:=.int .i64 0) (w':=w2) rfl rfl rfl ?_
 refine dH ?_
 show fA Tryd.prog [.inRegion qm [1,2,3,4,5,6,7,8],.code Zq] (Wd2 w V v1 b3) [.code Yz] ⟨#[.bool false,v1,.int .i64 0,.pointer (some ⟨b3,0,none⟩),.int .i64 0,.pointer (some ⟨b5,0,none⟩),.int .i64 0,f 7,f 8,f 9,f 10,f 11,f 12,f 13,f 14,f 15,f 16,f 17,f 18,f 19,f 20,f 21,f 22,f 23,.tuple #[.agg #[.int .i64 1,.int .i64 5],.int .i64 0],f 25,.tuple #[.agg #[.int .i64 1,.int .i64 5],.int .i64 0],.agg #[.int .i64 1,.int .i64 5],.int .i64 0,f 29,f 30,f 31,f 32,f 33,f 34,f 35,f 36,f 37,f 38,f 39,f 40,f 41,f 42,f 43,f 44,f 45,f 46,f 47,f 48,f 49,f 50,f 51,f 52,f 53,f 54,f 55,f 56,f 57,f 58,f 59,f 60,f 61,f 62,f 63,f 64,f 65,f 66,f 67,f 68,f 69,f 70,f 71,f 72,f 73,f 74,f 75,f 76,f 77,f 78,f 79,f 80,f 81,f 82,f 83,f 84,f 85,f 86,f 87,f 88,f 89,f 90,f 91,f 92,f 93,f 94,f 95,f 96,f 97,f 98,f 99,f 100,f 101,f 102],[]⟩ w2
 obtain⟨V1,hV1,hc1,hS1⟩:=pin hS
 clear hS
 have hS:=hS1
 clear hS1
 have hB1:=hB.mono hV1
 refine au (aA ?_)
 go_wp2_with (first|(fail)|(go_at_call 42;refine aH hS ⟨_,y9 _ _ _ _ _,?_⟩;clear hS;(try clear w');intro w' hS) |
  ((with_reducible refine uP ?_);refine zU hS rfl (oP (a:=⟨1,0,20,1⟩) rfl rfl) ?_;clear hS;(try clear w');intro bm a' hp;(try simp only[fr]at hp);subst hp;intro w' hS;obtain⟨V2,hV2,hc2,hS2⟩:=pin hS;clear hS;have hS:=hS2;clear hS2) |
  (go_at_call 75;refine Ba hS (hB1.mono hV2) hc2 ?_;clear hS;(try clear w');intro V3 vv3 rv3 w' hV3 hk3 hS) |
  (go_at_call 34;refine MV hS ((hB1.mono hV2).mono hV3) hk3 SE ?_;clear hS;(try clear w');intro V4 v7 w' hV4 hv7 hone hS))
 have hB4:Bs V4:=((hB1.mono hV2).mono hV3).mono hV4
 refine au (ig ?_)
 refine rZ (i:=0) rfl rfl (run_call_body rfl Tryd.func75 (by kernel_rfl) rfl) ?_
 simp only[List.map_toArray,List.map_cons,List.map_nil]
 show Calls Tryd.prog 75 #[.slice none 0 0] _ _
 refine tZ hS hB4 ?_
 clear hS
 intro V5 vv rv w' hV5 hk5 hS
 refine⟨_,rfl,?_⟩
 have key:∀ a:Act,a=⟨#[.bool false,v1,.int .i64 0,.pointer (some ⟨b3,0,none⟩),.int .i64 0,.pointer (some ⟨b5,0,none⟩),.int .i64 0,v7,.int .i64 0,a.tmps.getD 9 undef,a.tmps.getD 10 undef,a.tmps.getD 11 undef,a.tmps.getD 12 undef,a.tmps.getD 13 undef,a.tmps.getD 14 undef,a.tmps.getD 15 undef,a.tmps.getD 16 undef,a.tmps.getD 17 undef,a.tmps.getD 18 undef,a.tmps.getD 19 undef,a.tmps.getD 20 undef,a.tmps.getD 21 undef,a.tmps.getD 22 undef,a.tmps.getD 23 undef,a.tmps.getD 24 undef,a.tmps.getD 25 undef,a.tmps.getD 26 undef,a.tmps.getD 27 undef,a.tmps.getD 28 undef,a.tmps.getD 29 undef,a.tmps.getD 30 undef,a.tmps.getD 31 undef,a.tmps.getD 32 undef,a.tmps.getD 33 undef,a.tmps.getD 34 undef,a.tmps.getD 35 undef,a.tmps.getD 36 undef,.agg #[vv,rv],a.tmps.getD 38 undef,a.tmps.getD 39 undef,a.tmps.getD 40 undef,a.tmps.getD 41 undef,a.tmps.getD 42 undef,a.tmps.getD 43 undef,a.tmps.getD 44 undef,a.tmps.getD 45 undef,a.tmps.getD 46 undef,a.tmps.getD 47 undef,a.tmps.getD 48 undef,a.tmps.getD 49 undef,a.tmps.getD 50 undef,a.tmps.getD 51 undef,a.tmps.getD 52 undef,a.tmps.getD 53 undef,a.tmps.getD 54 undef,a.tmps.getD 55 undef,a.tmps.getD 56 undef,a.tmps.getD 57 undef,a.tmps.getD 58 undef,a.tmps.getD 59 undef,a.tmps.getD 60 undef,a.tmps.getD 61 undef,a.tmps.getD 62 undef,a.tmps.getD 63 undef,a.tmps.getD 64 undef,a.tmps.getD 65 undef,a.tmps.getD 66 undef,a.tmps.getD 67 undef,a.tmps.getD 68 undef,a.tmps.getD 69 undef,a.tmps.getD 70 undef,a.tmps.getD 71 undef,a.tmps.getD 72 undef,a.tmps.getD 73 undef,a.tmps.getD 74 undef,a.tmps.getD 75 undef,a.tmps.getD 76 undef,a.tmps.getD 77 undef,a.tmps.getD 78 undef,a.tmps.getD 79 undef,a.tmps.getD 80 undef,a.tmps.getD 81 undef,a.tmps.getD 82 undef,a.tmps.getD 83 undef,a.tmps.getD 84 undef,a.tmps.getD 85 undef,a.tmps.getD 86 undef,a.tmps.getD 87 undef,a.tmps.getD 88 undef,a.tmps.getD 89 undef,a.tmps.getD 90 undef,a.tmps.getD 91 undef,a.tmps.getD 92 undef,a.tmps.getD 93 undef,a.tmps.getD 94 undef,a.tmps.getD 95 undef,a.tmps.getD 96 undef,a.tmps.getD 97 undef,a.tmps.getD 98 undef,a.tmps.getD 99 undef,a.tmps.getD 100 undef,a.tmps.getD 101 undef,a.tmps.getD 102 undef],[]⟩->Wd2 w V v1 b3 a w':=fun a ha =>
  ⟨V5,vv,rv,v7,b5,⟨fun j=>a.tmps.getD j undef,ha⟩,fun j o h=>hV5 j o (hV4 j o (hV3 j o (hV2 j o (hV1 j o h)))),hk5,pW.mono hv7 hV5,hone,fun i v h=>(((hc1 i v h).mono hV2).mono hV3 |>.mono hV4).mono hV5,hS⟩
 exact bG (tgt:=[.inRegion qm [1,2,3,4,5,6,7,8],.code Zq]) (key _ rfl)
theorem TD {o:Oper} {ρ:Operand->Value} {x y:Operand} (ho:o.op=.binOp .eql 27 x y 27) (hx:ρ x=.agg #[.int .i64 15,.int .i64 17]) (hy:ρ y=.agg #[.int .i64 15,.int .i64 17]) (w:World):(execOp ρ o).run Tryd.prog w=.ok (.value (.bool true)) w:=by
 unfold execOp
 simp only[ho,hx,hy]
 kernel_rfl
theorem Sm {o:Oper} {ρ:Operand->Value} {x y:Operand} (ho:o.op=.binOp .eql 27 x y 27) (hx:ρ x=.agg #[.int .i64 1,.int .i64 5]) (hy:ρ y=.agg #[.int .i64 1,.int .i64 5]) (w:World):(execOp ρ o).run Tryd.prog w=.ok (.value (.bool true)) w:=by
 unfold execOp
 simp only[ho,hx,hy]
 kernel_rfl
theorem aaX {ops:Array Oper} {Q:Exit->Act->World->Prop} {d:Option Tmp} {x y:Operand} {t:TypeId} {p:String} {af:Array Edge} {g:Option (Nat × Bool)} {rest:List Oper} {a:Act} (h:wpList Tryd.prog ops Q (⟨d,.binOp .eql 27 x y 27,t,p,af,g⟩::rest) a w):wpList Tryd.prog ops Q (⟨d,.binOp .eql 27 x y 27,t,p,af,g⟩::rest) a w:=h
theorem UN (hB:Bs V) (hV:V.In w) (v1 v7:Value) (b3 b5:Nat) (o1:v1.oneCell'=true) (o7:v7.oneCell'=true) (h1:VI V v1 [29,15,11,15]) (h7:VI V v7 [1]) (h3:∀ i v,[Value.int .i64 15,.int .i64 17][i]? = some v->V.Cell b3 i v) (h5:∀ i v,[Value.int .i64 1,.int .i64 5][i]? = some v->V.Cell b5 i v) (f:Nat->Value) :
  fA Tryd.prog [.code .ret] (fun a w'=>a.tmps[0]? = some (.bool true)/\a.defers=[]/\Kp w w') [.inRegion qm [2,3,4,5,6,7,8],.code Zq] ⟨#[.bool false,v1,.int .i64 0,.pointer (some ⟨b3,0,none⟩),.int .i64 0,.pointer (some ⟨b5,0,none⟩),.int .i64 0,v7,.int .i64 0,f 9,f 10,f 11,f 12,f 13,f 14,f 15,f 16,f 17,f 18,f 19,f 20,f 21,f 22,f 23,f 24,f 25,f 26,f 27,f 28,f 29,f 30,f 31,f 32,f 33,f 34,f 35,f 36,f 37,.tuple #[.int .i64 0,.int .i64 3,.int .i64 0],f 39,f 40,f 41,f 42,f 43,f 44,f 45,f 46,f 47,f 48,f 49,f 50,f 51,f 52,f 53,f 54,f 55,f 56,f 57,f 58,f 59,f 60,f 61,f 62,f 63,f 64,f 65,f 66,f 67,f 68,f 69,f 70,f 71,f 72,f 73,f 74,f 75,f 76,f 77,f 78,f 79,f 80,f 81,f 82,f 83,f 84,f 85,f 86,f 87,f 88,f 89,f 90,f 91,f 92,f 93,f 94,f 95,f 96,f 97,f 98,f 99,f 100,f 101,f 102],[]⟩ w:=by
 have hS:=St.start w V hV
 refine cO (i:=2) (v:=.tuple #[.int .i64 0,.int .i64 3,.int .i64 0]) (w':=w) rfl rfl rfl ?_
 show fA Tryd.prog [.code .ret] _ (.inRegion qm [3,4,5,6,7,8]::_) ⟨#[.bool false,v1,.int .i64 0,.pointer (some ⟨b3,0,none⟩),.int .i64 0,.pointer (some ⟨b5,0,none⟩),.int .i64 0,v7,.int .i64 0,f 9,f 10,f 11,f 12,f 13,f 14,f 15,f 16,f 17,f 18,f 19,f 20,f 21,f 22,f 23,f 24,f 25,f 26,f 27,f 28,f 29,f 30,f 31,f 32,f 33,f 34,f 35,.tuple #[.int .i64 0,.int .i64 3,.int .i64 0],f 37,.tuple #[.int .i64 0,.int .i64 3,.int .i64 0],f 39,f 40,f 41,f 42,f 43,f 44,f 45,f 46,f 47,f 48,f 49,f 50,f 51,f 52,f 53,f 54,f 55,f 56,f 57,f 58,f 59,f 60,f 61,f 62,f 63,f 64,f 65,f 66,f 67,f 68,f 69,f 70,f 71,f 72,f 73,f 74,f 75,f 76,f 77,f 78,f 79,f 80,f 81,f 82,f 83,f 84,f 85,f 86,f 87,f 88,f 89,f 90,f 91,f 92,f 93,f 94,f 95,f 96,f 97,f 98,f 99,f 100,f 101,f 102],[]⟩ w
 refine cO (i:=3) (v:=.int .i64 0) (w':=w) rfl rfl rfl ?_
 show fA Tryd.prog [.code .ret] _ (.inRegion qm [4,5,6,7,8]::_) ⟨#[.bool false,v1,.int .i64 0,.pointer (some ⟨b3,0,none⟩),.int .i64 0,.pointer (some ⟨b5,0,none⟩),.int .i64 0,v7,.int .i64 0,f 9,f 10,f 11,f 12,f 13,f 14,f 15,f 16,f 17,f 18,f 19,f 20,f 21,f 22,f 23,f 24,f 25,f 26,f 27,f 28,f 29,f 30,f 31,f 32,f 33,f 34,f 35,.tuple #[.int .i64 0,.int .i64 3,.int .i64 0],f 37,.tuple #[.int .i64 0,.int .i64 3,.int .i64 0],.int .i64 0,f 40,f 41,f 42,f 43,f 44,f 45,f 46,f 47,f 48,f 49,f 50,f 51,f 52,f 53,f 54,f 55,f 56,f 57,f 58,f 59,f 60,f 61,f 62,f 63,f 64,f 65,f 66,f 67,f 68,f 69,f 70,f 71,f 72,f 73,f 74,f 75,f 76,f 77,f 78,f 79,f 80,f 81,f 82,f 83,f 84,f 85,f 86,f 87,f 88,f 89,f 90,f 91,f 92,f 93,f 94,f 95,f 96,f 97,f 98,f 99,f 100,f 101,f 102],[]⟩ w
 refine cO (i:=4) (v:=.int .i64 3) (w':=w) rfl rfl rfl ?_
 show fA Tryd.prog [.code .ret] _ (.inRegion qm [5,6,7,8]::_) ⟨#[.bool false,v1,.int .i64 0,.pointer (some ⟨b3,0,none⟩),.int .i64 0,.pointer (some ⟨b5,0,none⟩),.int .i64 0,v7,.int .i64 0,f 9,f 10,f 11,f 12,f 13,f 14,f 15,f 16,f 17,f 18,f 19,f 20,f 21,f 22,f 23,f 24,f 25,f 26,f 27,f 28,f 29,f 30,f 31,f 32,f 33,f 34,f 35,.tuple #[.int .i64 0,.int .i64 3,.int .i64 0],f 37,.tuple #[.int .i64 0,.int .i64 3,.int .i64 0],.int .i64 0,.int .i64 3,f 41,f 42,f 43,f 44,f 45,f 46,f 47,f 48,f 49,f 50,f 51,f 52,f 53,f 54,f 55,f 56,f 57,f 58,f 59,f 60,f 61,f 62,f 63,f 64,f 65,f 66,f 67,f 68,f 69,f 70,f 71,f 72,f 73,f 74,f 75,f 76,f 77,f 78,f 79,f 80,f 81,f 82,f 83,f 84,f 85,f 86,f 87,f 88,f 89,f 90,f 91,f 92,f 93,f 94,f 95,f 96,f 97,f 98,f 99,f 100,f 101,f 102],[]⟩ w
 refine cO (i:=5) (v:=.int .i64 0) (w':=w) rfl rfl rfl ?_
 show fA Tryd.prog [.code .ret] _ (.inRegion qm [6,7,8]::_) ⟨#[.bool false,v1,.int .i64 0,.pointer (some ⟨b3,0,none⟩),.int .i64 0,.pointer (some ⟨b5,0,none⟩),.int .i64 0,v7,.int .i64 0,f 9,f 10,f 11,f 12,f 13,f 14,f 15,f 16,f 17,f 18,f 19,f 20,f 21,f 22,f 23,f 24,f 25,f 26,f 27,f 28,f 29,f 30,f 31,f 32,f 33,f 34,f 35,.tuple #[.int .i64 0,.int .i64 3,.int .i64 0],f 37,.tuple #[.int .i64 0,.int .i64 3,.int .i64 0],.int .i64 0,.int .i64 3,.int .i64 0,f 42,f 43,f 44,f 45,f 46,f 47,f 48,f 49,f 50,f 51,f 52,f 53,f 54,f 55,f 56,f 57,f 58,f 59,f 60,f 61,f 62,f 63,f 64,f 65,f 66,f 67,f 68,f 69,f 70,f 71,f 72,f 73,f 74,f 75,f 76,f 77,f 78,f 79,f 80,f 81,f 82,f 83,f 84,f 85,f 86,f 87,f 88,f 89,f 90,f 91,f 92,f 93,f 94,f 95,f 96,f 97,f 98,f 99,f 100,f 101,f 102],[]⟩ w
 refine cO (i:=6) (v:=.int .i64 0) (w':=w) rfl rfl rfl ?_
 show fA Tryd.prog [.code .ret] _ (.inRegion qm [7,8]::_) ⟨#[.bool false,v1,.int .i64 0,.pointer (some ⟨b3,0,none⟩),.int .i64 0,.pointer (some ⟨b5,0,none⟩),.int .i64 0,v7,.int .i64 0,.int .i64 0,f 10,f 11,f 12,f 13,f 14,f 15,f 16,f 17,f 18,f 19,f 20,f 21,f 22,f 23,f 24,f 25,f 26,f 27,f 28,f 29,f 30,f 31,f 32,f 33,f 34,f 35,.tuple #[.int .i64 0,.int .i64 3,.int .i64 0],f 37,.tuple #[.int .i64 0,.int .i64 3,.int .i64 0],.int .i64 0,.int .i64 3,.int .i64 0,f 42,f 43,f 44,f 45,f 46,f 47,f 48,f 49,f 50,f 51,f 52,f 53,f 54,f 55,f 56,f 57,f 58,f 59,f 60,f 61,f 62,f 63,f 64,f 65,f 66,f 67,f 68,f 69,f 70,f 71,f 72,f 73,f 74,f 75,f 76,f 77,f 78,f 79,f 80,f 81,f 82,f 83,f 84,f 85,f 86,f 87,f 88,f 89,f 90,f 91,f 92,f 93,f 94,f 95,f 96,f 97,f 98,f 99,f 100,f 101,f 102],[]⟩ w
 refine cO (i:=7) (v:=.int .i64 3) (w':=w) rfl rfl rfl ?_
 show fA Tryd.prog [.code .ret] _ (.inRegion qm [8]::_) ⟨#[.bool false,v1,.int .i64 0,.pointer (some ⟨b3,0,none⟩),.int .i64 0,.pointer (some ⟨b5,0,none⟩),.int .i64 0,v7,.int .i64 0,.int .i64 0,.int .i64 3,f 11,f 12,f 13,f 14,f 15,f 16,f 17,f 18,f 19,f 20,f 21,f 22,f 23,f 24,f 25,f 26,f 27,f 28,f 29,f 30,f 31,f 32,f 33,f 34,f 35,.tuple #[.int .i64 0,.int .i64 3,.int .i64 0],f 37,.tuple #[.int .i64 0,.int .i64 3,.int .i64 0],.int .i64 0,.int .i64 3,.int .i64 0,f 42,f 43,f 44,f 45,f 46,f 47,f 48,f 49,f 50,f 51,f 52,f 53,f 54,f 55,f 56,f 57,f 58,f 59,f 60,f 61,f 62,f 63,f 64,f 65,f 66,f 67,f 68,f 69,f 70,f 71,f 72,f 73,f 74,f 75,f 76,f 77,f 78,f 79,f 80,f 81,f 82,f 83,f 84,f 85,f 86,f 87,f 88,f 89,f 90,f 91,f 92,f 93,f 94,f 95,f 96,f 97,f 98,f 99,f 100,f 101,f 102],[]⟩ w
 refine cO (i:=8) (v:=.int .i64 0) (w':=w) rfl rfl rfl ?_
 show fA Tryd.prog [.code .ret] _ (.inRegion qm []::_) ⟨#[.bool false,v1,.int .i64 0,.pointer (some ⟨b3,0,none⟩),.int .i64 0,.pointer (some ⟨b5,0,none⟩),.int .i64 0,v7,.int .i64 0,.int .i64 0,.int .i64 3,.int .i64 0,f 12,f 13,f 14,f 15,f 16,f 17,f 18,f 19,f 20,f 21,f 22,f 23,f 24,f 25,f 26,f 27,f 28,f 29,f 30,f 31,f 32,f 33,f 34,f 35,.tuple #[.int .i64 0,.int .i64 3,.int .i64 0],f 37,.tuple #[.int .i64 0,.int .i64 3,.int .i64 0],.int .i64 0,.int .i64 3,.int .i64 0,f 42,f 43,f 44,f 45,f 46,f 47,f 48,f 49,f 50,f 51,f 52,f 53,f 54,f 55,f 56,f 57,f 58,f 59,f 60,f 61,f 62,f 63,f 64,f 65,f 66,f 67,f 68,f 69,f 70,f 71,f 72,f 73,f 74,f 75,f 76,f 77,f 78,f 79,f 80,f 81,f 82,f 83,f 84,f 85,f 86,f 87,f 88,f 89,f 90,f 91,f 92,f 93,f 94,f 95,f 96,f 97,f 98,f 99,f 100,f 101,f 102],[]⟩ w
 refine dH ?_
 show fA Tryd.prog [.code .ret] _ [.code Zq] ⟨#[.bool false,v1,.int .i64 0,.pointer (some ⟨b3,0,none⟩),.int .i64 0,.pointer (some ⟨b5,0,none⟩),.int .i64 0,v7,.int .i64 0,.int .i64 0,.int .i64 3,.int .i64 0,f 12,f 13,f 14,f 15,f 16,f 17,f 18,f 19,f 20,f 21,f 22,f 23,f 24,f 25,f 26,f 27,f 28,f 29,f 30,f 31,f 32,f 33,f 34,f 35,.tuple #[.int .i64 0,.int .i64 3,.int .i64 0],f 37,.tuple #[.int .i64 0,.int .i64 3,.int .i64 0],.int .i64 0,.int .i64 3,.int .i64 0,f 42,f 43,f 44,f 45,f 46,f 47,f 48,f 49,f 50,f 51,f 52,f 53,f 54,f 55,f 56,f 57,f 58,f 59,f 60,f 61,f 62,f 63,f 64,f 65,f 66,f 67,f 68,f 69,f 70,f 71,f 72,f 73,f 74,f 75,f 76,f 77,f 78,f 79,f 80,f 81,f 82,f 83,f 84,f 85,f 86,f 87,f 88,f 89,f 90,f 91,f 92,f 93,f 94,f 95,f 96,f 97,f 98,f 99,f 100,f 101,f 102],[]⟩ w
 refine au (aA ?_)
 go_wp2_with (first|(fail)|(go_at_call 42;refine aH hS ⟨_,y9 _ _ _ _ _,?_⟩;clear hS;(try clear w');intro w' hS) |
  ((with_reducible refine uP ?_);refine zU hS rfl (oP (a:=⟨1,0,20,1⟩) rfl rfl) ?_;clear hS;(try clear w');intro bm a' hp;(try simp only[fr]at hp);subst hp;intro w' hS;obtain⟨V2,hV2,hc2,hS2⟩:=pin hS;clear hS;have hS:=hS2;clear hS2) |
  (go_at_call 75;refine Ba hS (hB.mono hV2) hc2 ?_;clear hS;(try clear w');intro V3 vv3 rv3 w' hV3 hk3 hS) |
  (go_at_call 51;refine JC hS ((hB.mono hV2).mono hV3) hk3 NZ ?_;clear hS;(try clear w');intro w' hS))
 have hB3:Bs V3:=(hB.mono hV2).mono hV3
 have h1':VI V3 v1 [29,15,11,15]:=pW.mono (pW.mono h1 hV2) hV3
 have h7':VI V3 v7 [1]:=pW.mono (pW.mono h7 hV2) hV3
 have hr3:V3.Range b3 0 [.int .i64 15,.int .i64 17]:=fun j v hj=>by rw[Nat.zero_add];exact((h3 j v hj).mono hV2).mono hV3
 have hr5:V3.Range b5 0 [.int .i64 1,.int .i64 5]:=fun j v hj=>by rw[Nat.zero_add];exact((h5 j v hj).mono hV2).mono hV3
 clear h1 h7 h3 h5 hc2
 refine au (aA ?_)
 go_wp2_with (first|(((with_reducible refine gL ?_);refine zQ hS rfl rfl rfl ?_);refine⟨_,zd,?_⟩;clear hS;(try clear w');refine zF ?_;intro w' hS)|((with_reducible refine aaX ?_);first|(refine Gx rfl (TD rfl rfl rfl) ?_;refine zF ?_)|(refine Gx rfl (Sm rfl rfl rfl) ?_;refine zF ?_)) |
  (((with_reducible refine uP ?_);refine rE hS rfl rfl ?_;refine⟨_,zq,zd,?_⟩;clear hS;(try clear w');intro _;refine zF ?_;intro w' hS);obtain⟨V4,hV4,hc4,hS4⟩:=pin hS;clear hS;have hS:=hS4;clear hS4) |
  (go_at_call 31;first|(refine zu hS (pW.mono h1' hV4) (YD (l:=[29,15,11,15]) (by decide) hc4) (by decide) (by decide) rfl ?_;clear hS;(try clear w');clear h1';intro w' hS;replace h7':=pW.mono h7' hV4;clear hc4 hV4)|(refine zu hS (pW.mono h7' hV4) (YD (l:=[1]) (by decide) hc4) (by decide) (by decide) rfl ?_;clear hS;(try clear w');intro w' hS)))
 exact bG (tgt:=[.code .ret]) ⟨rfl,rfl,hS.bM⟩
theorem Oh {b:Frame} {cs:List Frame} {Q:Goroutine->World->Prop} {a:Act} {N:FuncId} {args:Array Value} {R:Ending->World->Prop} {ops:Array Oper} {l:List Nat} {k0:List Item} {i:Nat} {o:Oper} (hc:kL Tryd.prog N args w R) (hh:ay OC w) (hbk:b.kind=.normal)
  (ho:ops[i]? = some o) (hw:Region.wanted o (yielded ops a.tmps)=true) (hok':qj true o.op=true) (hr:∀ w,(execOp a.eval o).run Tryd.prog w=.ok (.enter N args) w) (hpan:∀ ch w,¬ R (.panicked ch) w)
  (hk:∀ v w',R (.returned v) w'->ay OC w'->kU Tryd.prog (G (b.at (a.put o.dst v) (.inRegion ops l::k0)) cs) w' Q):kU Tryd.prog (G (b.at a (.inRegion ops (i::l)::k0)) cs) w Q:=by
 refine Ou lT ho hw (by rw[hbk];decide) hok' hh (fun _ _ _=>trivial) fun d=>?_
 rw[hr]
 intro hhd
 have hat:∀ {Q:Goroutine->World->Prop} {g:Goroutine},kU Tryd.prog g w Q->kU Tryd.prog g (w.at d) Q:=fun h=>h.at
 exact hat (xI ho hc (fun v w1 hv hh1=>hk v w1 hv hh1) fun ch w1 hv _=>(hpan ch w1 hv).elim)
theorem Vo {P:Program} {b:Frame} {cs:List Frame} {a:Act} {f:FuncId} {fn:Func} {v:Value} {R:Ending->World->Prop} {k0:List Item} (hb:b.fn=f) (hbk:b.kind=.normal) (hd:a.defers=[]) (hf:P.funcs[f]? = some fn) (hw:ay OC w) (hr:(results fn a.tmps).run P w=.ok v w) (hR:R (.returned v) w) (hins:Ins R) :
  kU P (G (b.at a (.code .ret::k0)) cs) w (fun a' w'=>∃ e fr,a'=G fr cs/\R e w'/\fr.fn=f/\fr.leaving P w' e/\e≠.outgrown/\ay OC w') :=
 CV (Hz hb hbk hd hf hw hr hR hins)
theorem TB (hB:Bs V) (hV:V.In w) (hh:ay OC w):kL Tryd.prog 21 #[] w fun r w'=>r=.returned (.bool true)/\Kp w w':=by
 refine jD Tryd.func21 (show Tryd.f21.body=some B21 from rfl) fun cs b hbf hbk hbr=>?_
 have e103:Tryd.f21.ntmps-(#[]:Array Value).size=103:=by kernel_rfl
 rw[e103]
 obtain⟨tm0,htm⟩:∃ tm0,(#[]:Array Value) ++ Array.replicate 103 undef=tm0:=⟨_,rfl⟩
 rw[htm]
 refine vI (tgt:=[.inRegion Gv [1,2,3,4,5,6,7],.code Yz]) hbf hbk (show[Item.code B21].all qy=true by kernel_rfl) (fun d hd=>nomatch hd) hh (S:=Wd1 w V)
  (fun a w' τ d ⟨V',vv,rv,v1,b3,h1,h2,h3,h4,h5,h6,h7⟩=>⟨V',vv,rv,v1,b3,h1,h2,h3,h4,h5,h6,h7.re1 τ d⟩) (fun τ d=>?_) ?_
 ·rw [<- htm]
  refine(U2 (w:=w.re τ d) hB hV).mono ?_
  rintro a w' ⟨V',vv,rv,v1,b3,h1,h2,h3,h4,h5,h6,h7⟩
  exact⟨V',vv,rv,v1,b3,h1,h2,h3,h4,h5,h6,h7.re0⟩
 rintro a w1 ⟨V1,vv,rv,v1,b3,⟨f,rfl⟩,hV1,hk1,hv1,ho1,hc3,hS1⟩ hh1
 have hB1:=hB.mono hV1
 have hL:=ZB vv rv (nJ []) hk1 hB1.gv hS1.view hh1
 rw[Vg]at hL
 refine Oh (i:=1) (o:=Gv[1]!) hL hh1 hbk rfl rfl rfl (fun w=>?_) (fun ch w h=>nomatch h.1) ?_
 ·rw [run_call_body rfl Tryd.func40 (by kernel_rfl) rfl]
  simp only[List.map_toArray,List.map_cons,List.map_nil]
  rfl
 rintro v w2 ⟨hv,hk2⟩ hh2
 cases hv
 have hS2:=hS1.kp hk2
 obtain⟨a2,ha2⟩:∃ a2:Act,a2=⟨#[.bool false,v1,.int .i64 0,.pointer (some ⟨b3,0,none⟩),.int .i64 0,f 5,f 6,f 7,f 8,f 9,f 10,f 11,f 12,f 13,f 14,f 15,f 16,f 17,f 18,f 19,f 20,f 21,f 22,f 23,f 24,.agg #[vv,rv],.tuple #[.agg #[.int .i64 1,.int .i64 5],.int .i64 0],f 27,f 28,f 29,f 30,f 31,f 32,f 33,f 34,f 35,f 36,f 37,f 38,f 39,f 40,f 41,f 42,f 43,f 44,f 45,f 46,f 47,f 48,f 49,f 50,f 51,f 52,f 53,f 54,f 55,f 56,f 57,f 58,f 59,f 60,f 61,f 62,f 63,f 64,f 65,f 66,f 67,f 68,f 69,f 70,f 71,f 72,f 73,f 74,f 75,f 76,f 77,f 78,f 79,f 80,f 81,f 82,f 83,f 84,f 85,f 86,f 87,f 88,f 89,f 90,f 91,f 92,f 93,f 94,f 95,f 96,f 97,f 98,f 99,f 100,f 101,f 102],[]⟩:=⟨_,rfl⟩
 have eA:(Act.put ⟨#[.bool false,v1,.int .i64 0,.pointer (some ⟨b3,0,none⟩),.int .i64 0,f 5,f 6,f 7,f 8,f 9,f 10,f 11,f 12,f 13,f 14,f 15,f 16,f 17,f 18,f 19,f 20,f 21,f 22,f 23,f 24,.agg #[vv,rv],f 26,f 27,f 28,f 29,f 30,f 31,f 32,f 33,f 34,f 35,f 36,f 37,f 38,f 39,f 40,f 41,f 42,f 43,f 44,f 45,f 46,f 47,f 48,f 49,f 50,f 51,f 52,f 53,f 54,f 55,f 56,f 57,f 58,f 59,f 60,f 61,f 62,f 63,f 64,f 65,f 66,f 67,f 68,f 69,f 70,f 71,f 72,f 73,f 74,f 75,f 76,f 77,f 78,f 79,f 80,f 81,f 82,f 83,f 84,f 85,f 86,f 87,f 88,f 89,f 90,f 91,f 92,f 93,f 94,f 95,f 96,f 97,f 98,f 99,f 100,f 101,f 102],[]⟩ (some 26) (.tuple #[aJ (1,5),.int .i64 0]))=a2:=by rw[ha2];rfl
 show kU Tryd.prog (G (b.at (Act.put ⟨#[.bool false,v1,.int .i64 0,.pointer (some ⟨b3,0,none⟩),.int .i64 0,f 5,f 6,f 7,f 8,f 9,f 10,f 11,f 12,f 13,f 14,f 15,f 16,f 17,f 18,f 19,f 20,f 21,f 22,f 23,f 24,.agg #[vv,rv],f 26,f 27,f 28,f 29,f 30,f 31,f 32,f 33,f 34,f 35,f 36,f 37,f 38,f 39,f 40,f 41,f 42,f 43,f 44,f 45,f 46,f 47,f 48,f 49,f 50,f 51,f 52,f 53,f 54,f 55,f 56,f 57,f 58,f 59,f 60,f 61,f 62,f 63,f 64,f 65,f 66,f 67,f 68,f 69,f 70,f 71,f 72,f 73,f 74,f 75,f 76,f 77,f 78,f 79,f 80,f 81,f 82,f 83,f 84,f 85,f 86,f 87,f 88,f 89,f 90,f 91,f 92,f 93,f 94,f 95,f 96,f 97,f 98,f 99,f 100,f 101,f 102],[]⟩ (some 26) (.tuple #[aJ (1,5),.int .i64 0])) (.inRegion Gv [2,3,4,5,6,7]::[.code Yz])) cs) w2 _
 rw[eA,ha2]
 refine vI (tgt:=[.inRegion qm [1,2,3,4,5,6,7,8],.code Zq]) hbf hbk (by kernel_rfl) (fun d hd=>nomatch hd) hh2 (S:=Wd2 w2 V1 v1 b3)
  (fun a w' τ d ⟨V',vv,rv,v1,b3,h1,h2,h3,h4,h5,h6,h7⟩=>⟨V',vv,rv,v1,b3,h1,h2,h3,h4,h5,h6,h7.re1 τ d⟩) (fun τ d=>?_) ?_
 ·refine (Vp (w:=w2.re τ d) hB1 hS2.view v1 b3 (fun j=>if j=25 then .agg #[vv,rv] else f j)).mono ?_
  rintro a w' ⟨V',vv,rv,v1,b3,h1,h2,h3,h4,h5,h6,h7⟩
  exact⟨V',vv,rv,v1,b3,h1,h2,h3,h4,h5,h6,h7.re0⟩
 clear eA ha2
 rintro a w3 ⟨V3,vv3,rv3,v7,b5,⟨f3,rfl⟩,hV3,hk3,hv7,ho7,hc5,hS3⟩ hh3
 have hB3:=hB1.mono hV3
 have hN:=Zn vv3 rv3 (nJ []) hk3 hB3.gv hS3.view hh3 0
 rw[Xa]at hN
 refine Oh (i:=1) (o:=qm[1]!) hN hh3 hbk rfl rfl rfl (fun w=>?_) (fun ch w h=>nomatch h.1) ?_
 ·rw [run_call_body rfl Tryd.func43 (by kernel_rfl) rfl]
  simp only[List.map_toArray,List.map_cons,List.map_nil]
  rfl
 rintro v w4 ⟨hv,hk4⟩ hh4
 cases hv
 have hS4:=hS3.kp hk4
 have hkp:=((hS1.bM.trans hk2).trans hS3.bM).trans hk4
 obtain⟨a4,ha4⟩:∃ a4:Act,a4=⟨#[.bool false,v1,.int .i64 0,.pointer (some ⟨b3,0,none⟩),.int .i64 0,.pointer (some ⟨b5,0,none⟩),.int .i64 0,v7,.int .i64 0,f3 9,f3 10,f3 11,f3 12,f3 13,f3 14,f3 15,f3 16,f3 17,f3 18,f3 19,f3 20,f3 21,f3 22,f3 23,f3 24,f3 25,f3 26,f3 27,f3 28,f3 29,f3 30,f3 31,f3 32,f3 33,f3 34,f3 35,f3 36,.agg #[vv3,rv3],.tuple #[.int .i64 0,.int .i64 3,.int .i64 0],f3 39,f3 40,f3 41,f3 42,f3 43,f3 44,f3 45,f3 46,f3 47,f3 48,f3 49,f3 50,f3 51,f3 52,f3 53,f3 54,f3 55,f3 56,f3 57,f3 58,f3 59,f3 60,f3 61,f3 62,f3 63,f3 64,f3 65,f3 66,f3 67,f3 68,f3 69,f3 70,f3 71,f3 72,f3 73,f3 74,f3 75,f3 76,f3 77,f3 78,f3 79,f3 80,f3 81,f3 82,f3 83,f3 84,f3 85,f3 86,f3 87,f3 88,f3 89,f3 90,f3 91,f3 92,f3 93,f3 94,f3 95,f3 96,f3 97,f3 98,f3 99,f3 100,f3 101,f3 102],[]⟩:=⟨_,rfl⟩
 have eA:(Act.put ⟨#[.bool false,v1,.int .i64 0,.pointer (some ⟨b3,0,none⟩),.int .i64 0,.pointer (some ⟨b5,0,none⟩),.int .i64 0,v7,.int .i64 0,f3 9,f3 10,f3 11,f3 12,f3 13,f3 14,f3 15,f3 16,f3 17,f3 18,f3 19,f3 20,f3 21,f3 22,f3 23,f3 24,f3 25,f3 26,f3 27,f3 28,f3 29,f3 30,f3 31,f3 32,f3 33,f3 34,f3 35,f3 36,.agg #[vv3,rv3],f3 38,f3 39,f3 40,f3 41,f3 42,f3 43,f3 44,f3 45,f3 46,f3 47,f3 48,f3 49,f3 50,f3 51,f3 52,f3 53,f3 54,f3 55,f3 56,f3 57,f3 58,f3 59,f3 60,f3 61,f3 62,f3 63,f3 64,f3 65,f3 66,f3 67,f3 68,f3 69,f3 70,f3 71,f3 72,f3 73,f3 74,f3 75,f3 76,f3 77,f3 78,f3 79,f3 80,f3 81,f3 82,f3 83,f3 84,f3 85,f3 86,f3 87,f3 88,f3 89,f3 90,f3 91,f3 92,f3 93,f3 94,f3 95,f3 96,f3 97,f3 98,f3 99,f3 100,f3 101,f3 102],[]⟩ (some 38) (.tuple #[.int .i64 0,.int .i64 3,.int .i64 0]))=a4:=by rw[ha4];rfl
 show kU Tryd.prog (G (b.at (Act.put ⟨#[.bool false,v1,.int .i64 0,.pointer (some ⟨b3,0,none⟩),.int .i64 0,.pointer (some ⟨b5,0,none⟩),.int .i64 0,v7,.int .i64 0,f3 9,f3 10,f3 11,f3 12,f3 13,f3 14,f3 15,f3 16,f3 17,f3 18,f3 19,f3 20,f3 21,f3 22,f3 23,f3 24,f3 25,f3 26,f3 27,f3 28,f3 29,f3 30,f3 31,f3 32,f3 33,f3 34,f3 35,f3 36,.agg #[vv3,rv3],f3 38,f3 39,f3 40,f3 41,f3 42,f3 43,f3 44,f3 45,f3 46,f3 47,f3 48,f3 49,f3 50,f3 51,f3 52,f3 53,f3 54,f3 55,f3 56,f3 57,f3 58,f3 59,f3 60,f3 61,f3 62,f3 63,f3 64,f3 65,f3 66,f3 67,f3 68,f3 69,f3 70,f3 71,f3 72,f3 73,f3 74,f3 75,f3 76,f3 77,f3 78,f3 79,f3 80,f3 81,f3 82,f3 83,f3 84,f3 85,f3 86,f3 87,f3 88,f3 89,f3 90,f3 91,f3 92,f3 93,f3 94,f3 95,f3 96,f3 97,f3 98,f3 99,f3 100,f3 101,f3 102],[]⟩ (some 38) (.tuple #[.int .i64 0,.int .i64 3,.int .i64 0])) (.inRegion qm [2,3,4,5,6,7,8]::[.code Zq])) cs) w4 _
 rw[eA,ha4]
 refine vI (tgt:=[.code .ret]) hbf hbk (by kernel_rfl) (fun d hd=>nomatch hd) hh4 (S:=fun a w'=>a.tmps[0]? = some (.bool true)/\a.defers=[]/\Kp w4 w')
  (fun a w' τ d h=>⟨h.1,h.2.1,adC h.2.2 τ d⟩) (fun τ d=>?_) ?_
 ·refine (UN (w:=w4.re τ d) hB3 hS4.view v1 v7 b3 b5 ho1 ho7 (pW.mono hv1 hV3) hv7 (fun i v h=>(hc3 i v h).mono hV3) hc5 (fun j=>if j=37 then .agg #[vv3,rv3] else f3 j)).mono ?_
  rintro a w' ⟨h1,h2,h3⟩
  exact⟨h1,h2,uq h3⟩
 rintro a w5 ⟨h0,hd,hk5⟩ hh5
 have g:a.tmps.getD 0 undef=.bool true:=by
  rw[Array.getD_eq_getD_getElem?,h0]
  rfl
 refine Vo (v:=.bool true) hbf hbk hd Tryd.func21 hh5 ?_ ⟨rfl,hkp.trans hk5⟩ xM
 have h:=results_tmp (fn:=Tryd.f21) (t:=0) (by kernel_rfl) a.tmps Tryd.prog w5
 rw[g]at h
 exact h
theorem oZ {P:Program} {l:List Oper} {md:Region.Mode} {o:Oper} {a:Act} {Q:Exit->Act->World->Prop} {S:World->Prop} {fuel:Nat} {listed:Array Bool} (i:Nat) (hr:Region.ready md l.toArray listed=[i]) (hi₀:l[i]? = some o) (hw:Region.wanted o (yielded l.toArray a.tmps)=true)
  (h:∃ f args,(execOp a.eval o).run P w=.ok (.enter f args) w/\Calls P f args w fun e w'=>∃ v,e=.returned v/\∀ a' l',a.put o.dst v=a'->listed.setIfInBounds i true=l'->S w'/\wpAnyH P md l.toArray Q S fuel l' a' w'):wpAnyH P md l.toArray Q S (fuel+1) listed a w:=by
 obtain⟨f,args,hr',hc⟩:=h
 exact mG hr (yB (R:=fun v w'=>∀ a' l',a.put o.dst v=a'->listed.setIfInBounds i true=l'->S w'/\wpAnyH P md l.toArray Q S fuel l' a' w') (jV hi₀) hw hr' hc fun v w' h=>h _ _ rfl rfl)
theorem adD {w0:World} {X:List Nat} {L:List dF} {f:FuncId} {args:Array Value} {R:Ending->World->Prop} {l:List Int} (hS:St w0 X V L w) (hc:Calls Tryd.prog f args w fun r w'=>∃ u,r=.returned u/\Kp w w'/\tY w w' u l)
  (h:∀ (V':View) (v:Value) (w':World),(∀ j o,V j=some o->V' j=some o)->VI V' v l->v.oneCell'=true->St w0 X V' L w'->R (.returned v) w'):Calls Tryd.prog f args w R :=
 hc.mono fun r w' ⟨v,he,hk,ho⟩=>by
  obtain⟨V',hV',hS',hv⟩:=Um hS hk ho
  subst he
  obtain⟨a,cap,hi,_⟩:=hv.is
  exact h V' v w' hV' ⟨⟨a,cap,hi,‹_›⟩⟩ (by rw[hi];rfl) hS'
theorem wO {v:Value} {n sz:Nat} {get:Nat->List Value} (h:pW V v n sz get):v.oneCell'=true:=by
 obtain⟨a,cap,rfl,_⟩:=h.is
 rfl
theorem IU {V V':View} {v:Value} {l:List Int} (h:VI V v l) (hV:∀ j o,V j=some o->V' j=some o):VI V' v l:=pW.mono h hV
end Go.Proofs.YtjjmefieegcddaaDoor
namespace Go.Mm
open Go
variable {P:Program} {w0:World} {X:List Nat} {V:View} {L:List dF} {w:World}
variable {l:List Oper} {md:Region.Mode} {o:Oper} {a:Act} {Q:Exit->Act->World->Prop} {S:World->Prop} {fuel:Nat} {listed:Array Bool}
theorem gHd {l:Array Oper} (h:wpAnyH P md l Q S fuel listed a w):wpAnyH P md l Q S fuel listed a w:=h
end Go.Mm
namespace Go.Mm
open Go Go.Wg Go.Proofs.YtjjmefieegcddaaDoor
variable {w w' w0:World} {X:List Nat} {V:View} {L:List dF}
structure afV (w:World) (V V':View):Prop where
 up:∀ j o,V j=some o->V' j=some o
 new:∀ j o,V' j=some o->V j=some o\/w.heap.size<=j
theorem afV.rfl {w:World} {V:View}:afV w V V:=⟨fun _ _ h=>h,fun _ _ h=>.inl h⟩
theorem afV.trans {V1 V2 V3:View} (h:afV w V1 V2) (h':afV w V2 V3):afV w V1 V3:=⟨fun j o hj=>h'.up j o (h.up j o hj),fun j o hj=>(h'.new j o hj).elim (fun h1=>h.new j o h1) .inr⟩
theorem St.ahu (h:St w0 X V L w) {Lc:List dF} {Vc:View} (hc:St w [] Vc Lc w') (hV:afV w V Vc):St w0 X Vc (Lc ++ L) w':=by
 have h1:=h.Nq hc
 refine⟨h1.os,h1.output,h1.size,h1.old,hc.view,h1.has,h1.new,fun e he b hb=>?_,h1.nd⟩
 rcases List.mem_append.1 he with he|he
 ·exact hc.off e he b hb
 ·cases hb':Vc b with
  |none=>rfl
  | some o =>
   have:=h.lt he hb
   rcases hV.new b o hb' with h2|h2
   ·rw [h.off e he b hb] at h2
    cases h2
   ·omega
theorem af9 {t:TypeId} {us:List Value} {v:Value} (h:St w0 [] V (.row v t 1 us.length us::L) w):∃ V',afV w0 V V'/\St w0 [] V' L w/\Go.Wg.pW V' v us.length 1 fun j=>[us.getD j undef]:=by
 rcases rO h with⟨rfl,h0⟩|⟨g,cap,pad,rfl,c1,c2,c3,c4,c5,h1⟩
 ·exact⟨V,.rfl,h.drop,⟨⟨none,0,by rw[h0],by omega,by decide,fun hn=>by omega⟩⟩⟩
 ·have hgV:=h1.off _ (List.mem_cons_self ..) g rfl
  have hgn:w0.heap.size<=g:=by
   rcases h1.new _ (List.mem_cons_self ..) _ rfl with h2|h2
   ·exact h2
   ·cases h2
  refine⟨_,⟨oG hgV,fun j o hj=>?_⟩,h1.freeze,⟨⟨_,cap,rfl,c1,c2,fun _=>⟨g,0,rfl,fun i hi j u hj=>?_⟩⟩⟩⟩
  ·by_cases e:j=g
   ·subst e;exact .inr hgn
   ·rw[if_neg e]at hj;exact .inl hj
  ·obtain rfl:j=0:=by
    cases j with
    |zero=>rfl
    |succ j=>simp at hj
   simp only[List.getElem?_cons_zero,Option.some.injEq]at hj
   subst hj
   refine⟨_,_,_,if_pos rfl,?_⟩
   rw[List.getElem?_toArray,Nat.mul_one,Nat.zero_add,Nat.add_zero,List.getElem?_append_left hi,List.getD_eq_getElem?_getD,List.getElem?_eq_getElem hi]
   rfl
end Go.Mm
namespace Go.Proofs.YtjjmefieegcddaaDoor
open Go.RowKit Go.Wg Go.Mm
variable {w:World} {V:View}
theorem ag3 {w0:World} {L:List dF} {l:List Int} {v:Value} (h:St w0 [] V (.row v 3 1 l.length (aV l)::L) w):∃ V',afV w0 V V'/\St w0 [] V' L w/\VI V' v l:=by
 have h2:St w0 [] V (.row v 3 1 (aV l).length (aV l)::L) w:=by rw[iD];exact h
 obtain⟨V',h3,h4,a,cap,h5,h6,h7,h8⟩:=af9 h2
 rw[iD]at h5 h6 h8
 refine⟨V',h3,h4,⟨a,cap,h5,h6,h7,fun hn=>?_⟩⟩
 obtain⟨g,off,h9,h10⟩:=h8 hn
 refine⟨g,off,h9,fun i hi=>?_⟩
 have:=h10 i hi
 have e:(aV l).getD i undef=.int .i64 (l.getD i 0):=by
  rw[List.getD_eq_getElem?_getD,nI rfl hi]
  rfl
 rw[e]at this
 exact this
structure VLL (V:View) (v:Value) (ls:List (List Int)):Prop where
 is:∃ us:List Value,us.length=ls.length/\pW V v ls.length 1 (fun j=>[us.getD j undef])/\∀ j,j<ls.length->VI V (us.getD j undef) (ls.getD j [])
theorem VLL.mono {V V':View} {v:Value} {ls:List (List Int)} (h:VLL V v ls) (hV:∀ j o,V j=some o->V' j=some o):VLL V' v ls:=by
 obtain⟨us,h1,h2,h3⟩:=h.is
 exact⟨us,h1,pW.mono h2 hV,fun j hj=>IU (h3 j hj) hV⟩
theorem VLL.one {v:Value} {ls:List (List Int)} (h:VLL V v ls):v.oneCell'=true:=by
 obtain⟨us,h1,h2,h3⟩:=h.is
 exact wO h2
theorem ahv {ops:Array Oper} {o:Oper} {rest:List Oper} {a:Act} {Q:Exit->Act->World->Prop} (hgd:Region.wanted o (yielded ops a.tmps)=true) {R:Value->World->Prop} (hr:∃ v w',(execOp a.eval o).run Tryd.prog w=.ok (.value v) w'/\R v w')
  (h:∀ v w',R v w'->∀ a',a.put o.dst v=a'->wpList Tryd.prog ops Q rest a' w'):wpList Tryd.prog ops Q (o::rest) a w:=by
 obtain⟨v,w',h1,h2⟩:=hr
 exact dU hgd h1 (h v w' h2 _ rfl)
theorem ahe {w0:World} {L:List dF} {X:List Nat} (hS:St w0 X V L w) {o:Oper} {ρ:Operand->Value} (ho:o.op=.buildSlice 30 0 #[]):∃ v w',(execOp ρ o).run Tryd.prog w=.ok (.value v) w'/\St w0 X V (.row v 3 1 0 (aV [])::L) w':=by
 refine⟨.slice (some ⟨w.heap.size,0,none⟩) 0 0,w.alloc (.cells (aV []).toArray 3),?_,Fv (n:=0) (s:=1) (hS.alloc 3 (aV [])) rfl (by decide)⟩
 unfold execOp
 simp only[ho]
 kernel_rfl
theorem agO (l:List Int):∀ u∈aV l,u.oneCell'=true:=fun u hu=>by
 obtain⟨n,_,rfl⟩:=List.mem_map.1 hu
 rfl
theorem agx {l:List Int} {g off:Nat} (h:∀ i,i<l.length->V.Range g (off+i * 1) [.int .i64 (l.getD i 0)]):V.Range g off (aV l):=fun j v hj=>by
 have hl:j<l.length:=by
  have:=(List.getElem?_eq_some_iff.1 hj).1
  rwa [iD]at this
 rw[nI rfl hl]at hj
 have h1:=h j hl 0 v hj
 rwa [Nat.mul_one,Nat.add_zero]at h1
theorem ahj {lv:Value} {l:List Int} (hl:VI V lv l) (hn:l.length<=100) (hV:V.In w) :
  Calls Tryd.prog 111 #[lv] w fun e w'=>∃ u,e=.returned u/\St w [] V [.row u 3 1 l.length (aV l)] w':=by
 obtain⟨la,lcap,rfl,hlc,hlm,hle⟩:=hl.is
 have hS:=St.start w V hV
 have hrng:0<l.length->∃ b off,la=some ⟨b,off,none⟩/\V.Range b off (aV l):=fun h=>by
  obtain⟨g,off,h1,h2⟩:=hle h
  exact⟨g,off,h1,agx h2⟩
 have hnl:(aV l).length=l.length * 1:=by rw[iD,Nat.mul_one]
 have hcc:aV l=aV [] ++ aV l:=rfl
 clear hl hle
 go_enter Tryd.func111,Tryd.ntmps111
 go_wp2_with (first|((with_reducible refine uP ?_);refine ahv rfl (ahe hS rfl) ?_;clear hS;(try clear w');intro v3 w' hS a' hp;(try simp only[fr]at hp);subst hp)|((with_reducible refine Q5 ?_);refine ahv rfl (ql (v:=v3) hS rfl rfl rfl hrng hnl (agO _) (by omega)) ?_;clear hS;(try clear w');intro v5 w' hS a' hp;(try simp only[fr]at hp);subst hp;(try simp only[sE]at hS);have hv5:=dY hS v5))
 ((try simp only[Exit.inBlock,Exit.then]);(try refine aB ?_);refine bK ⟨_,by exact bH (r1:=.tmp 2) (by kernel_rfl) (by exact bD rfl),?_⟩ rfl)
 refine⟨_,rfl,?_⟩
 rw[Nat.zero_add,<- hcc]at hS
 exact hS.aG
end Go.Proofs.YtjjmefieegcddaaDoor
namespace Go.Proofs.YtjjmefieegcddaaDoor
open Go.RowKit Go.Wg Go.Mm
variable {w:World} {V:View}
theorem one_one {a:Value} (h:a.oneCell'=true):∀ v∈[a],v.oneCell'=true:=fun v hv=>by rw[List.mem_singleton]at hv;rw[hv];exact h
structure afM (V:View) (us:List Value) (ls:List (List Int)):Prop where
 len:us.length=ls.length
 at_:∀ j,j<ls.length->VI V (us.getD j undef) (ls.getD j [])
theorem afM.mono {V V':View} {us:List Value} {ls:List (List Int)} (h:afM V us ls) (hV:∀ j o,V j=some o->V' j=some o):afM V' us ls:=⟨h.len,fun j hj=>IU (h.at_ j hj) hV⟩
theorem afM.nil (V:View):afM V [] []:=⟨rfl,fun j hj=>absurd hj (by simp)⟩
theorem afM.add {us:List Value} {ls:List (List Int)} (h:afM V us ls) {u:Value} {l:List Int} (hu:VI V u l):afM V (us ++ [u]) (ls ++ [l]):=by
 refine⟨by simp[h.len],fun j hj=>?_⟩
 have hj':j<ls.length+1:=by simpa using hj
 by_cases e:j<ls.length
 ·have:=h.at_ j e
  rwa [List.getD_eq_getElem?_getD,List.getElem?_append_left (by rw[h.len];exact e),List.getD_eq_getElem?_getD,List.getElem?_append_left e,<- List.getD_eq_getElem?_getD,<- List.getD_eq_getElem?_getD]
 ·obtain rfl:j=ls.length:=by omega
  rw[List.getD_eq_getElem?_getD,List.getElem?_append_right (by rw[h.len];exact Nat.le_refl _),List.getD_eq_getElem?_getD,List.getElem?_append_right (Nat.le_refl _),h.len,Nat.sub_self]
  exact hu
theorem afM.vll {us:List Value} {ls:List (List Int)} {v:Value} (h:afM V us ls) (hv:pW V v us.length 1 fun j=>[us.getD j undef]):VLL V v ls:=⟨⟨us,h.len,by rw[<- h.len];exact hv,h.at_⟩⟩
theorem agY {w0:World} {L:List dF} {l:List Int} {y:Int} {v:Value} (h:St w0 [] V (.row v 3 1 (l.length+1) (aV l ++ [.int .i64 y])::L) w):∃ V',afV w0 V V'/\St w0 [] V' L w/\VI V' v (l ++ [y]):=by
 have h2:St w0 [] V (.row v 3 1 (l ++ [y]).length (aV (l ++ [y]))::L) w:=by
  have e1:aV (l ++ [y])=aV l ++ [.int .i64 y]:=by simp[aV]
  rw[e1,List.length_append]
  exact h
 exact ag3 h2
theorem agK {w0:World} {L:List dF} {g:Nat} (h:St w0 [] V (.blk g 30 [.slice none 0 0]::L) w):∃ V',afV w0 V V'/\St w0 [] V' L w/\VLL V' (.slice (some ⟨g,0,none⟩) 1 1) [[]]:=by
 obtain⟨V',h1,h2,h3⟩:=af9 (us:=[.slice none 0 0]) (Fv (n:=1) (s:=1) h rfl (by decide))
 exact⟨V',h1,h2,⟨⟨[.slice none 0 0],rfl,h3,fun j hj=>by
  obtain rfl:j=0:=by simp at hj;omega
  exact⟨⟨none,0,rfl,Nat.le_refl _,by decide,fun hn=>absurd hn (by decide)⟩⟩⟩⟩⟩
end Go.Proofs.YtjjmefieegcddaaDoor
namespace Go.Wg
open Go Go.Mm Go.Proofs.YtjjmefieegcddaaDoor
structure Holds (g:Gr) (P:Nat->Int->Prop):Prop where
 wf:g.WF
 has:∀ n,g.has.testBit n=true↔∃ y,P n y
 lo:∀ n,g.has.testBit n=true->P n (g.get n).1
 hi:∀ n,g.has.testBit n=true->P n (g.get n).2
 all:∀ n y,P n y->(g.get n).1<=y/\y<=(g.get n).2
theorem acM {x n:Nat} (h1:x<2199023255552) (h:x.testBit n=true):n<=40:=by
 rcases Nat.lt_or_ge n 41 with h2|h2
 ·omega
 ·have:x.testBit n=false:=Nat.testBit_lt_two_pow (Nat.lt_of_lt_of_le h1 (by
   rw[show(2199023255552:Nat)=2 ^ 41 by decide]
   exact Nat.pow_le_pow_right (by decide) h2))
  rw[this]at h;cases h
theorem Holds.small {g:Gr} {P:Nat->Int->Prop} (h:Holds g P) {n:Nat} {y:Int} (hp:P n y):n<=40:=acM h.wf.small ((h.has n).2 ⟨y,hp⟩)
theorem Holds.congr {g:Gr} {P Q:Nat->Int->Prop} (h:Holds g P) (e:∀ n y,P n y↔Q n y):Holds g Q:=by
 have:P=Q:=funext fun n=>funext fun y=>propext (e n y)
 rwa [<- this]
theorem abS (g:Gr) (n:Nat) (v:Int × Int) (m:Nat):(g.add n v).has.testBit m=(g.has.testBit m || decide (n=m)):=by
 show(g.has ||| 2 ^ n).testBit m=_
 rw[Nat.testBit_or,Nat.testBit_two_pow]
theorem add_get (g:Gr) (hg:g.WF) {n:Nat} (hn:n<41) (v:Int × Int) (m:Nat):(g.add n v).get m=if n=m then(if g.has.testBit n then sO (g.get n) v else v) else g.get m:=by
 have hl:=hg.len
 show(g.at_.set n _).getD m (0,0)=_
 rw[fC _ _ _ _ _ (by omega)]
 rfl
theorem Holds.add {g:Gr} {P:Nat->Int->Prop} (h:Holds g P) {n:Nat} (hn:n<41) {Q:Int->Prop} {v:Int × Int} (h1:Q v.1) (h2:Q v.2) (ha:∀ y,Q y->v.1<=y/\y<=v.2):Holds (g.add n v) fun m y=>P m y\/(m=n/\Q y):=by
 have hv:=ha _ h1
 refine⟨h.wf.add hn v,fun m=>?_,fun m hm=>?_,fun m hm=>?_,fun m y hy=>?_⟩
 ·rw [abS,Bool.or_eq_true,decide_eq_true_eq,h.has]
  constructor
  ·rintro (⟨y,hy⟩ | rfl)
   ·exact⟨y,.inl hy⟩
   ·exact⟨_,.inr ⟨rfl,h1⟩⟩
  ·rintro ⟨y,hy | ⟨rfl,_⟩⟩
   ·exact .inl ⟨y,hy⟩
   ·exact .inr rfl
 ·rw [abS,Bool.or_eq_true,decide_eq_true_eq] at hm
  rw[add_get g h.wf hn]
  by_cases e:n=m
  ·subst e
   rw[if_pos rfl]
   split
   ·rename_i hb
    show P n (min (g.get n).1 v.1)\/(n=n/\Q (min (g.get n).1 v.1))
    rcases Int.le_total (g.get n).1 v.1 with h3|h3
    ·rw[Int.min_eq_left h3];exact .inl (h.lo n hb)
    ·rw[Int.min_eq_right h3];exact .inr ⟨rfl,h1⟩
   ·exact .inr ⟨rfl,h1⟩
  ·rw [if_neg e]
   exact .inl (h.lo m (hm.resolve_right e))
 ·rw [abS,Bool.or_eq_true,decide_eq_true_eq] at hm
  rw[add_get g h.wf hn]
  by_cases e:n=m
  ·subst e
   rw[if_pos rfl]
   split
   ·rename_i hb
    show P n (max (g.get n).2 v.2)\/(n=n/\Q (max (g.get n).2 v.2))
    rcases Int.le_total (g.get n).2 v.2 with h3|h3
    ·rw[Int.max_eq_right h3];exact .inr ⟨rfl,h2⟩
    ·rw[Int.max_eq_left h3];exact .inl (h.hi n hb)
   ·exact .inr ⟨rfl,h2⟩
  ·rw [if_neg e]
   exact .inl (h.hi m (hm.resolve_right e))
 ·rw [add_get g h.wf hn]
  by_cases e:n=m
  ·subst e
   rw[if_pos rfl]
   split
   ·show min _ _<=y/\y<=max _ _
    rcases hy with hy|⟨_,hy⟩
    ·have:=h.all n y hy;omega
    ·have:=ha y hy;omega
   ·rename_i hb
    rcases hy with hy|⟨_,hy⟩
    ·exact absurd ((h.has n).2 ⟨y,hy⟩) hb
    ·exact ha y hy
  ·rw [if_neg e]
   rcases hy with hy|⟨rfl,_⟩
   ·exact h.all m y hy
   ·exact absurd rfl e
structure Least (S:Int->Prop) (r:Int × Int):Prop where
 lo:S r.1
 hi:S r.2
 all:∀ y,S y->r.1<=y/\y<=r.2
theorem Least.sub {S S':Int->Prop} {r r':Int × Int} (h:Least S r) (h':Least S' r') (e:∀ y,S y->S' y):r'.1<=r.1/\r.2<=r'.2 :=
 ⟨(h'.all _ (e _ h.lo)).1,(h'.all _ (e _ h.hi)).2⟩
theorem abZ {k:Wk} (hok:k.Ok) {s:SS} (hs:s.WF) {v:Nat} (hv:v<k.n) {w0:Nat->Nat} (h0:Hu k s w0):Least (fun y=>∃ w,Hu k s w/\y=(w v:Int)) (aO k s v):=by
 have key:∀ M,M<=41->((∃ m,m<M/\can k (s.weighed v (m:Nat))=true)->(∃ m:Nat,m<M/\can k (s.weighed v (m:Nat))=true/\(bZ k s v M).1=m)/\∃ m:Nat,m<M/\can k (s.weighed v (m:Nat))=true/\(bZ k s v M).2=m)/\((∀ m,m<M->¬ can k (s.weighed v (m:Nat))=true)->(bZ k s v M).1=40):=fun M=>by
  induction M with
  |zero=>exact fun _=>⟨fun⟨m,hm,_⟩=>absurd hm (by omega),fun _=>rfl⟩
  | succ M ih =>
   intro hM
   obtain⟨ih1,ih2⟩:=ih (by omega)
   rw[bZ]
   by_cases hc:can k (s.weighed v (M:Nat))=true
   ·rw [if_pos hc]
    refine⟨fun _=>⟨?_,⟨M,by omega,hc,rfl⟩⟩,fun h=>absurd hc (h M (by omega))⟩
    by_cases hex:∃ m,m<M/\can k (s.weighed v (m:Nat))=true
    ·obtain ⟨⟨m,h1,h2,h3⟩,_⟩:=ih1 hex
     refine⟨m,by omega,h2,?_⟩
     simp only;omega
    ·have h4:=ih2 fun m hm hcm=>hex ⟨m,hm,hcm⟩
     refine⟨M,by omega,hc,?_⟩
     simp only;omega
   ·rw [if_neg hc]
    refine⟨fun⟨m,hm,hcm⟩=>?_,fun h=>ih2 fun m hm=>h m (by omega)⟩
    have hmM:m<M:=by
     by_cases e:m=M
     ·subst e;exact absurd hcm hc
     ·omega
    obtain⟨⟨m1,h1,h2,h3⟩,⟨m2,h4,h5,h6⟩⟩:=ih1 ⟨m,hmM,hcm⟩
    exact⟨⟨m1,by omega,h2,h3⟩,⟨m2,by omega,h5,h6⟩⟩
 have h40:∀ w,Hu k s w->w v<=40:=fun w hw=>GU hs (hw v hv).1
 obtain⟨⟨m1,a1,a2,a3⟩,⟨m2,b1,b2,b3⟩⟩:=(key 41 (Nat.le_refl _)).1 ⟨w0 v,by have:=h40 w0 h0;omega,(vZ hok hs hv (h40 w0 h0)).2 ⟨w0,h0,rfl⟩⟩
 obtain⟨w1,c1,c2⟩:=(vZ hok hs hv (by omega)).1 a2
 obtain⟨w2,d1,d2⟩:=(vZ hok hs hv (by omega)).1 b2
 refine⟨⟨w1,c1,by rw[c2];exact a3⟩,⟨w2,d1,by rw[d2];exact b3⟩,?_⟩
 rintro y ⟨w,hw,rfl⟩
 exact NV (h40 w hw) ((vZ hok hs hv (h40 w hw)).2 ⟨w,hw,rfl⟩)
def listOf (k:Wk) (w:Nat->Nat):List Int:=(List.range k.n).map fun i=>(w i:Int)
theorem adB (k:Wk) (w:Nat->Nat):(listOf k w).length=k.n:=by simp[listOf]
theorem listOf_at {k:Wk} (w:Nat->Nat) {i:Nat} (hi:i<k.n):(listOf k w).getD i 0=(w i:Int):=by
 simp[listOf,List.getD_eq_getElem?_getD,hi]
theorem adP (k:Wk) (w:Nat->Nat) (i:Nat):((k.fills i).map fun x=>((listOf k w).getD x 0).toNat).sum=((k.fills i).map w).sum:=by
 congr 1
 refine List.map_congr_left fun x hx=>?_
 rw[listOf_at w (gK.1 hx).1,Int.toNat_natCast]
theorem aeD {k:Wk} (hok:k.Ok) {w:Nat->Nat} (h:Hu k (aN k aC) w):Truth k (listOf k w):=by
 have hlim:∀ i,i<k.n->(w i:Int)<=(k.v i).room/\∀ r∈k.rdg,r.vessel.toNat=i->r.shown-r.err<=(w i:Int)/\(w i:Int)<=r.shown+r.err:=fun i hi=>by
  have h1:=(h i hi).1
  rw[Dh hok.le (yF hok) aC hi,TQ,wI]at h1
  obtain⟨h2,h3⟩:=h1
  simp only[Bool.and_eq_true,decide_eq_true_eq]at h2
  refine⟨h2.1.2,fun r hr he=>?_⟩
  have h4:=h3 r (List.mem_filter.2 ⟨hr,by simp[aC,he]⟩)
  rw[wI]at h4
  simp only[Bool.and_eq_true,decide_eq_true_eq]at h4
  exact h4.1
 refine⟨adB k w,fun i hi=>?_,fun i hi hex=>?_,fun r hr=>?_⟩
 ·rw [listOf_at w hi]
  exact⟨by omega,(hlim i hi).1⟩
 ·rw [OJ k _ (fun x hx=>by rw [listOf_at w hx];omega),adP,listOf_at w hi]
  obtain⟨x,hx1,hx2⟩:=hex
  have hf:k.fills i≠[]:=List.ne_nil_of_mem (gK.2 ⟨hx1,hx2⟩)
  obtain⟨d,hd,he⟩:=(h i hi).2 hf
  rw[rW k hok,if_pos hi,wI]at hd
  simp only[Bool.and_eq_true,decide_eq_true_eq]at hd
  generalize ((k.fills i).map w).sum=S at he |-
  omega
 ·have hv:=yF hok r hr
  rw[listOf_at w (by omega)]
  exact(hlim _ (by omega)).2 r hr rfl
def adx (k:Wk) (l:List Int) (i:Nat):Int:=if k.fills i=[] then 0 else l.getD i 0-((k.fills i).map fun x=>l.getD x 0).sum
def ads (k:Wk) (l:List Int):List Int:=(List.range k.n).map (adx k l)
theorem adA (k:Wk) (l:List Int):(ads k l).length=k.n:=by simp[ads]
def okV (k:Wk) (l:List Int) (i:Nat):Prop:=(0<=l.getD i 0/\l.getD i 0<=(k.v i).room)/\(k.fills i≠[]->(k.v i).lo<=adx k l i/\adx k l i<=(k.v i).hi)
def okR (l:List Int) (r:je):Prop:=-r.err<=l.getD r.vessel.toNat 0-r.shown/\l.getD r.vessel.toNat 0-r.shown<=r.err
theorem adS (l:List Int) (f:List Nat) (h:∀ x∈f,0<=l.getD x 0):(((f.map fun x=>(l.getD x 0).toNat).sum:Nat):Int)=(f.map fun x=>l.getD x 0).sum:=by
 induction f with
 |nil=>rfl
 |cons a f ih =>
  have h1:=h a (by simp)
  have h2:=ih fun x hx=>h x (by simp[hx])
  simp only[List.map_cons,List.sum_cons]
  omega
theorem ad2 {k:Wk} {l:List Int} (hl:l.length=k.n):Truth k l↔(∀ i,i<k.n->okV k l i)/\∀ r∈k.rdg,okR l r:=by
 have hs:(∀ x,x<k.n->0<=l.getD x 0)->∀ i,sumF (fun j=>(k.v j).from_) k.n l i=((k.fills i).map fun x=>l.getD x 0).sum:=fun h i=>by
  rw[OJ k l h,adS l _ fun x hx=>h x (gK.1 hx).1]
 constructor
 ·intro h
  have h0:∀ x,x<k.n->0<=l.getD x 0:=fun x hx=>(h.room x hx).1
  refine⟨fun i hi=>⟨h.room i hi,fun hf=>?_⟩,fun r hr=>?_⟩
  ·obtain ⟨x,hx⟩:=List.exists_mem_of_ne_nil _ hf
   have:=h.loss i hi ⟨x,(gK.1 hx).1,(gK.1 hx).2⟩
   rw[hs h0]at this
   unfold adx
   rw[if_neg hf]
   exact this
  ·have:=h.rdg r hr
   unfold okR
   omega
 ·rintro ⟨h1,h2⟩
  have h0:∀ x,x<k.n->0<=l.getD x 0:=fun x hx=>(h1 x hx).1.1
  refine⟨hl,fun i hi=>(h1 i hi).1,fun i hi ⟨x,hx1,hx2⟩=>?_,fun r hr=>?_⟩
  ·have hf:k.fills i≠[]:=List.ne_nil_of_mem (gK.2 ⟨hx1,hx2⟩)
   have:=(h1 i hi).2 hf
   unfold adx at this
   rw[if_neg hf]at this
   rw[hs h0]
   exact this
  ·have:=h2 r hr
   unfold okR at this
   omega
def strRow (l:List Int) (m:Nat):List (List Int):=(List.range m).map fun y:Nat=>l ++ [(y:Int)]
def aho (n:Nat) (out:List (List Int)) (x:Nat):List (List Int):=(out.take x).flatMap fun l=>strRow l n
def agN (n:Nat):Nat->List (List Int)
 |0=>[[]]
 |k+1=>aho n (agN n k) (agN n k).length
theorem ahW (l:List Int) (m:Nat):strRow l (m+1)=strRow l m ++ [l ++ [(m:Int)]]:=by
 unfold strRow
 rw[List.range_succ,List.map_append]
 rfl
theorem ahz (l:List Int) (m:Nat):(strRow l m).length=m:=by simp[strRow]
theorem ahx (n:Nat) (out:List (List Int)) {x:Nat} (hx:x<out.length):aho n out (x+1)=aho n out x ++ strRow (out.getD x []) n:=by
 unfold aho
 rw[List.take_add_one,List.getElem?_eq_getElem hx,List.flatMap_append]
 simp[List.getD_eq_getElem?_getD,List.getElem?_eq_getElem hx]
theorem ahK (n:Nat) (out:List (List Int)) (x:Nat) (hx:x<=out.length):(aho n out x).length=n * x:=by
 induction x with
 |zero=>simp[aho]
 |succ x ih =>
  rw[ahx n out (by omega),List.length_append,ih (by omega),ahz,Nat.mul_succ]
theorem ahB (n k:Nat):(agN n k).length=n ^ k:=by
 induction k with
 |zero=>rfl
 |succ k ih =>
  rw[agN,ahK _ _ _ (Nat.le_refl _),ih,Nat.pow_succ,Nat.mul_comm]
theorem aik (n k:Nat):agN n (k+1)=(agN n k).flatMap fun l=>strRow l n:=by
 rw[agN,aho,List.take_length]
theorem ahA {l l':List Int} {m:Nat}:l'∈strRow l m↔∃ y:Nat,y<m/\l'=l ++ [(y:Int)]:=by
 unfold strRow
 rw[List.mem_map]
 constructor
 ·rintro ⟨y,hy,rfl⟩;exact⟨y,List.mem_range.1 hy,rfl⟩
 ·rintro ⟨y,hy,rfl⟩;exact⟨y,List.mem_range.2 hy,rfl⟩
theorem ahn {n:Nat}:∀ {k:Nat} {l:List Int},l∈agN n k↔l.length=k/\∀ e∈l,0<=e/\e<(n:Int)
 |0,l=>by
  rw[agN,List.mem_singleton]
  constructor
  ·rintro rfl;exact⟨rfl,fun e he=>nomatch he⟩
  ·rintro ⟨h,_⟩;exact List.length_eq_zero_iff.1 h
 | k+1,l=>by
  rw[aik,List.mem_flatMap]
  constructor
  ·rintro ⟨l',h1,h2⟩
   obtain⟨y,hy,rfl⟩:=ahA.1 h2
   obtain⟨h3,h4⟩:=ahn.1 h1
   refine⟨by simp[h3],fun e he=>?_⟩
   rcases List.mem_append.1 he with he|he
   ·exact h4 e he
   ·rw[List.mem_singleton]at he;subst he;omega
  ·rintro ⟨h1,h2⟩
   have hne:l≠[]:=fun e=>by rw[e]at h1;cases h1
   obtain⟨h3,h4⟩:=h2 _ (List.getLast_mem hne)
   refine⟨l.dropLast,ahn.2 ⟨by rw[List.length_dropLast];omega,fun e he=>h2 e (List.dropLast_subset l he)⟩,ahA.2 ⟨(l.getLast hne).toNat,by omega,?_⟩⟩
   have:(((l.getLast hne).toNat:Nat):Int)=l.getLast hne:=by omega
   rw[this]
   exact(List.dropLast_concat_getLast hne).symm
noncomputable def jv (k:Wk):List (List Int):=open Classical in(agN 7 k.n).filter fun l=>decide (Truth k l)
noncomputable def ahf (k:Wk) (x:Nat):List (List Int):=open Classical in((agN 7 k.n).take x).filter fun l=>decide (Truth k l)
theorem ahM {k:Wk} {x:Nat} (hx:x<(agN 7 k.n).length) (h:Truth k ((agN 7 k.n).getD x [])):ahf k (x+1)=ahf k x ++ [(agN 7 k.n).getD x []]:=by
 unfold ahf
 have e:(agN 7 k.n).getD x []=(agN 7 k.n)[x]:=by rw[List.getD_eq_getElem?_getD,List.getElem?_eq_getElem hx];rfl
 rw[e]at h |-
 rw[List.take_add_one,List.getElem?_eq_getElem hx,List.filter_append]
 simp[h]
theorem ahJ {k:Wk} {x:Nat} (hx:x<(agN 7 k.n).length) (h:¬ Truth k ((agN 7 k.n).getD x [])):ahf k (x+1)=ahf k x:=by
 unfold ahf
 have e:(agN 7 k.n).getD x []=(agN 7 k.n)[x]:=by rw[List.getD_eq_getElem?_getD,List.getElem?_eq_getElem hx];rfl
 rw[e]at h
 rw[List.take_add_one,List.getElem?_eq_getElem hx,List.filter_append]
 simp[h]
theorem aht (k:Wk):ahf k (agN 7 k.n).length=jv k:=by
 unfold ahf jv
 rw[List.take_length]
theorem ahs (k:Wk) (x:Nat):(ahf k x).length<=x:=by
 unfold ahf
 refine Nat.le_trans (List.length_filter_le _ _) ?_
 rw[List.length_take]
 omega
open Classical in
theorem ahk {k:Wk} (hr:∀ i,i<k.n->(k.v i).room<=6) {l:List Int}:l∈jv k↔Truth k l:=by
 unfold jv
 rw[List.mem_filter,decide_eq_true_eq,ahn]
 constructor
 ·exact fun h=>h.2
 ·intro h
  refine⟨⟨h.len,fun e he=>?_⟩,h⟩
  obtain⟨i,hi,rfl⟩:=List.getElem_of_mem he
  have h1:=h.room i (by rw[<- h.len];exact hi)
  have h2:=hr i (by rw[<- h.len];exact hi)
  rw[List.getD_eq_getElem?_getD,List.getElem?_eq_getElem hi,Option.getD_some]at h1
  omega
theorem ahy {k:Wk} (hok:k.Ok) (hr:∀ i,i<k.n->(k.v i).room<=6):can k (aN k aC)=true↔jv k≠[]:=by
 rw[QS hok (gG _ _)]
 constructor
 ·rintro ⟨w,hw⟩
  exact List.ne_nil_of_mem ((ahk hr).2 (aeD hok hw))
 ·intro h
  obtain⟨l,hl⟩:=List.exists_mem_of_ne_nil _ h
  exact⟨_,adq hok ((ahk hr).1 hl)⟩
theorem ahr {k:Wk} (hok:k.Ok) {s:SS} (hs:s.WF) {a b:Nat} (ha:a<k.n) (hb:b<k.n):∀ m,m<=41->((af8 k s a b m).1=true↔∃ w,Hu k s w/\w a<m/\w b<w a)/\((af8 k s a b m).2=true↔∀ w,Hu k s w->w a<m->w b<w a)
 |0,_=>⟨⟨fun h=>(by cases h),fun⟨w,_,h,_⟩=>absurd h (by omega)⟩,⟨fun _ w _ h=>absurd h (by omega),fun _=>rfl⟩⟩
 | m+1,hm=>by
  obtain⟨ih1,ih2⟩:=ahr hok hs ha hb m (by omega)
  have hT:∀ w,Hu k (s.weighed a m) w↔Hu k s w/\w a=m:=fun w=>AV hs hok.le ha (by omega) w
  rw[af8]
  by_cases hc:can k (s.weighed a (m:Nat))=true
  ·obtain ⟨w0,h0,h1⟩:=(vZ hok hs ha (by omega)).1 hc
   have hL:=abZ hok (hs.weighed a m) hb ((hT w0).2 ⟨h0,h1⟩)
   obtain⟨wl,hl1,hl2⟩:=hL.lo
   obtain⟨wh,hh1,hh2⟩:=hL.hi
   obtain⟨hl3,hl4⟩:=(hT wl).1 hl1
   obtain⟨hh3,hh4⟩:=(hT wh).1 hh1
   rw[if_pos hc]
   simp only[Bool.or_eq_true,Bool.and_eq_true,decide_eq_true_eq]
   rw[ih1,ih2]
   refine⟨⟨?_,?_⟩,?_,?_⟩
   ·rintro (⟨w,h2,h3,h4⟩ | h2)
    ·exact⟨w,h2,by omega,h4⟩
    ·exact⟨wl,hl3,by omega,by omega⟩
   ·rintro ⟨w,h2,h3,h4⟩
    rcases Nat.lt_succ_iff_lt_or_eq.1 h3 with h5|h5
    ·exact .inl ⟨w,h2,h5,h4⟩
    ·have:=(hL.all _ ⟨w,(hT w).2 ⟨h2,h5⟩,rfl⟩).1
     exact .inr (by omega)
   ·rintro ⟨h2,h3⟩ w h4 h5
    rcases Nat.lt_succ_iff_lt_or_eq.1 h5 with h6|h6
    ·exact h2 w h4 h6
    ·have:=(hL.all _ ⟨w,(hT w).2 ⟨h4,h6⟩,rfl⟩).2
     omega
   ·intro h2
    refine⟨fun w h3 h4=>h2 w h3 (by omega),?_⟩
    have:=h2 wh hh3 (by omega)
    omega
  ·have hno:∀ w,Hu k s w->w a≠m:=fun w h1 h2=>hc ((vZ hok hs ha (by omega)).2 ⟨w,h1,h2⟩)
   rw[if_neg hc,ih1,ih2]
   refine⟨⟨fun⟨w,h2,h3,h4⟩=>⟨w,h2,by omega,h4⟩,fun⟨w,h2,h3,h4⟩=>⟨w,h2,by have:=hno w h2;omega,h4⟩⟩,fun h w h2 h3=>h w h2 (by have:=hno w h2;omega),fun h w h2 h3=>h w h2 (by omega)⟩
noncomputable def ahm (k:Wk) (a b m:Nat):Nat:=((jv k).take m).countP fun l=>decide (l.getD b 0<l.getD a 0)
theorem ah0 (k:Wk) (a b:Nat) {m:Nat} (hm:m<(jv k).length):ahm k a b (m+1)=ahm k a b m+if ((jv k).getD m []).getD b 0<((jv k).getD m []).getD a 0 then 1 else 0:=by
 unfold ahm
 have e:(jv k).getD m []=(jv k)[m]:=by rw[List.getD_eq_getElem?_getD,List.getElem?_eq_getElem hm];rfl
 rw[e,List.take_add_one,List.getElem?_eq_getElem hm,List.countP_append]
 simp[List.countP_cons]
theorem ah9 (k:Wk) (a b m:Nat):ahm k a b m<=m:=by
 unfold ahm
 refine Nat.le_trans (List.countP_le_length ..) ?_
 rw[List.length_take]
 omega
noncomputable def ah1 (k:Wk) (a b:Nat):Int:=if ahm k a b (jv k).length=0 then 2 else if ahm k a b (jv k).length=(jv k).length then 1 else 3
theorem ah4 {k:Wk} (hok:k.Ok) (hr:∀ i,i<k.n->(k.v i).room<=6) (hn:jv k≠[]) {a b:Nat} (ha:a<k.n) (hb:b<k.n):ahl k (a:Int) (b:Int)=(ah1 k a b,0):=by
 have hs:=gG k aC
 obtain⟨m1,m2⟩:=ahr hok hs ha hb 41 (Nat.le_refl _)
 have hc:=(ahy hok hr).2 hn
 have h40:∀ w,Hu k (aN k aC) w->w a<41:=fun w hw=>by have:=GU hs (hw a ha).1;omega
 have hall:(af8 k (aN k aC) a b 41).2=true↔∀ l∈jv k,l.getD b 0<l.getD a 0:=by
  rw[m2]
  constructor
  ·intro h l hl
   have ht:=(ahk hr).1 hl
   have h1:=h _ (adq hok ht) (h40 _ (adq hok ht))
   have h2:=(ht.room a ha).1
   have h3:=(ht.room b hb).1
   omega
  ·intro h w hw _
   have h1:=h _ ((ahk hr).2 (aeD hok hw))
   rw[listOf_at w ha,listOf_at w hb]at h1
   omega
 have hsome:(af8 k (aN k aC) a b 41).1=true↔∃ l∈jv k,l.getD b 0<l.getD a 0:=by
  rw[m1]
  constructor
  ·rintro ⟨w,hw,_,h⟩
   refine⟨_,(ahk hr).2 (aeD hok hw),?_⟩
   rw[listOf_at w ha,listOf_at w hb]
   omega
  ·rintro ⟨l,hl,h⟩
   have ht:=(ahk hr).1 hl
   refine⟨_,adq hok ht,h40 _ (adq hok ht),?_⟩
   have h2:=(ht.room a ha).1
   have h3:=(ht.room b hb).1
   omega
 have hcl:ahm k a b (jv k).length=(jv k).countP fun l=>decide (l.getD b 0<l.getD a 0):=by
  unfold ahm
  rw[List.take_length]
 unfold ahl ah1
 rw[if_pos (G7 hok [(a:Int),(b:Int)] fun n hn=>by
  rcases List.mem_cons.1 hn with rfl|hn
  ·omega
  ·rw[List.mem_singleton]at hn;omega),hcl,Int.toNat_natCast,Int.toNat_natCast]
 have hc':(settle k (aN k aC)).isNone=true:=hc
 rw[if_pos hc']
 congr 1
 unfold verdict
 by_cases h1:∀ l∈jv k,l.getD b 0<l.getD a 0
 ·rw [if_pos (hall.2 h1)]
  have e:(jv k).countP (fun l=>decide (l.getD b 0<l.getD a 0))=(jv k).length:=List.countP_eq_length.2 fun l hl=>decide_eq_true (h1 l hl)
  rw[e,if_neg (fun h=>hn (List.length_eq_zero_iff.1 h)),if_pos rfl]
 ·rw [if_neg (fun h=>h1 (hall.1 h))]
  have e:¬ (jv k).countP (fun l=>decide (l.getD b 0<l.getD a 0))=(jv k).length:=fun h=>h1 fun l hl=>of_decide_eq_true (List.countP_eq_length.1 h l hl)
  rw[if_neg e]
  by_cases h2:∃ l∈jv k,l.getD b 0<l.getD a 0
  ·rw [if_pos (hsome.2 h2),if_neg]
   intro h
   rw[List.countP_eq_zero]at h
   obtain⟨l,hl,hl2⟩:=h2
   exact h l hl (decide_eq_true hl2)
  ·rw [if_neg (fun h=>h2 (hsome.1 h)),if_pos]
   rw[List.countP_eq_zero]
   exact fun l hl h=>h2 ⟨l,hl,of_decide_eq_true h⟩
theorem aia {k:Wk} (hn:jv k≠[]) {a b:Nat} (h:ah1 k a b=1):ah1 k b a=2:=by
 unfold ah1 at h |-
 by_cases h0:ahm k a b (jv k).length=0
 ·rw[if_pos h0]at h;cases h
 ·rw [if_neg h0] at h
  by_cases h1:ahm k a b (jv k).length=(jv k).length
  ·rw [if_pos]
   unfold ahm at h1 |-
   rw[List.take_length]at h1 |-
   rw[List.countP_eq_length]at h1
   rw[List.countP_eq_zero]
   intro l hl h2
   have h3:=of_decide_eq_true (h1 l hl)
   have h4:=of_decide_eq_true h2
   omega
  ·rw[if_neg h1]at h;cases h
end Go.Wg
namespace Go.Mm
open Go
variable {P:Program} {w w' w0:World} {X:List Nat} {V:View} {L:List dF}
theorem ahD (hS:St w0 X V L w) {o:Oper} {ρ:Operand->Value} {sl x:Operand} {t e:TypeId} {size:Nat} (ho:o.op=.call {callee:=.builtin .append,args:=#[sl,x],argTypes:=#[t,t]})
  (ht:Yv P t e size=true) {j n:Nat} {v:Value} {xs:List Value} (hj:L[j]? = some (.row v e size n xs)) (hv:ρ sl=v)
  {jb b m c:Nat} {te:TypeId} {news:List Value} (hjb:L[jb]? = some (.blk b te news)) (hx:ρ x=.slice (some ⟨b,0,none⟩) m c) (hm:news.length=m * size) (h1:∀ u∈news,u.oneCell'=true) (hn:n+m<=10000) :
  ∃ v' w',(execOp ρ o).run P w=.ok (.value v') w'/\St w0 X V (L.set j (.row v' e size (n+m) (xs ++ news))) w':=by
 unfold Yv at ht
 simp only[Bool.and_eq_true]at ht
 obtain⟨⟨ht1,ht2⟩,ht3⟩:=ht
 have hu:P.underlying t=some (.slice e):=by
  cases hd:P.underlying t with
  |none=>rw[hd]at ht1;cases ht1
  |some d=>rw[hd]at ht1;cases d<;>simp_all
 cases hq:P.info? e with
 |none=>rw[hq]at ht2;cases ht2
 | some q =>
  rw[hq]at ht2
  simp only[Option.any_some,Bool.and_eq_true,beq_iff_eq,decide_eq_true_eq]at ht2
  obtain⟨⟨hqs,hqz⟩,hqb⟩:=ht2
  cases hz:q.zero with
  |none=>rw[hz]at hqz;cases hqz
  | some z =>
   rw[hz]at hqz
   simp only[Option.any_some,Bool.and_eq_true,beq_iff_eq]at hqz
   obtain⟨hqz,hqf⟩:=hqz
   have hsz:0<size:=by simpa using ht3
   have hb:=hS.at hjb
   have hbig:(n+m) * q.bytes<=10000 * 1000:=Nat.mul_le_mul hn hqb
   obtain⟨v',w',hr,h2,h3,_,h5⟩:=run_append_own_at (P:=P) w 0 t o.type e q z size q.bytes hu hq hz hqs rfl hqz hsz v n xs (hS.wu hj) ⟨b,0,none⟩ m c news hm
    (fun i u hi=>by rw[Addr.add_mid];exact aX hb (by simpa using hi)) h1 (by unfold maxLen;omega) (by omega) (Nat.zero_le _)
   refine⟨v',w',?_,hS.grow hj h3 h2 (hqs ▸ yw (P:=P) hu hq hz hqf (hqs ▸ hS.wu hj) (hqs ▸ hS.Wj hj) (a:=⟨b,0,none⟩) (hqs ▸ hm) (fun i u hi=>by rw[Addr.add_mid];exact aX hb (by simpa using hi)) h1 (by unfold maxLen;omega) (by omega) hr) h5⟩
   unfold execOp
   simp only[ho,resolve,invoke,builtin,Sem.run_bind,Sem.run_pure,Result.andThen_ok,List.map_toArray,List.map_cons,List.map_nil,hv,hx,hr]
theorem ahE (hS:St w0 X V L w) {t e:TypeId} {size:Nat} [ht:Zz P t e size] {v:Value} {j n:Nat} {xs:List Value} [hj:Hr L v j e size n xs] {b m c jb:Nat} {te:TypeId} {news:List Value} [hjb:Hs L b jb te news]
  {K:Value->World->Prop} (hs:news.length=m * size/\(∀ u∈news,u.oneCell'=true)/\n+m<=10000) (h:∀ v' w',St w0 X V (L.set j (.row v' e size (n+m) (xs ++ news))) w'->K v' w'):Z8 P w t v b m c K :=
 fun o ρ sl x ho hv hx=>by
  obtain⟨v',w',hr,hS'⟩:=ahD hS ho ht.ok hj.ok hv hjb.ok hx hs.1 hs.2.1 hs.2.2
  exact⟨v',w',hr,h v' w' hS'⟩
end Go.Mm
namespace Go.Proofs.YtjjmefieegcddaaDoor
open Go.RowKit Go.Wg Go.Mm
variable {w:World} {V:View}
theorem ah2 {k:Nat} (hk:k<=4) (hV:V.In w):Calls Tryd.prog 109 #[.int .i64 7,.int .i64 (k:Int)] w fun e w'=>∃ v V',e=.returned v/\afV w V V'/\St w [] V' [] w'/\VLL V' v (agN 7 k):=by
 have hS:=St.start w V hV
 go_enter Tryd.func109,Tryd.ntmps109
 go_wp2_with ((with_reducible refine uP ?_);refine rE hS rfl rfl ?_;refine⟨_,zq,zd,?_⟩;clear hS;(try clear w');intro _;refine zF ?_;intro w' hS)
 obtain⟨V1,hV1,hS1,hv1⟩:=agK hS
 clear hS
 go_loopw [5,6] (fun ov iv wr=>∃ (i:Nat) (V':View),i<=k/\iv=.int .i64 (i:Int)/\afV w V V'/\VLL V' ov (agN 7 i)/\St w [] V' [] wr) (fun _ iv _=>k-(intOf iv).toNat)
 case atStart=>exact⟨0,V1,by omega,rfl,hV1,hv1,hS1⟩
 case round =>
  clear hS1 hv1 hV1
  clear V1
  obtain⟨i,V1,hi,rfl,hV1,hv1,hS⟩:=hrel
  have h0:(0:Int)<=i:=by omega
  by_cases hlt:i<k
  ·have hlt':(i:Int) < k:=by omega
   have hOl:(agN 7 i).length<=343:=by
    rw[ahB]
    exact Nat.le_trans (Nat.pow_le_pow_right (by decide) (show i<=3 by omega)) (by decide)
   obtain⟨us,hu1,hu2,hu3⟩:=hv1.is
   obtain⟨oa,ocap,hov,hoc,hom,hoe⟩:=hu2.is
   subst hov
   have hnext:agN 7 (i+1)=aho 7 (agN 7 i) (agN 7 i).length:=rfl
   have hsu:=fun x hx=>ahx 7 (agN 7 i) (x:=x) hx
   have hTl:=fun x hx=>ahK 7 (agN 7 i) x hx
   have hel:∀ x,x<(agN 7 i).length->((agN 7 i).getD x []).length=i:=fun x hx=>by
    rw[List.getD_eq_getElem?_getD,List.getElem?_eq_getElem hx]
    exact(ahn.1 (List.getElem_mem hx)).1
   have hz:aho 7 (agN 7 i) 0=[]:=rfl
   generalize aho 7 (agN 7 i)=T at hnext hsu hTl hz
   generalize agN 7 i=O at hOl hnext hsu hTl hel hu1 hu2 hu3 hoc hoe hv1 |-
   clear hv1 hu2
   replace hnext:=aj hnext;replace hsu:=aj hsu;replace hel:=aj hel;replace hTl:=aj hTl;replace hu3:=aj hu3
   go_wp2_with (fail)
   replace hS:=hS.nilRow 30 1
   go_loopw [7,8] (fun nv xv wr=>∃ (x:Nat) (vs:List Value) (V':View),x<=O.length/\xv=.int .i64 (x:Int)/\nv.oneCell'=true/\afM V' vs (T x)/\afV w V1 V'/\St w [] V' [.row nv 30 1 vs.length vs] wr) (fun _ xv _=>O.length-(intOf xv).toNat)
   case atStart=>exact⟨0,[],V1,by omega,rfl,rfl,by rw[hz];exact afM.nil V1,.rfl,hS⟩
   case round =>
    clear hS
    obtain⟨x,vs,V2,hx,rfl,hone,hN,hV2,hS⟩:=hrel
    have h0x:(0:Int)<=x:=by omega
    by_cases hxl:x<O.length
    ·have hxl':(x:Int) < O.length:=by omega
     obtain⟨og,oo,hoa,hor⟩:=hoe (by omega)
     subst hoa
     have hcell:=(hor x hxl 0 _ rfl).mono hV2.up
     simp only[Nat.mul_one,Nat.add_zero]at hcell
     have hvi:=IU (hu3.out x hxl) hV2.up
     have hl1:=hel.out x hxl
     have hsx:=hsu.out x hxl
     have hTx:=hTl.out x (by omega)
     generalize us.getD x undef=u at hcell hvi
     generalize O.getD x []=l at hvi hl1 hsx
     have hrow:=fun m=>ahW l m
     have hrow0:strRow l 0=[]:=rfl
     have hRwl:∀ m,(strRow l m).length=m:=fun m=>ahz l m
     generalize strRow l=Rw at hsx hrow hrow0 hRwl
     clear hor hoe
     replace hsx:=aj hsx;replace hrow:=aj hrow;replace hvi:=aj hvi;replace hRwl:=aj hRwl
     go_wp2_with (fail)
     go_loopw [7,9] (fun nv yv wr=>∃ (m:Nat) (vs:List Value) (V':View),m<=7/\yv=.int .i64 (m:Int)/\nv.oneCell'=true/\afM V' vs (T x ++ Rw m)/\afV w V1 V'/\(∀ j o,V2 j=some o->V' j=some o)/\St w [] V' [.row nv 30 1 vs.length vs] wr) (fun _ yv _=>7-(intOf yv).toNat)
     case atStart=>exact⟨0,vs,V2,by omega,rfl,hone,by rw[hrow0,List.append_nil];exact hN,hV2,fun _ _ h=>h,hS.aG⟩
     case round =>
      clear hS hN hone hV2
      clear vs
      obtain⟨m,vs,V3,hm,rfl,hone,hN,hV3,hV23,hS⟩:=hrel
      have h0m:(0:Int)<=m:=by omega
      by_cases hmc:m<7
      ·have hmc':(m:Int) < 7:=by omega
       have hcell3:=hcell.mono hV23
       have hvi3:=IU hvi.out hV23
       have hrm:=hrow.out m
       have hvl:vs.length+1<=10000:=by
        have h1:=hN.len
        have h2:=hRwl.out m
        rw[List.length_append,h2]at h1
        omega
       replace hrm:=aj hrm;replace hN:=aj hN
       go_wp2_with (first|(((with_reducible refine gL ?_);refine nC hS rfl rfl rfl ?_);refine⟨_,zd,?_⟩;clear hS;(try clear w');refine zF ?_;intro w' hS)|((with_reducible refine uP ?_);refine rE hS rfl rfl ?_;refine⟨_,zq,zd,?_⟩;clear hS;(try clear w');intro _;refine zF ?_;intro w' hS)|((with_reducible refine Q5 ?_);refine Ui rfl rfl ?_;refine⟨_,_,_,_,by exact rfl,by exact rfl,?_⟩;first|(refine eH hS ⟨rfl,(fun u hu=>by rw[List.mem_singleton]at hu;rw[hu];rfl),(by omega)⟩ ?_;clear hS;(try clear w');intro va w' hS;refine zF ?_;(try simp only[sE]at hS);have hva:=dY hS va;have hva1:=one_one hva)|(refine ahE hS ⟨rfl,hva1,(by omega)⟩ ?_;clear hS;(try clear w');intro vb w' hS;refine zF ?_;(try simp only[sE]at hS);have hvb:=dY hS vb))|(go_at_call 111;refine(ahj hvi3 (by omega) (St.view hS)).mono ?_;rintro _ w1 ⟨u49,rfl,hS1⟩;have hS2:=hS.Nq hS1;simp only[List.cons_append,List.nil_append]at hS2;clear hS hS1;(try clear w');have hS:=hS2;clear hS2;rw[hl1]at hS))
       have hS3:=St.drop (St.drop hS)
       rw[<- hl1]at hS3
       obtain⟨V4,hV4,hS4,hvi4⟩:=agY hS3
       clear hS hS3
       go_roundw
       case rel=>exact⟨m+1,vs ++ [_],V4,by omega,by go_num,hvb,by rw[hrm.out,<- List.append_assoc];exact(hN.out.mono hV4.up).add hvi4,hV3.trans hV4,(fun j o h=>hV4.up j o (hV23 j o h)),by rw[List.length_append];exact hS4.aG⟩
       case measure=>simp only[intOf];omega
      ·obtain rfl:m=7:=by omega
       replace hN:=aj hN
       go_wp2_with (fail)
       go_roundw
       case rel=>exact⟨x+1,vs,V3,by omega,by go_num,hone,by rw[hsx.out];exact hN.out,hV3,hS.aG⟩
       case measure=>simp only[intOf];omega
    ·obtain rfl:x=O.length:=by omega
     replace hN:=aj hN
     go_wp2_with (fail)
     obtain⟨V5,hV5,hS5,hvs⟩:=af9 hS
     go_roundw
     case rel=>exact⟨i+1,V5,by omega,by go_num,(hV1.trans hV2).trans hV5,by rw[hnext.out];exact(hN.out.mono hV5.up).vll hvs,hS5⟩
     case measure=>simp only[intOf];omega
  ·obtain rfl:i=k:=by omega
   have hvo:=hv1.one
   replace hv1:=aj hv1
   go_wp2_with (fail)
   ((try simp only[Exit.inBlock,Exit.then]);(try refine aB ?_);refine bK ⟨_,by exact bH (r1:=.tmp 4) (by kernel_rfl) (by exact bD rfl),?_⟩ rfl)
   exact⟨_,V1,rfl,hV1,hS,hv1.out⟩
end Go.Proofs.YtjjmefieegcddaaDoor
namespace Go.Proofs.YtjjmefieegcddaaDoor
open Go.RowKit Go.Wg Go.Mm
variable {w:World} {V:View}
def sumTo (l:List Int) (m:Nat):Int:=(l.take m).sum
def aeJ (k:Wk) (l:List Int) (m:Nat):List Int:=(List.range k.n).map fun j=>if j<m then adx k l j else 0
theorem ad7 (k:Wk) (l:List Int):aeJ k l 0=List.replicate k.n 0:=by
 unfold aeJ
 refine List.ext_getElem (by simp) fun j h1 h2=>by simp
theorem aeb (k:Wk) (l:List Int):aeJ k l k.n=ads k l:=by
 unfold aeJ ads
 exact List.map_congr_left fun j hj=>if_pos (List.mem_range.1 hj)
theorem aeg (k:Wk) (l:List Int) (m:Nat):(aeJ k l m).length=k.n:=by simp[aeJ]
theorem aef (k:Wk) (l:List Int) {m:Nat} (hm:m<k.n):(aeJ k l m).set m (adx k l m)=aeJ k l (m+1):=by
 refine List.ext_getElem (by simp[aeJ]) fun j h1 h2=>?_
 simp only[aeJ,List.length_map,List.length_range]at h2
 rw[List.getElem_set]
 simp only[aeJ,List.getElem_map,List.getElem_range]
 by_cases e:m=j
 ·subst e;simp
 ·rw [if_neg e]
  by_cases h:j<m
  ·rw[if_pos h,if_pos (by omega)]
  ·rw[if_neg h,if_neg (by omega)]
theorem ad1 (k:Wk) (l:List Int) {m:Nat} (h0:k.fills m=[]):aeJ k l m=aeJ k l (m+1):=by
 unfold aeJ
 refine List.map_congr_left fun j _=>?_
 by_cases h:j<m
 ·rw[if_pos h,if_pos (by omega)]
 ·rw [if_neg h]
  by_cases e:j=m
  ·subst e
   rw[if_pos (by omega)]
   unfold adx
   rw[if_pos h0]
  ·rw[if_neg (by omega)]
def adz (k:Wk) (l:List Int) (i q:Nat):Int:=l.getD i 0-(((k.fills i).take q).map fun x=>l.getD x 0).sum
theorem adH (k:Wk) (l:List Int) (i:Nat) {q:Nat} (hq:q<(k.fills i).length):adz k l i (q+1)=adz k l i q-l.getD ((k.fills i).getD q 0) 0:=by
 unfold adz
 rw[List.take_add_one,List.getElem?_eq_getElem hq,List.map_append,List.sum_append]
 simp[List.getD_eq_getElem?_getD,List.getElem?_eq_getElem hq]
 omega
theorem ael {k:Wk} {l:List Int} (hb:∀ i,i<k.n->0<=l.getD i 0/\l.getD i 0<=100) {i:Nat} (hi:i<k.n) (q:Nat) (hq:q<=(k.fills i).length):-(100 * (q:Int))<=adz k l i q/\adz k l i q<=100:=by
 induction q with
 |zero =>
  have:=hb i hi
  have e:adz k l i 0=l.getD i 0:=by simp[adz]
  rw[e]
  omega
 |succ q ih =>
  have h1:=ih (by omega)
  have h2:=hb ((k.fills i).getD q 0) (gK.1 (by rw[List.getD_eq_getElem?_getD,List.getElem?_eq_getElem (by omega)];exact List.getElem_mem (by omega))).1
  rw[adH k l i (by omega)]
  omega
theorem ad8 {k:Wk} {l:List Int} {i:Nat} (h:k.fills i≠[]):adz k l i (k.fills i).length=adx k l i:=by
 unfold adz adx
 rw[List.take_length,if_neg h]
theorem aeC {vv rv lv:Value} {k:Wk} {l:List Int} (hk:iJ V vv rv k) (hok:k.Ok) (hl:VI V lv l) (hn:l.length=k.n) (hb:∀ i,i < k.n->0<=l.getD i 0/\l.getD i 0<=100) (hV:V.In w) :
  Calls Tryd.prog 44 #[.agg #[vv,rv],lv] w fun e w'=>(Truth k l/\∃ v,e=.returned (.tuple #[v,.bool true])/\St w [] V [.row v 3 1 k.n (aV (ads k l))] w')\/(¬ Truth k l/\e=.returned (.tuple #[.slice none 0 0,.bool false])/\Kp w w'):=by
 obtain⟨la,lcap,rfl,hlc,hlm,hle⟩:=hl.is
 obtain⟨va,vcap,rfl,hvc,hvm,hve⟩:=hk.ves.is
 obtain⟨ra,rcap,rfl,hrc,hrm,hre⟩:=hk.rdg.is
 have hn6:=hok.le
 have hr6:=hok.rdl
 have hpos:=hok.pos
 obtain⟨vg,vo,rfl,hvr⟩:=hve hpos
 rw[hn]at hlc hle |-
 obtain⟨lg,lo,rfl,hlr⟩:=hle hpos
 have hlx:∀ x,x<k.n->V.Cell lg (lo+x) (.int .i64 (l.getD x 0)):=fun x hx=>by
  have:=hlr x hx 0 _ rfl
  simpa only[Nat.mul_one,Nat.add_zero]using this
 have hT:=ad2 (k:=k) hn
 have hS:=St.start w V hV
 clear hl hve hlr hle
 replace hb:=aj hb;replace hT:=aj hT;replace hlx:=aj hlx
 go_enter Tryd.func44,Tryd.ntmps44
 go_wp2_with (first|(first|(((with_reducible refine gL ?_);refine gY hS rfl rfl rfl ?_);refine⟨_,zd,?_⟩;clear hS;(try clear w');refine zF ?_;intro w' hS)|((with_reducible refine gB ?_);refine iK 2 rfl hS rfl rfl rfl ?_;refine⟨_,za,?_⟩;clear hS;(try clear w');intro b2;refine zF ?_;intro w' hS))|((with_reducible refine gMk ?_);refine U6 23 rfl hS rfl rfl rfl rfl (by omega) ?_;clear hS;(try clear w');intro b23;refine zF ?_;intro w' hS))
 have hz:=ad7 k l
 have hll:=aeg k l
 have hhit:=fun m hm=>aef k l (m:=m) hm
 have hmis:=fun m hm=>ad1 k l (m:=m) hm
 have hall:=aeb k l
 rw[<- hz]at hS
 generalize aeJ k l=LT at hS hz hll hhit hmis hall
 clear hz
 replace hll:=aj hll;replace hhit:=aj hhit;replace hmis:=aj hmis;replace hall:=aj hall
 go_loopw [7] (fun iv wr=>∃ i:Nat,i<=k.n/\iv=.int .i64 (i:Int)/\(∀ j,j<i->okV k l j)/\St w [] V [.blk b23 3 (aV (LT i)),.blk b2 25 [.slice (some ⟨vg,vo,none⟩) k.n vcap,.slice ra k.rdg.length rcap]] wr) (fun iv _=>k.n-(intOf iv).toNat)
 case atStart=>exact⟨0,by omega,rfl,(fun j hj=>absurd hj (by omega)),hS⟩
 case round =>
  clear hS
  obtain⟨i,hi,rfl,hgo,hS⟩:=hrel
  have h0:(0:Int)<=i:=by omega
  by_cases hlt:i<k.n
  ·have hlt':(i:Int) < k.n:=by omega
   have hcell:=hlx.out i hlt
   have hcv:=hvr i hlt
   have hcl:(k.v i).cells.length=4:=rfl
   have hvi:=hok.ves i hlt
   obtain⟨y1,y2⟩:=hb.out i hlt
   have hlN:(aV (LT i)).length=k.n:=by rw[iD,hll.out]
   have hst:=hhit.out i hlt
   have hmi:=hmis.out i
   have hfl:=adI k i
   have hfn:=wL k i
   have hfg:∀ q,q<(k.fills i).length->(k.fills i).getD q 0<k.n:=fun q hq=>(rV hok (i:=i) (by rw[List.getD_eq_getElem?_getD,List.getElem?_eq_getElem hq];exact List.getElem_mem hq)).2
   have hls:=fun q hq=>adH k l i (q:=q) hq
   have hlb:=fun q hq=>ael hb.out hlt q hq
   have hla:=ad8 (k:=k) (l:=l) (i:=i)
   have hl0:adz k l i 0=l.getD i 0:=by simp[adz]
   have hyes:(0<=l.getD i 0/\l.getD i 0<=(k.v i).room)->(k.fills i≠[]->(k.v i).lo<=adx k l i/\adx k l i<=(k.v i).hi)->∀ j,j<i+1->okV k l j:=fun a b j hj=>by
    rcases Nat.lt_succ_iff_lt_or_eq.1 hj with hj|rfl
    ·exact hgo j hj
    ·exact⟨a,b⟩
   have hnoT:¬ ((0<=l.getD i 0/\l.getD i 0<=(k.v i).room)/\(k.fills i≠[]->(k.v i).lo<=adx k l i/\adx k l i<=(k.v i).hi))->¬ Truth k l:=fun h hh=>h ((hT.out.1 hh).1 i hlt)
   obtain⟨F,hF⟩:∃ F,k.fills i=F:=⟨_,rfl⟩
   have hFn:k.fills i=[]↔F.length=0:=by rw[hF,List.length_eq_zero_iff]
   rw[hF]at hfl hfn hfg hls hlb hla hyes hnoT hmi
   have hFl:(adt k i k.n).length=F.length:=by rw[hfl,List.length_map]
   have hFi:∀ q,q<F.length->(adt k i k.n).getD q 0=((F.getD q 0:Nat):Int):=fun q hq=>by
    rw[hfl]
    simp[List.getD_eq_getElem?_getD,List.getElem?_eq_getElem hq]
   unfold nN.cells at hcv hcl
   generalize hro:(k.v i).room=ro at hcv hcl hyes hnoT
   generalize hlo:(k.v i).lo=lo' at hcv hcl hyes hnoT
   generalize hhi:(k.v i).hi=hi' at hcv hcl hyes hnoT
   generalize (k.v i).from_=f at hcv hcl
   generalize adz k l i=D at hls hlb hla hl0
   generalize adx k l i=n at hst hla hyes hnoT
   generalize hy:l.getD i 0=y at hcell y1 y2 hl0 hyes hnoT
   have hvi':0<=ro/\ro<=40/\0<=lo'/\lo'<=20/\0<=hi'/\hi'<=20:=by
    obtain⟨_,_,o3,o4,o5,o6,o7,o8,_⟩:=hvi
    omega
   clear hvi hro hlo hhi hgo hF hy
   replace hls:=aj hls;replace hlb:=aj hlb;replace hyes:=aj hyes;replace hnoT:=aj hnoT;replace hFi:=aj hFi;replace hfg:=aj hfg;replace hFn:=aj hFn;replace hst:=aj hst;replace hmi:=aj hmi;replace hla:=aj hla
   have hdy:decide (y<0)=false:=decide_eq_false (by omega)
   by_cases hr:y<=ro
   ·have hdr:decide (ro < y)=false:=decide_eq_false (by omega)
    have hno:=hnoT
    clear hnoT
    go_wp2_with (first|((first|((with_reducible refine gL ?_);first|refine gY hS rfl rfl rfl ?_|refine zQ hS rfl rfl rfl ?_)|((with_reducible refine gS ?_);refine bQ hS rfl rfl rfl ?_));refine⟨_,zd,?_⟩;clear hS;(try clear w');refine zF ?_;intro w' hS;(try simp only[sE]at hS))|((with_reducible refine gA ?_);refine aT 8 rfl hS rfl rfl ?_;clear hS;(try clear w');intro b8;refine zF ?_;intro w' hS))
    (refine bF (S:=(St w [] V [.blk b8 29 [.int .i64 f,.int .i64 ro,.int .i64 lo',.int .i64 hi'],.blk b23 3 (aV (LT i)),.blk b2 25 [.slice (some ⟨vg,vo,none⟩) k.n vcap,.slice ra k.rdg.length rcap]])) [false,false,false,false,false,false,false,false,false,false,false,false,false,false] rfl (by kernel_rfl) ?_;replace hS:=St.eY hS;(iterate 14 ((first|refine hxm 0 rfl ?_|refine hxm 1 rfl ?_|refine hxp 2 rfl ?_|refine hxc 3 rfl ?_|refine hxp 4 rfl ?_|refine hxm 5 rfl ?_|refine hxm 6 rfl ?_|refine hxm 7 rfl ?_|refine hxp 8 rfl ?_|refine hxc 9 rfl ?_|refine hxp 10 rfl ?_|refine hxa 11 rfl ?_|refine hxp 12 rfl ?_|refine hxp 13 rfl ?_);refine zH ?_));refine wpAnyH_done (by kernel_rfl) ?_ _)
    go_wp2_with (first|(((with_reducible refine gL ?_);first|refine lW hS rfl rfl rfl ?_|refine nC hS rfl rfl rfl ?_);refine⟨_,zd,?_⟩;clear hS;(try clear w');refine zF ?_;intro w' hS)|(go_at_call 36;refine adD hS (adK hk i (St.view hS)) ?_;clear hS;(try clear w');intro V4 v4 w' hV4 hv4 hone4 hS;have hcell4:=hcell.mono hV4))
    obtain⟨fa,fcap,hfv,hfc,hfm,hfe⟩:=hv4.is
    subst hfv
    rw[hFl]at hfe hfc
    have hlx4:∀ x,x<k.n->V4.Cell lg (lo+x) (.int .i64 (l.getD x 0)):=fun x hx=>(hlx.out x hx).mono hV4
    replace hlx4:=aj hlx4
    rw[hFl]
    go_loopw [10,11] (fun nv qv wr=>∃ q:Nat,q<=F.length/\qv=.int .i64 (q:Int)/\nv=.int .i64 (D q)/\St w [] V4 [.blk b8 29 [.int .i64 f,.int .i64 ro,.int .i64 lo',.int .i64 hi'],.blk b23 3 (aV (LT i)),.blk b2 25 [.slice (some ⟨vg,vo,none⟩) k.n vcap,.slice ra k.rdg.length rcap]] wr) (fun _ qv _=>F.length-(intOf qv).toNat)
    case atStart=>exact⟨0,by omega,rfl,by rw[hl0],hS⟩
    case round =>
     clear hS
     obtain⟨q,hq,rfl,rfl,hS⟩:=hrel
     have h0q:(0:Int)<=q:=by omega
     by_cases hql:q<F.length
     ·have hql':(q:Int) < F.length:=by omega
      obtain⟨fg,fo,hfa,hfr⟩:=hfe (by omega)
      subst hfa
      have hcf:=hfr q hql 0 _ rfl
      simp only[Nat.mul_one,Nat.add_zero]at hcf
      rw[hFi.out q hql]at hcf
      have hx:=hfg.out q hql
      have hsq:=hls.out q hql
      obtain⟨c1,c2⟩:=hlb.out q (by omega)
      obtain⟨c3,c4⟩:=hlb.out (q+1) (by omega)
      generalize F.getD q 0=x at hcf hx hsq
      have hcx:=hlx4.out x hx
      generalize l.getD x 0=z at hcx hsq
      rw[hsq]at c3 c4
      have hx0:(0:Int)<=x:=by omega
      have hxk:(x:Int)<k.n:=by omega
      replace hsq:=aj hsq
      clear hfe hfr hv4
      go_wp2_with (((with_reducible refine gL ?_);refine nC hS rfl rfl rfl ?_);refine⟨_,zd,?_⟩;clear hS;(try clear w');refine zF ?_;intro w' hS)
      go_roundw
      case rel=>exact⟨q+1,by omega,by go_num,by rw[hsq.out],hS⟩
      case measure=>simp only[intOf];omega
     ·obtain rfl:q=F.length:=by omega
      clear hfe hv4
      rcases Nat.eq_zero_or_pos F.length with hz|hp
      ·have hdz:decide ((0:Int) < (F.length:Int))=false:=decide_eq_false (by omega)
       have hok1:=hyes.out ⟨y1,hr⟩ fun h=>absurd (List.length_eq_zero_iff.1 hz) h
       have hmi':=hmi.out (List.length_eq_zero_iff.1 hz)
       clear hls hlb hFi hfg hFn hst hmi hla hyes
       replace hok1:=aj hok1;replace hmi':=aj hmi'
       go_wp2_with (fail)
       go_roundw
       case rel=>exact⟨i+1,by omega,by go_num,hok1.out,by rw[<- hmi'.out];exact(hS.weaken hV4).aG⟩
       case measure=>simp only[intOf];omega
      ·have hdz:decide ((0:Int) < (F.length:Int))=true:=decide_eq_true (by omega)
       have hne:F≠[]:=List.ne_nil_of_length_pos hp
       have hD:=hla.out hne
       obtain⟨c1,c2⟩:=hlb.out F.length (by omega)
       rw[hD]at c1 c2 |-
       have hok1:=fun h=>hyes.out ⟨y1,hr⟩ fun _=>h
       have hno1:¬ (lo'<=n/\n<=hi')->¬ Truth k l:=fun h=>hno.out fun hh=>h (hh.2 hne)
       clear hls hlb hFi hfg hFn hmi hla hyes hno
       replace hok1:=aj hok1;replace hno1:=aj hno1;replace hst:=aj hst
       by_cases h1:n<lo'
       ·have hd1:decide (n < lo')=true:=decide_eq_true h1
        have hnt:=hno1.out (by omega)
        replace hnt:=aj hnt
        go_wp2_with (((with_reducible refine gL ?_);refine gY hS rfl rfl rfl ?_);refine⟨_,zd,?_⟩;clear hS;(try clear w');refine zF ?_;intro w' hS)
        ((try simp only[Exit.inBlock,Exit.then]);(try refine aB ?_);refine bK ⟨_,by exact dA (r1:=.tmp 4) (r2:=.tmp 5) (by kernel_rfl) (by exact bD rfl) (by exact bD rfl),?_⟩ rfl)
        exact .inr ⟨hnt.out,rfl,hS.bM⟩
       ·have hd1:decide (n < lo')=false:=decide_eq_false h1
        by_cases h2:hi'<n
        ·have hd2:decide (hi' < n)=true:=decide_eq_true h2
         have hnt:=hno1.out (by omega)
         replace hnt:=aj hnt
         go_wp2_with (((with_reducible refine gL ?_);refine gY hS rfl rfl rfl ?_);refine⟨_,zd,?_⟩;clear hS;(try clear w');refine zF ?_;intro w' hS)
         ((try simp only[Exit.inBlock,Exit.then]);(try refine aB ?_);refine bK ⟨_,by exact dA (r1:=.tmp 4) (r2:=.tmp 5) (by kernel_rfl) (by exact bD rfl) (by exact bD rfl),?_⟩ rfl)
         exact .inr ⟨hnt.out,rfl,hS.bM⟩
        ·have hd2:decide (hi' < n)=false:=decide_eq_false h2
         have hok2:=hok1.out ⟨by omega,by omega⟩
         replace hok2:=aj hok2
         go_wp2_with (((first|((with_reducible refine gL ?_);refine gY hS rfl rfl rfl ?_)|((with_reducible refine gS ?_);refine pX hS rfl rfl rfl ?_));refine⟨_,zd,?_⟩;clear hS;(try clear w');refine zF ?_;intro w' hS;(try simp only[sE]at hS));try (simp only[jJ]at hS))
         go_roundw
         case rel =>
          rw[hst.out]at hS
          exact⟨i+1,by omega,by go_num,hok2.out,(hS.weaken hV4).aG⟩
         case measure=>simp only[intOf];omega
   ·have hdr:decide (ro < y)=true:=decide_eq_true (by omega)
    have hno:=hnoT.out fun h=>hr h.1.2
    clear hyes hnoT hls hlb hFi hfg hFn hst hmi hla
    replace hno:=aj hno
    go_wp2_with (first|((first|((with_reducible refine gL ?_);first|refine gY hS rfl rfl rfl ?_|refine zQ hS rfl rfl rfl ?_)|((with_reducible refine gS ?_);refine bQ hS rfl rfl rfl ?_));refine⟨_,zd,?_⟩;clear hS;(try clear w');refine zF ?_;intro w' hS;(try simp only[sE]at hS))|((with_reducible refine gA ?_);refine aT 8 rfl hS rfl rfl ?_;clear hS;(try clear w');intro b8;refine zF ?_;intro w' hS))
    (refine bF (S:=(St w [] V [.blk b8 29 [.int .i64 f,.int .i64 ro,.int .i64 lo',.int .i64 hi'],.blk b23 3 (aV (LT i)),.blk b2 25 [.slice (some ⟨vg,vo,none⟩) k.n vcap,.slice ra k.rdg.length rcap]])) [false,false,false,false,false,false,false,false,false,false,false,false,false,false] rfl (by kernel_rfl) ?_;replace hS:=St.eY hS;(iterate 14 ((first|refine hxm 0 rfl ?_|refine hxm 1 rfl ?_|refine hxp 2 rfl ?_|refine hxc 3 rfl ?_|refine hxp 4 rfl ?_|refine hxm 5 rfl ?_|refine hxm 6 rfl ?_|refine hxm 7 rfl ?_|refine hxp 8 rfl ?_|refine hxc 9 rfl ?_|refine hxp 10 rfl ?_|refine hxa 11 rfl ?_|refine hxp 12 rfl ?_|refine hxp 13 rfl ?_);refine zH ?_));refine wpAnyH_done (by kernel_rfl) ?_ _)
    go_wp2_with (fail)
    ((try simp only[Exit.inBlock,Exit.then]);(try refine aB ?_);refine bK ⟨_,by exact dA (r1:=.tmp 4) (r2:=.tmp 5) (by kernel_rfl) (by exact bD rfl) (by exact bD rfl),?_⟩ rfl)
    exact .inr ⟨hno.out,rfl,hS.bM⟩
  ·obtain rfl:i=k.n:=by omega
   rw[hall.out]at hS
   have hmem:∀ q,q<k.rdg.length->k.rdg.getD q default∈k.rdg:=fun q hq=>by
    rw[List.getD_eq_getElem?_getD,List.getElem?_eq_getElem hq]
    exact List.getElem_mem hq
   replace hmem:=aj hmem
   go_wp2_with (fail)
   go_loopw [12] (fun iv wr=>∃ q:Nat,q<=k.rdg.length/\iv=.int .i64 (q:Int)/\(∀ j,j<q->okR l (k.rdg.getD j default))/\St w [] V [.blk b23 3 (aV (ads k l)),.blk b2 25 [.slice (some ⟨vg,vo,none⟩) k.n vcap,.slice ra k.rdg.length rcap]] wr) (fun iv _=>k.rdg.length-(intOf iv).toNat)
   case atStart=>exact⟨0,by omega,rfl,(fun j hj=>absurd hj (by omega)),hS⟩
   case round =>
    clear hS
    obtain⟨q,hq,rfl,hgr,hS⟩:=hrel
    have h0q:(0:Int)<=q:=by omega
    by_cases hlt:q<k.rdg.length
    ·have hlt':(q:Int) < k.rdg.length:=by omega
     obtain⟨rg,rx,rfl,hrr⟩:=hre (by omega)
     have hcr:=hrr q hlt
     have hcl:(k.rdg.getD q default).cells.length=4:=rfl
     have hrok:=hok.rdg q hlt
     have hyes:okR l (k.rdg.getD q default)->∀ j,j<q+1->okR l (k.rdg.getD j default):=fun h j hj=>by
      rcases Nat.lt_succ_iff_lt_or_eq.1 hj with hj|rfl
      ·exact hgr j hj
      ·exact h
     have hnoT:¬ okR l (k.rdg.getD q default)->¬ Truth k l:=fun h hh=>h ((hT.out.1 hh).2 _ (hmem.out q hlt))
     unfold je.Ok at hrok
     unfold je.cells at hcr hcl
     have hyes':(-(k.rdg.getD q default).err<=l.getD (k.rdg.getD q default).vessel.toNat 0-(k.rdg.getD q default).shown/\l.getD (k.rdg.getD q default).vessel.toNat 0-(k.rdg.getD q default).shown<=(k.rdg.getD q default).err)->∀ j,j<q+1->okR l (k.rdg.getD j default):=hyes
     have hnoT':¬ (-(k.rdg.getD q default).err<=l.getD (k.rdg.getD q default).vessel.toNat 0-(k.rdg.getD q default).shown/\l.getD (k.rdg.getD q default).vessel.toNat 0-(k.rdg.getD q default).shown<=(k.rdg.getD q default).err)->¬ Truth k l:=hnoT
     clear hyes hnoT hgr
     obtain⟨r1,r2,r3,r4,r5,r6,r7,r8⟩:=hrok
     generalize hP:(∀ j,j<q+1->okR l (k.rdg.getD j default))=P at hyes'
     generalize (k.rdg.getD q default).vessel=f at hcr hcl hyes' hnoT' r1 r2
     generalize (k.rdg.getD q default).scale=sc at hcr hcl r3 r4
     generalize (k.rdg.getD q default).shown=sh at hcr hcl hyes' hnoT' r5 r6
     generalize (k.rdg.getD q default).err=er at hcr hcl hyes' hnoT' r7 r8
     obtain⟨x,rfl⟩:∃ x:Nat,f=(x:Int):=⟨f.toNat,by omega⟩
     rw[Int.toNat_natCast]at hyes' hnoT'
     have hcx:=hlx.out x (by omega)
     obtain⟨y1,y2⟩:=hb.out x (by omega)
     generalize l.getD x 0=y at hcx y1 y2 hyes' hnoT'
     clear hrr
     replace hyes':=aj hyes';replace hnoT':=aj hnoT';replace hP:=aj hP;replace hgo:=aj hgo
     by_cases h1:y-sh < -er
     ·have hd1:decide (y - sh < -er)=true:=decide_eq_true h1
      have hnt:=hnoT'.out (by omega)
      replace hnt:=aj hnt
      go_wp2_with (first|((first|((with_reducible refine gL ?_);first|refine gY hS rfl rfl rfl ?_|refine zQ hS rfl rfl rfl ?_)|((with_reducible refine gS ?_);refine bQ hS rfl rfl rfl ?_));refine⟨_,zd,?_⟩;clear hS;(try clear w');refine zF ?_;intro w' hS;(try simp only[sE]at hS))|((with_reducible refine gA ?_);refine aT 13 rfl hS rfl rfl ?_;clear hS;(try clear w');intro b13;refine zF ?_;intro w' hS))
      (refine bF (S:=(St w [] V [.blk b13 59 [.int .i64 (x:Int),.int .i64 sc,.int .i64 sh,.int .i64 er],.blk b23 3 (aV (ads k l)),.blk b2 25 [.slice (some ⟨vg,vo,none⟩) k.n vcap,.slice (some ⟨rg,rx,none⟩) k.rdg.length rcap]])) [false,false,false,false,false,false,false,false,false] rfl (by kernel_rfl) ?_;replace hS:=St.eY hS;(iterate 9 ((first|refine hxm 0 rfl ?_|refine hxp 1 rfl ?_|refine hxa 2 rfl ?_|refine hxp 3 rfl ?_|refine hxc 4 rfl ?_|refine hxp 5 rfl ?_|refine hxa 6 rfl ?_|refine hxp 7 rfl ?_|refine hxp 8 rfl ?_);refine zH ?_));refine wpAnyH_done (by kernel_rfl) ?_ _)
      go_wp2_with (((with_reducible refine gL ?_);refine gY hS rfl rfl rfl ?_);refine⟨_,zd,?_⟩;clear hS;(try clear w');refine zF ?_;intro w' hS)
      ((try simp only[Exit.inBlock,Exit.then]);(try refine aB ?_);refine bK ⟨_,by exact dA (r1:=.tmp 4) (r2:=.tmp 5) (by kernel_rfl) (by exact bD rfl) (by exact bD rfl),?_⟩ rfl)
      exact .inr ⟨hnt.out,rfl,hS.bM⟩
     ·have hd1:decide (y - sh < -er)=false:=decide_eq_false h1
      by_cases h2:er<y-sh
      ·have hd2:decide (er < y - sh)=true:=decide_eq_true h2
       have hnt:=hnoT'.out (by omega)
       replace hnt:=aj hnt
       go_wp2_with (first|((first|((with_reducible refine gL ?_);first|refine gY hS rfl rfl rfl ?_|refine zQ hS rfl rfl rfl ?_)|((with_reducible refine gS ?_);refine bQ hS rfl rfl rfl ?_));refine⟨_,zd,?_⟩;clear hS;(try clear w');refine zF ?_;intro w' hS;(try simp only[sE]at hS))|((with_reducible refine gA ?_);refine aT 13 rfl hS rfl rfl ?_;clear hS;(try clear w');intro b13;refine zF ?_;intro w' hS))
       (refine bF (S:=(St w [] V [.blk b13 59 [.int .i64 (x:Int),.int .i64 sc,.int .i64 sh,.int .i64 er],.blk b23 3 (aV (ads k l)),.blk b2 25 [.slice (some ⟨vg,vo,none⟩) k.n vcap,.slice (some ⟨rg,rx,none⟩) k.rdg.length rcap]])) [false,false,false,false,false,false,false,false,false] rfl (by kernel_rfl) ?_;replace hS:=St.eY hS;(iterate 9 ((first|refine hxm 0 rfl ?_|refine hxp 1 rfl ?_|refine hxa 2 rfl ?_|refine hxp 3 rfl ?_|refine hxc 4 rfl ?_|refine hxp 5 rfl ?_|refine hxa 6 rfl ?_|refine hxp 7 rfl ?_|refine hxp 8 rfl ?_);refine zH ?_));refine wpAnyH_done (by kernel_rfl) ?_ _)
       go_wp2_with (((with_reducible refine gL ?_);refine gY hS rfl rfl rfl ?_);refine⟨_,zd,?_⟩;clear hS;(try clear w');refine zF ?_;intro w' hS)
       ((try simp only[Exit.inBlock,Exit.then]);(try refine aB ?_);refine bK ⟨_,by exact dA (r1:=.tmp 4) (r2:=.tmp 5) (by kernel_rfl) (by exact bD rfl) (by exact bD rfl),?_⟩ rfl)
       exact .inr ⟨hnt.out,rfl,hS.bM⟩
      ·have hd2:decide (er < y - sh)=false:=decide_eq_false h2
       have hyt:=hyes'.out (by omega)
       rw[<- hP.out]at hyt
       replace hyt:=aj hyt
       go_wp2_with (first|((first|((with_reducible refine gL ?_);first|refine gY hS rfl rfl rfl ?_|refine zQ hS rfl rfl rfl ?_)|((with_reducible refine gS ?_);refine bQ hS rfl rfl rfl ?_));refine⟨_,zd,?_⟩;clear hS;(try clear w');refine zF ?_;intro w' hS;(try simp only[sE]at hS))|((with_reducible refine gA ?_);refine aT 13 rfl hS rfl rfl ?_;clear hS;(try clear w');intro b13;refine zF ?_;intro w' hS))
       (refine bF (S:=(St w [] V [.blk b13 59 [.int .i64 (x:Int),.int .i64 sc,.int .i64 sh,.int .i64 er],.blk b23 3 (aV (ads k l)),.blk b2 25 [.slice (some ⟨vg,vo,none⟩) k.n vcap,.slice (some ⟨rg,rx,none⟩) k.rdg.length rcap]])) [false,false,false,false,false,false,false,false,false] rfl (by kernel_rfl) ?_;replace hS:=St.eY hS;(iterate 9 ((first|refine hxm 0 rfl ?_|refine hxp 1 rfl ?_|refine hxa 2 rfl ?_|refine hxp 3 rfl ?_|refine hxc 4 rfl ?_|refine hxp 5 rfl ?_|refine hxa 6 rfl ?_|refine hxp 7 rfl ?_|refine hxp 8 rfl ?_);refine zH ?_));refine wpAnyH_done (by kernel_rfl) ?_ _)
       go_wp2_with (((with_reducible refine gL ?_);refine gY hS rfl rfl rfl ?_);refine⟨_,zd,?_⟩;clear hS;(try clear w');refine zF ?_;intro w' hS)
       go_roundw
       case rel=>exact⟨q+1,by omega,by go_num,hyt.out,hS.aG⟩
       case measure=>simp only[intOf];omega
    ·obtain rfl:q=k.rdg.length:=by omega
     have htr:=hT.out.2 ⟨hgo,fun r hr=>by
      obtain⟨j,hj,rfl⟩:=List.getElem_of_mem hr
      have:=hgr j hj
      rwa [List.getD_eq_getElem?_getD,List.getElem?_eq_getElem hj]at this⟩
     clear hgr hgo
     replace htr:=aj htr
     go_wp2_with (((with_reducible refine gL ?_);refine gY hS rfl rfl rfl ?_);refine⟨_,zd,?_⟩;clear hS;(try clear w');refine zF ?_;intro w' hS)
     ((try simp only[Exit.inBlock,Exit.then]);(try refine aB ?_);refine bK ⟨_,by exact dA (r1:=.tmp 4) (r2:=.tmp 5) (by kernel_rfl) (by exact bD rfl) (by exact bD rfl),?_⟩ rfl)
     refine .inl ⟨htr.out,_,rfl,?_⟩
     have h2:=XT (n:=k.n) (cap:=k.n) (xs:=aV (ads k l)) (pad:=[]) (s:=1) (by rw[List.append_nil];exact hS) (Nat.le_refl _) (Nat.le_trans hn6 (by decide)) (by rw[iD,adA,Nat.mul_one]) (by rw[List.append_nil,iD,adA,Nat.mul_one]) (fun c hc=>nomatch hc)
     exact h2.aG
theorem afV.of {w w':World} {V V':View} (h:afV w' V V') (hs:w.heap.size<=w'.heap.size):afV w V V':=⟨h.up,fun j o hj=>(h.new j o hj).imp id (Nat.le_trans hs)⟩
theorem ah5 {w0:World} {L:List dF} {l:List Int} {n:Nat} {v:Value} (h:St w0 [] V (.row v 3 1 n (aV l)::L) w) (hn:l.length=n):∃ V',afV w0 V V'/\St w0 [] V' L w/\VI V' v l:=by
 subst hn
 exact ag3 h
theorem ah6 {vv rv:Value} {k:Wk} (hk:iJ V vv rv k) (hok:k.Ok) (h4:k.n<=4) (hV:V.In w) :
  Calls Tryd.prog 61 #[.agg #[vv,rv]] w fun e w'=>∃ v1 v2 V',e=.returned (.tuple #[v1,v2])/\afV w V V'/\St w [] V' [] w'/\VLL V' v1 (jv k)/\VLL V' v2 ((jv k).map (ads k)):=by
 have hk0:=hk
 obtain⟨va,vcap,hvv,hvc,hvm,hve⟩:=hk0.ves.is
 have hone2:=qB (wO hk.ves) (wO hk.rdg)
 subst hvv
 have hr2':([Value.slice va k.n vcap,rv]).length=2:=rfl
 have hS:=St.start w V hV
 clear hk0 hve
 go_enter Tryd.func61,Tryd.ntmps61
 go_wp2_with (first|(first|(((with_reducible refine gL ?_);refine gY hS rfl rfl rfl ?_);refine⟨_,zd,?_⟩;clear hS;(try clear w');refine zF ?_;intro w' hS)|((with_reducible refine gB ?_);refine iK 1 rfl hS rfl rfl rfl ?_;refine⟨_,za,?_⟩;clear hS;(try clear w');intro b1;refine zF ?_;intro w' hS))|(go_at_call 109;refine(ah2 (k:=k.n) h4 (St.view hS)).mono ?_;rintro _ w1 ⟨vs0,V1,rfl,hV1,hS1,hvs0⟩;have hV1w:=afV.of hV1 hS.size;have hS2:=hS.ahu hS1 hV1;simp only[List.cons_append,List.nil_append]at hS2;clear hS hS1;(try clear w');have hS:=hS2;clear hS2;have hvo0:=hvs0.one))
 have hk1:=jf hk hV1.up
 have hO:=ahB 7 k.n
 have hOl:(agN 7 k.n).length<=2401:=by
  rw[hO]
  exact Nat.le_trans (Nat.pow_le_pow_right (by decide) h4) (by decide)
 obtain⟨us,hu1,hu2,hu3⟩:=hvs0.is
 obtain⟨oa,ocap,hov,hoc,hom,hoe⟩:=hu2.is
 subst hov
 have hel:∀ x,x<(agN 7 k.n).length->((agN 7 k.n).getD x []).length=k.n/\∀ i,i<k.n->0<=((agN 7 k.n).getD x []).getD i 0/\((agN 7 k.n).getD x []).getD i 0<=100:=fun x hx=>by
  rw[List.getD_eq_getElem?_getD,List.getElem?_eq_getElem hx,Option.getD_some]
  obtain⟨h1,h2⟩:=ahn.1 (List.getElem_mem hx)
  refine⟨h1,fun i hi=>?_⟩
  have:=h2 (((agN 7 k.n)[x]).getD i 0) (by rw[List.getD_eq_getElem?_getD,List.getElem?_eq_getElem (by omega)];exact List.getElem_mem _)
  omega
 have hhit:=fun x hx h=>ahM (k:=k) (x:=x) hx h
 have hmis:=fun x hx h=>ahJ (k:=k) (x:=x) hx h
 have hall:=aht k
 have hTl:=fun x=>ahs k x
 have hz:ahf k 0=[]:=rfl
 generalize ahf k=T at hhit hmis hall hTl hz
 generalize agN 7 k.n=O at hOl hel hhit hmis hall hu1 hu2 hu3 hoc hoe hvs0 |-
 clear hvs0 hu2 hO
 replace hel:=aj hel;replace hhit:=aj hhit;replace hmis:=aj hmis;replace hall:=aj hall;replace hTl:=aj hTl;replace hu3:=aj hu3
 replace hS:=(hS.nilRow 30 1).nilRow 30 1
 go_wp2_with (fail)
 go_loopw [4,5,7] (fun ov lv iv wr=>∃ (i:Nat) (us vs:List Value) (V':View),i<=O.length/\iv=.int .i64 (i:Int)/\ov.oneCell'=true/\lv.oneCell'=true/\afM V' us (T i)/\afM V' vs ((T i).map (ads k))/\afV w V1 V'/\St w [] V' [.row ov 30 1 us.length us,.row lv 30 1 vs.length vs,.blk b1 25 [.slice va k.n vcap,rv]] wr) (fun _ _ iv _=>O.length-(intOf iv).toNat)
 case atStart=>exact⟨0,[],[],V1,by omega,rfl,rfl,rfl,by rw[hz];exact afM.nil V1,by rw[hz];exact afM.nil V1,.rfl,hS⟩
 case round =>
  clear hS
  obtain⟨i,us1,vs1,V2,hi,rfl,hone,hone1,hN,hM,hV2,hS⟩:=hrel
  have h0:(0:Int)<=i:=by omega
  by_cases hlt:i<O.length
  ·have hlt':(i:Int) < O.length:=by omega
   obtain⟨og,oo,hoa,hor⟩:=hoe (by omega)
   subst hoa
   have hcell:=(hor i hlt 0 _ rfl).mono hV2.up
   simp only[Nat.mul_one,Nat.add_zero]at hcell
   have hvi:=IU (hu3.out i hlt) hV2.up
   obtain⟨hl1,hl2⟩:=hel.out i hlt
   have hhi:=hhit.out i hlt
   have hmi:=hmis.out i hlt
   have hTi:=hTl.out i
   have hk2:=jf hk1 hV2.up
   generalize us.getD i undef=u at hcell hvi
   generalize O.getD i []=l at hvi hl1 hl2 hhi hmi
   have huo:=wO hvi
   have hul:us1.length+1<=10000:=by rw[hN.len];omega
   have hvl:vs1.length+1<=10000:=by rw[hM.len,List.length_map];omega
   clear hor hoe
   replace hN:=aj hN;replace hM:=aj hM;replace hl2:=aj hl2
   by_cases ht:Truth k l
   ·have hh:=hhi ht
    clear hhi hmi
    replace hh:=aj hh;replace ht:=aj ht
    go_wp2_with (fail)
    (refine bF (S:=(St w [] V2 [.row u4 30 1 us1.length us1,.row u5 30 1 vs1.length vs1,.blk b1 25 [.slice va k.n vcap,rv]])) [false,false,false,false,false,false,false,false,false,false,false] rfl (by kernel_rfl) ?_;replace hS:=St.eY hS;(iterate 5 ((first|refine hxb 0 rfl ?_|refine hxm 1 rfl ?_|refine hxm 2 rfl ?_|refine hxp 3 rfl ?_|refine hxc 4 rfl ?_);refine zH ?_));(refine oZ 5 (by kernel_rfl) rfl rfl ⟨_,_,zo,?_⟩;refine(aeC hk2 hok hvi hl1 hl2.out (St.view hS)).mono ?_;rintro _ w1 h;obtain⟨_,v26,rfl,hS1⟩:=h.resolve_right (fun h=>h.1 ht.out);have hS2:=hS.Nq hS1;simp only[List.cons_append,List.nil_append]at hS2;clear hS hS1;(try clear w');have hS:=hS2;clear hS2;have hv26:=dY hS v26;refine⟨_,rfl,?_⟩;refine zH ?_;refine⟨(St.aG hS),?_⟩);(iterate 5 ((first|refine hxm 6 rfl ?_|refine hxp 7 rfl ?_|refine hxp 8 rfl ?_|refine hxp 9 rfl ?_|refine hxp 10 rfl ?_);refine zH ?_));refine wpAnyH_done (by kernel_rfl) ?_ _)
    have huo1:=one_one huo
    have hv26o:=one_one hv26
    go_wp2_with (first|(((with_reducible refine gL ?_);refine nC hS rfl rfl rfl ?_);refine⟨_,zd,?_⟩;clear hS;(try clear w');refine zF ?_;intro w' hS)|((with_reducible refine uP ?_);refine rE hS rfl rfl ?_;refine⟨_,zq,zd,?_⟩;clear hS;(try clear w');intro _;refine zF ?_;intro w' hS)|((with_reducible refine Q5 ?_);refine Ui rfl rfl ?_;refine⟨_,_,_,_,by exact rfl,by exact rfl,?_⟩;first|(refine ahE hS ⟨rfl,one_one huo,(by omega)⟩ ?_;clear hS;(try clear w');intro ya w' hS;refine zF ?_;(try simp only[sE]at hS);have hya:=dY hS ya)|(refine ahE hS ⟨rfl,one_one hv26,(by omega)⟩ ?_;clear hS;(try clear w');intro yb w' hS;refine zF ?_;(try simp only[sE]at hS);have hyb:=dY hS yb)))
    obtain⟨V4,hV4,hS4,hvi4⟩:=ah5 (St.drop (St.drop hS)) (adA k l)
    clear hS
    go_roundw
    case rel=>exact⟨i+1,us1 ++ [u],vs1 ++ [v26],V4,by omega,by go_num,hya,hyb,by rw[hh.out];exact(hN.out.mono hV4.up).add (IU hvi hV4.up),by rw[hh.out,List.map_append];exact(hM.out.mono hV4.up).add hvi4,hV2.trans hV4,by rw[List.length_append,List.length_append];exact hS4.aG⟩
    case measure=>simp only[intOf];omega
   ·have hm:=hmi ht
    clear hhi hmi
    replace hm:=aj hm;replace ht:=aj ht
    go_wp2_with (fail)
    (refine bF (S:=(St w [] V2 [.row u4 30 1 us1.length us1,.row u5 30 1 vs1.length vs1,.blk b1 25 [.slice va k.n vcap,rv]])) [false,false,false,false,false,false,false,false,false,false,false] rfl (by kernel_rfl) ?_;replace hS:=St.eY hS;(iterate 5 ((first|refine hxb 0 rfl ?_|refine hxm 1 rfl ?_|refine hxm 2 rfl ?_|refine hxp 3 rfl ?_|refine hxc 4 rfl ?_);refine zH ?_));(refine oZ 5 (by kernel_rfl) rfl rfl ⟨_,_,zo,?_⟩;refine(aeC hk2 hok hvi hl1 hl2.out (St.view hS)).mono ?_;rintro _ w1 h;obtain⟨_,rfl,hkp⟩:=h.resolve_left (fun h=>ht.out h.1);replace hS:=hS.kp hkp;clear hkp;(try clear w');refine⟨_,rfl,?_⟩;refine zH ?_;refine⟨(St.aG hS),?_⟩);(iterate 5 ((first|refine hxm 6 rfl ?_|refine hxp 7 rfl ?_|refine hxp 8 rfl ?_|refine hxp 9 rfl ?_|refine hxp 10 rfl ?_);refine zH ?_));refine wpAnyH_done (by kernel_rfl) ?_ _)
    go_wp2_with (fail)
    go_roundw
    case rel=>exact⟨i+1,us1,vs1,V2,by omega,by go_num,hone,hone1,by rw[hm.out];exact hN.out,by rw[hm.out];exact hM.out,hV2,hS⟩
    case measure=>simp only[intOf];omega
  ·obtain rfl:i=O.length:=by omega
   replace hN:=aj hN;replace hM:=aj hM
   go_wp2_with (fail)
   ((try simp only[Exit.inBlock,Exit.then]);(try refine aB ?_);refine bK ⟨_,by exact dA (r1:=.tmp 2) (r2:=.tmp 3) (by kernel_rfl) (by exact bD rfl) (by exact bD rfl),?_⟩ rfl)
   obtain⟨V5,hV5,hS5,hv5⟩:=af9 hS
   obtain⟨V6,hV6,hS6,hv6⟩:=af9 hS5
   rw[hall.out]at hN hM
   exact⟨_,_,V6,rfl,(hV1w.trans hV2).trans (hV5.trans hV6),hS6.aG,(hN.out.mono fun j o h=>hV6.up j o (hV5.up j o h)).vll (pW.mono hv5 hV6.up),(hM.out.mono fun j o h=>hV6.up j o (hV5.up j o h)).vll hv6⟩
theorem aib (l:List nN) (pad:List Value) (q:Nat) (hq:q<l.length) (room:Int):(fD l ++ pad).set (q * 4+1) (.int .i64 room)=fD (l.set q ⟨(l.getD q default).from_,room,(l.getD q default).lo,(l.getD q default).hi⟩) ++ pad:=by
 induction l generalizing q with
 |nil=>simp at hq
 | cons x l ih =>
  cases q with
  |zero=>rfl
  |succ q =>
   have h:=ih q (by simpa using hq)
   have e:fD (x::l)=.int .i64 x.from_::.int .i64 x.room::.int .i64 x.lo::.int .i64 x.hi::fD l:=rfl
   rw[e]
   rw[show(q+1) * 4+1=(q * 4+1)+1+1+1+1 by omega]
   simp only[List.cons_append,List.set_cons_succ,List.getD_cons_succ]
   rw[h]
   rfl
theorem aij (l:List nN) (pad:List Value) (q:Nat) (hq:q<l.length):(fD l ++ pad)[q * 4+1]? = some (.int .i64 (l.getD q default).room):=by
 have h1:=Ei nN.cells (fun _=>rfl) l q (l.getD q default) (by simp[List.getD_eq_getElem?_getD,List.getElem?_eq_getElem hq]) 1 (by decide)
 have hl:(fD l).length=l.length * 4:=by rw[fD,jK _ (fun _=>rfl)]
 rw[List.getElem?_append_left (by omega)]
 exact h1
theorem aie {bh:Nat} {lv:Value} {cn st:Int} (hh:xB V bh lv cn) (hc9:cn<=900000) (hV:V.In w) (hVb:V bh=none) (hg:w.heap[bh]? = some (.cells (Wp lv cn st).toArray 90 (0,0))) :
  Calls Tryd.prog 60 #[.pointer (some ⟨bh,0,none⟩)] w fun e w'=>∃ (k:Wk) (vv rv:Value) (cn' st':Int),e=.returned (.agg #[vv,rv])/\k.Ok/\k.n<=4/\k.rdg.length<=4/\(∀ i,i<k.n->(k.v i).room<=6)/\cn<=cn'/\cn'<=cn+120 /\
   St w [bh] V [.row vv 29 4 k.n (fD k.ves),.row rv 59 4 k.rdg.length (fH k.rdg),.blk bh 90 (Wp lv cn' st')] w':=by
 have hS:=St.xW w V hV hg hVb
 clear hg
 go_enter Tryd.func60,Tryd.ntmps60
 go_wp2_with ((with_reducible refine gA ?_);refine aT 2 rfl hS rfl rfl ?_;clear hS;(try clear w');intro b2;refine zF ?_;intro w' hS)
 refine(afr hh hc9 (by decide) (by decide) (St.view hS) hVb (St.dR hS)).mono ?_
 rintro _ w1 ⟨k,vv,rv,c1,s1,rfl,hok,hkn,hrl,k1,k2,hS1⟩
 replace hS:St w [bh] V [.row vv 29 4 k.n (fD k.ves),.row rv 59 4 k.rdg.length (fH k.rdg),.blk b2 25 [.slice none 0 0,.slice none 0 0],.blk bh 90 (Wp lv c1 s1)] w1:=hS.comp (j:=1) rfl (hS1.perm (List.perm_append_comm (l₁:=[_,_]) (l₂:=[_])))
 clear hS1
 (try clear w')
 obtain⟨g,cap,pad,hvv,q1,q2,q3,q4,q5,hS2⟩:=QC hS hok.pos
 clear hS
 have hS:=hS2
 clear hS2
 subst hvv
 have hrvo:=dY hS rv
 have hone2:∀ u∈[Value.slice (some ⟨g,0,none⟩) k.n cap,rv],u.oneCell'=true:=qB rfl hrvo
 have hpos:=hok.pos
 have hn4:k.n<=4:=by omega
 have hvk:∀ j,j<k.n->(k.ves.getD j default).Ok j:=fun j hj=>hok.ves j hj
 replace hvk:=aj hvk
 go_wp2_with (first|(((with_reducible refine gS ?_);refine bQ hS rfl rfl rfl ?_);refine⟨_,zd,?_⟩;clear hS;(try clear w');refine zF ?_;intro w' hS;(try simp only[sE]at hS))|((with_reducible refine gA ?_);refine aT 3 rfl hS rfl rfl ?_;clear hS;(try clear w');intro b3;refine zF ?_;intro w' hS))
 go_loopw [4] (fun iv wr=>∃ (i:Nat) (l:List nN),iv=.int .i64 (i:Int)/\i<=k.n/\l.length=k.n/\(∀ j,j<k.n->(l.getD j default).Ok j/\(j<i->(l.getD j default).room<=6))/\St w [bh] V [.blk b3 25 [.slice (some ⟨g,0,none⟩) k.n cap,rv],.blk g 29 (fD l ++ pad),.row rv 59 4 k.rdg.length (fH k.rdg),.blk b2 25 [.slice none 0 0,.slice none 0 0],.blk bh 90 (Wp lv c1 s1)] wr) (fun iv _=>k.n-(intOf iv).toNat)
 case atStart=>exact⟨0,k.ves,rfl,by omega,rfl,fun j hj=>⟨hvk.out j hj,fun h=>absurd h (by omega)⟩,hS⟩
 case round =>
  clear hS
  obtain⟨i,l,rfl,hi,hl,hall,hS⟩:=hrel
  by_cases hlt:i<k.n
  ·have hlt':(i:Int) < k.n:=by omega
   have h0i:(0:Int)<=i:=by omega
   have hcell:=aij l pad i (by omega)
   have hlr:(fD l).length+pad.length >= k.n * 4:=by rw[fD,jK _ (fun _=>rfl),hl];omega
   have hup:=aib l pad i (by omega)
   obtain⟨o1,o2,o3,o4,o5,o6,o7,o8,o9⟩:=(hall i hlt).1
   have hnx:∀ ro,0<=ro->ro<=6->∀ j,j<k.n->((l.set i ⟨(l.getD i default).from_,ro,(l.getD i default).lo,(l.getD i default).hi⟩).getD j default).Ok j/\(j<i+1->((l.set i ⟨(l.getD i default).from_,ro,(l.getD i default).lo,(l.getD i default).hi⟩).getD j default).room<=6):=fun ro h1 h2 j hj=>by
    rw[fC _ _ _ _ _ (by omega)]
    by_cases e:i=j
    ·subst e
     rw[if_pos rfl]
     exact⟨⟨o1,o2,h1,Int.le_trans h2 (by decide),o5,o6,o7,o8,o9⟩,fun _=>h2⟩
    ·rw [if_neg e]
     exact⟨(hall j hj).1,fun h=>(hall j hj).2 (by omega)⟩
   generalize (l.getD i default).room=ro at hcell o3 o4
   clear o1 o2 o5 o6 o7 o8 o9
   replace hnx:=aj hnx;replace hup:=aj hup
   clear hall
   go_wp2_with (((with_reducible refine gL ?_);refine gY hS rfl rfl rfl ?_);refine⟨_,zd,?_⟩;clear hS;(try clear w');refine zF ?_;intro w' hS)
   (refine bF (S:=(St w [bh] V [.blk b3 25 [.slice (some ⟨g,0,none⟩) k.n cap,rv]])) [false,false,false,false,false,false,false,false,false,false,false,false,false] rfl (by kernel_rfl) ?_;replace hS:=St.eY hS;(iterate 8 ((first|refine hxp 0 rfl ?_|refine hxa 1 rfl ?_|refine hxm 2 rfl ?_|refine hxp 3 rfl ?_|refine hxa 4 rfl ?_|refine hxm 5 rfl ?_|refine hxp 6 rfl ?_|refine hxp 7 rfl ?_);refine zH ?_));(refine AZ 8 (by kernel_rfl) rfl hS rfl rfl rfl ?_;refine⟨_,zd,?_⟩;clear hS;(try clear w');refine zH ?_;intro w' hS;refine⟨(St.aG hS),?_⟩);(refine dw 9 rfl (by kernel_rfl) (by kernel_rfl) (by kernel_rfl) (fun _ _ _ _ h=>h) rfl (St.aG hS) ?_;refine⟨_,(fun w=>Eb rfl rfl rfl w),?_⟩;refine zH ?_);(iterate 2 ((first|refine hxp 10 rfl ?_|refine hxp 11 rfl ?_);refine zH ?_));((refine jl 12 (by kernel_rfl) rfl hS rfl  rfl rfl ?_;refine⟨_,zd,?_⟩);clear hS;(try clear w');refine zH ?_;intro w' hS;(try simp only[sE]at hS);refine⟨(St.aG hS),?_⟩);refine wpAnyH_done (by kernel_rfl) ?_ _)
   all_goals (
    rw[hup.out]at hS
    go_wp2_with (fail)
    go_roundw
    case rel=>exact⟨i+1,_,by go_num,by omega,by rw[List.length_set];exact hl,hnx.out (min 6 ro) (by omega) (by omega),hS.aG⟩
    case measure=>simp only[intOf];omega)
  ·obtain rfl:i=k.n:=by omega
   have hK:(⟨l,k.rdg⟩:Wk).Ok:=⟨by show 0<l.length;omega,by show l.length<=6;omega,fun j hj=>(hall j (by have hj':j<l.length:=hj;omega)).1,hok.rdl,fun j hj=>by
    have h1:=hok.rdg j hj
    have h2:(⟨l,k.rdg⟩:Wk).n=k.n:=hl
    rw[h2]
    exact h1⟩
   have hrm:∀ j,j<(⟨l,k.rdg⟩:Wk).n->((⟨l,k.rdg⟩:Wk).v j).room<=6:=fun j hj=>(hall j (by have hj':j<l.length:=hj;omega)).2 (by have hj':j<l.length:=hj;omega)
   clear hall
   replace hrm:=aj hrm
   go_wp2_with ((first|((with_reducible refine gL ?_);first|refine gY hS rfl rfl rfl ?_|refine lW hS rfl rfl rfl ?_)|((with_reducible refine gS ?_);refine bQ hS rfl rfl rfl ?_));refine⟨_,zd,?_⟩;clear hS;(try clear w');refine zF ?_;intro w' hS;(try simp only[sE]at hS))
   ((try simp only[Exit.inBlock,Exit.then]);(try refine aB ?_);refine bK ⟨_,by exact bH (r1:=.cell 2 25) (by kernel_rfl) (by exact rX hS rfl zd),?_⟩ rfl)
   have h1:St w [bh] V [.blk g 29 (fD l ++ pad),.row rv 59 4 k.rdg.length (fH k.rdg),.blk bh 90 (Wp lv c1 s1)] _:=hS.aG
   have el:(fD l).length=k.n * 4:=by rw[fD,jK _ (fun _=>rfl),hl]
   have hpl:(fD l ++ pad).length=cap * 4:=by rw[List.length_append,el];rw[List.length_append,fD,jK _ (fun _=>rfl)]at q4;exact q4
   have h2:=XT (n:=k.n) (s:=4) (cap:=cap) h1 q1 q2 el hpl q5
   refine⟨⟨l,k.rdg⟩,_,rv,c1,s1,rfl,hK,by show l.length<=4;omega,hrl,hrm.out,by omega,by omega,?_⟩
   show St w [bh] V [.row _ 29 4 l.length (fD l),.row rv 59 4 k.rdg.length (fH k.rdg),.blk bh 90 (Wp lv c1 s1)] _
   rw[hl]
   exact h2
end Go.Proofs.YtjjmefieegcddaaDoor
namespace Go.Tm
open Go
open Go.Conc
variable {P:Program}
section
variable {tgt k:List Item} {S:Act->World->Prop} {a:Act} {w:World}
theorem abn {todo todo':List Item} {a':Act} {w':World} (hs:∀ (b:Frame) (cs:List Frame),b.kind=.normal->Steps P (lone (b.at a todo) cs w) (lone (b.at a' todo') cs w')) (h:fA P tgt S todo' a' w'):fA P tgt S todo a w:=fun b cs hb=>by
 obtain⟨a2,w2,h1,h2⟩:=h b cs hb
 exact⟨a2,w2,h1,(hs b cs hb).trans h2⟩
theorem abT {ops:Array Oper} {l2:List Nat}:∀ (l1:List Nat) (a:Act) (w:World),wpOps P ops (fun e a' w'=>e=.normal/\fA P tgt S (.inRegion ops l2::k) a' w') l1 a w->fA P tgt S (.inRegion ops (l1 ++ l2)::k) a w
 | [],a,w,h=>h.2
 | i::rest,a,w,h=>by
  have ih:=abT (ops:=ops) (l2:=l2) rest
  simp only[wpOps]at h
  rw[List.cons_append]
  cases ho:ops[i]? with
  |none =>
   simp only[ho]at h
   refine abn (fun b cs _=>?_) (ih a w h)
   have hs:=step_op_skip (P:=P) (b:=b) (a:=a) (k:=k) (cs:=cs) (w:=w) (ops:=ops) (i:=i) (rest:=rest ++ l2) (by simp[ho])
   simp only[ho,Option.bind_none,Act.put]at hs
   exact .one hs
  | some o =>
   simp only[ho]at h
   by_cases hw:Region.wanted o (yielded ops a.tmps)=true
   ·simp only [hw,if_true] at h
    rcases h with h|⟨hasks,a₀,w₀,hq⟩
    case inr=>exact nomatch hq.1
    simp only[Oper.wp,Oper.upon]at h
    split at h
    ·rename_i v w' hr
     exact cO ho hw hr (ih _ _ h)
    ·rename_i w' hr
     exact Q8 ho hw hr (ih _ _ h)
    ·rename_i d w' hr
     refine abn (fun b cs _=>.one (step_lone_go ?_)) (ih _ _ h)
     have hg:=stepG_op (P:=P) (b:=b) (k:=k) (cs:=cs) (w:=w) (rest:=rest ++ l2) ho hw
     have:({b.at a (.inRegion ops (i::(rest ++ l2))::k)with defers:=d::a.defers}:Frame).finish undef =
       b.at ({a with defers:=d::a.defers}.put o.dst undef) (.inRegion ops (rest ++ l2)::k):=by
      have:=Frame.finish_at b {a with defers:=d::a.defers} ops i (rest ++ l2) k undef
      rw[ho]at this;exact this
     rw[hg];simp only[stepG.apply,Sem.runT_eq,hr,GStep.bare_after]
     exact congrArg (fun fr=>GStep.go {frame:=fr,callers:=cs,status:=.running,dying:=none} w') this
    ·rename_i f args w' hr
     refine rZ ho hw hr (h.mono fun e w'' hR=>?_)
     cases e with
     |returned v=>exact⟨v,rfl,ih _ _ hR⟩
     |panicked chain=>exact nomatch hR.1
     |outgrown =>
      obtain⟨a₀,w₀,hq⟩:=hR
      exact nomatch hq.1
    ·rename_i row args w' hr
     intro b cs hb
     have hg:=stepG_op (P:=P) (b:=b) (k:=k) (cs:=cs) (w:=w) (rest:=rest ++ l2) ho hw
     have hfin:∀ v,(b.at a (.inRegion ops (i::(rest ++ l2))::k)).finish v=b.at (a.put o.dst v) (.inRegion ops (rest ++ l2)::k):=by
      intro v;rw[Frame.finish_at,ho];rfl
     obtain⟨v,w'',hR,hsteps⟩:=h (b.at a (.inRegion ops (i::(rest ++ l2))::k)) cs
     have henter:step P (lone (b.at a (.inRegion ops (i::(rest ++ l2))::k)) cs w) =
       .next (lone (Frame.ofRow P row args .normal) (b.at a (.inRegion ops (i::(rest ++ l2))::k)::cs) w') :=
      step_lone_go (by rw[hg];simp[stepG.apply,hr,Frame.at])
     obtain⟨a',w₃,hq,harr⟩:=ih _ _ hR b cs hb
     refine⟨a',w₃,hq,.head henter (Steps.trans ?_ harr)⟩
     rw[<- hfin];exact hsteps
    ·exact nomatch h.1
    ·exact h.elim
   ·simp only [hw,if_false,Bool.false_eq_true] at h
    refine abn (fun b cs _=>?_) (ih _ _ h)
    have hs:=step_op_skip (P:=P) (b:=b) (a:=a) (k:=k) (cs:=cs) (w:=w) (ops:=ops) (i:=i) (rest:=rest ++ l2)
     (by simp[ho];simpa using hw)
    simp only[ho,Option.bind_some]at hs
    exact .one hs
theorem abE {ops:Array Oper} {Q:Exit->Act->World->Prop} (l:List Oper) (m:Nat) (h:∀ j,j<l.length->l[j]? = ops[m+j]?):wpOps P ops Q (List.range' m l.length)=wpList P ops Q l:=by
 induction l generalizing m with
 |nil=>funext a w;simp[wpOps,wpList]
 |cons o l ih =>
  have h0:ops[m]? = some o:=by simpa using(h 0 (by simp)).symm
  have ih':=ih (m+1) (fun j hj=>by have:=h (j+1) (by simpa using hj);simpa[Nat.add_assoc,Nat.add_comm 1 j]using this)
  funext a w
  simp only[List.length_cons,List.range'_succ,wpOps,h0,wpList,ih']
end
end Go.Tm
namespace Go.Proofs.YtjjmefieegcddaaDoor
open Go.RowKit Go.Wg Go.Mm Go.Wk
open Go Go.Sr Go.Ph Go.Tm Go.Conc
variable {w:World} {V:View} {f0:FuncId} {R:Ending->World->Prop} {todo k0:List Item} {a:Act}
structure RB (f0:FuncId) (R:Ending->World->Prop) (todo:List Item) (a:Act) (w:World):Prop where
 df:a.defers=[]
 run:∀ (b:Frame) (cs:List Frame),b.fn=f0->b.kind=.normal->∀ τ d,ay OC (w.re τ d) ->
  kU Tryd.prog (G (b.at a todo) cs) (w.re τ d) fun a' w'=>∃ e fr,a'=G fr cs/\R e w'/\fr.fn=f0/\fr.leaving Tryd.prog w' e/\e≠.outgrown/\ay OC w'
theorem RB.re (h:RB f0 R todo a w) (τ:Nat->Question->Nat) (d:Nat):RB f0 R todo a (w.re τ d):=⟨h.df,fun b cs h1 h2 τ' d' hh=>h.run b cs h1 h2 τ' d' hh⟩
theorem ado (tgt:List Item) (hit:todo.all qy=true) (hd:a.defers=[]) (h:∀ τ d,fA Tryd.prog tgt (RB f0 R tgt) todo a (w.re τ d)):RB f0 R todo a w :=
 ⟨hd,fun b cs hbf hbk τ d hh=>vI hbf hbk hit (fun x hx=>by rw[hd]at hx;cases hx) hh (S:=RB f0 R tgt) (fun a w τ d h=>h.re τ d) (fun τ' d'=>h τ' d') fun a' w' hS hh'=>hS.run b cs hbf hbk w'.tape w'.drawn hh'⟩
theorem ac7 {N:FuncId} {args:Array Value} {R':Ending->World->Prop} {ops:Array Oper} {l:List Nat} {i:Nat} {o:Oper} (hd:a.defers=[]) (ho:ops[i]? = some o) (hw:Region.wanted o (yielded ops a.tmps)=true) (hok':qj true o.op=true)
  (hr:∀ w,(execOp a.eval o).run Tryd.prog w=.ok (.enter N args) w) (hpan:∀ ch w,¬ R' (.panicked ch) w) (hc:∀ τ d,ay OC (w.re τ d)->kL Tryd.prog N args (w.re τ d) R')
  (hk:∀ v w',R' (.returned v) w'->RB f0 R (.inRegion ops l::k0) (a.put o.dst v) w'):RB f0 R (.inRegion ops (i::l)::k0) a w :=
 ⟨hd,fun b cs hbf hbk τ d hh=>Oh (hc τ d hh) hh hbk ho hw hok' hr hpan fun v w' hv hh'=>(hk v w' hv).run b cs hbf hbk w'.tape w'.drawn hh'⟩
theorem abY {f0:FuncId} {R:Ending->World->Prop} {fn:Func} {B:Code} {args:Array Value} {m:Nat} (hf:Tryd.prog.funcs[f0]? = some fn) (hb:fn.body=some B) (hm:fn.ntmps-args.size=m) (hh:ay OC w)
  (h:RB f0 R [.code B] {tmps:=args ++ Array.replicate m undef,defers:=[]} w):kL Tryd.prog f0 args w R :=
 jD hf hb fun cs b hbf hbk _=>by
  rw[hm]
  exact h.run b cs hbf hbk w.tape w.drawn hh
theorem adh {fn:Func} {v:Value} (hf:Tryd.prog.funcs[f0]? = some fn) (hd:a.defers=[]) (hr:∀ w,(results fn a.tmps).run Tryd.prog w=.ok v w) (hR:∀ τ d,R (.returned v) (w.re τ d)) (hins:Ins R):RB f0 R (.code .ret::k0) a w :=
 ⟨hd,fun b cs hbf hbk τ d hh=>Vo hbf hbk hd hf hh (hr _) (hR τ d) hins⟩
end Go.Proofs.YtjjmefieegcddaaDoor
namespace Go.Proofs.YtjjmefieegcddaaDoor
open Go.RowKit Go.Wg Go.Mm Go.Wk
open Go Go.Sr Go.Ph Go.Tm Go.Conc
variable {w:World} {V:View} {w0:World} {L:List dF} {X:List Nat} {f0:FuncId} {R:Ending->World->Prop} {k0:List Item} {a:Act}
theorem ac3 {N:FuncId} {fn:Func} {y:Array Operand} {ats:Array TypeId} {args:Array Value} {v:Value} {ops:Array Oper} {l:List Nat} {i:Nat} {o:Oper} (d:Nat) (hS:St w0 X V L w) (hf:Tryd.prog.funcs[N]? = some fn) (hb:(fn.name == "runtime.NumGoroutine")=false) (hb2:fn.body.isNone=false) (hc:∀ τ d,ay OC (w.re τ d)->kL Tryd.prog N args (w.re τ d) fun e w'=>e=.returned v/\Kp (w.re τ d) w')
  (hd:a.defers=[]) (ho:ops[i]? = some o) (hdst:o.dst=some d) (hw:Region.wanted o (yielded ops a.tmps)=true) (hop:o.op=.call {callee:=.value (.func N),args:=y,argTypes:=ats}) (hy:y.toList.map a.eval=args.toList)
  (h:∀ w' a',St w0 X V L w'->a.put (some d) v=a'->RB f0 R (.inRegion ops l::k0) a' w'):RB f0 R (.inRegion ops (i::l)::k0) a w:=by
 refine ac7 (N:=N) (args:=args) (R':=fun e w'=>e=.returned v/\Kp w w') hd ho hw (by rw[hop];rfl) (fun w1=>?_) (fun ch w1 h=>nomatch h.1) (fun τ d hh=>(hc τ d hh).mono fun e w1 h=>⟨h.1,uq h.2⟩) ?_
 ·rw[run_call_body hop hf hb hb2,show y.map a.eval=args from Array.ext' (by rw[Array.toList_map,hy])]
 rintro v' w1 ⟨hv,hk⟩
 cases hv
 rw[hdst]
 exact h _ _ (hS.kp hk) rfl
theorem acy {y:Array Operand} {ats:Array TypeId} {ops:Array Oper} {l:List Nat} {i:Nat} {o:Oper} (d:Nat) (hS:St w0 X V L w) (hB:Bs V)
  (hd:a.defers=[]) (ho:ops[i]? = some o) (hdst:o.dst=some d) (hw:Region.wanted o (yielded ops a.tmps)=true) (hop:o.op=.call {callee:=.value (.func 21),args:=y,argTypes:=ats}) (hy:y.toList.map a.eval=[])
  (h:∀ w' a',St w0 X V L w'->a.put (some d) (.bool true)=a'->RB f0 R (.inRegion ops l::k0) a' w'):RB f0 R (.inRegion ops (i::l)::k0) a w :=
 ac3 d hS Tryd.func21 (by kernel_rfl) (by kernel_rfl) (fun τ d hh=>TB hB (hS.re1 τ d).view hh) hd ho hdst hw hop hy h
theorem ac2 {fn:Func} (hf:Tryd.prog.funcs[f0]? = some fn) (hS:St w0 [] V L w) (hd:a.defers=[]) (hr:∀ w,(results fn a.tmps).run Tryd.prog w=.ok (.bool true) w):RB f0 (fun r w'=>r=.returned (.bool true)/\Kp w0 w') (.code .ret::k0) a w :=
 adh hf hd hr (fun τ d=>⟨rfl,adC hS.bM τ d⟩) xM
theorem abr {tgt todo:List Item} (hit:todo.all qy=true) (hd:a.defers=[]) (hS:St w0 X V L w) (h:∀ w',St w0 X V L w'->fA Tryd.prog tgt (RB f0 R tgt) todo a w'):RB f0 R todo a w :=
 ado tgt hit hd fun τ d=>h _ (hS.re1 τ d)
theorem abP {tgt k:List Item} {S:Act->World->Prop} (n:Nat) {l:List Oper} (hn:n<=l.length) (hw:wpList Tryd.prog l.toArray (fun e a' w'=>e=.normal/\fA Tryd.prog tgt S (.inRegion l.toArray (List.range' n (l.length-n))::k) a' w') (l.take n) a w) :
  fA Tryd.prog tgt S (.inRegion l.toArray (List.range l.toArray.size)::k) a w:=by
 have e:List.range l.toArray.size=List.range' 0 (l.take n).length ++ List.range' n (l.length-n):=by
  rw[List.range_eq_range',List.length_take,Nat.min_eq_left hn]
  have:=List.range'_append (s:=0) (m:=n) (n:=l.length-n) (step:=1)
  rw[Nat.zero_add,Nat.one_mul]at this
  rw[this]
  congr 1
  show l.length=_
  omega
 rw[e]
 refine abT _ a w ?_
 rw[abE (l.take n) 0 fun j hj=>?_]
 ·exact hw
 ·rw [List.length_take] at hj
  rw[Nat.zero_add,List.getElem?_take,if_pos (by omega)]
  simp
theorem abe {tgt k:List Item} {S:Act->World->Prop} (n:Nat) {l:List Oper} {m:List Nat} (hm:m=List.range' n (l.length-n)) (hw:wpList Tryd.prog l.toArray (fun e a' w'=>e=.normal/\fA Tryd.prog tgt S (.inRegion l.toArray []::k) a' w') (l.drop n) a w):fA Tryd.prog tgt S (.inRegion l.toArray m::k) a w:=by
 subst hm
 have e:List.range' n (l.length-n)=List.range' n (l.drop n).length ++ []:=by rw[List.length_drop,List.append_nil]
 rw[e]
 refine abT _ a w ?_
 rw[abE (l.drop n) n fun j hj=>?_]
 ·exact hw
 ·rw [List.getElem?_drop]
  simp
end Go.Proofs.YtjjmefieegcddaaDoor
namespace Go.Wg
open Go Go.Mm Go.Proofs.YtjjmefieegcddaaDoor
end Go.Wg
