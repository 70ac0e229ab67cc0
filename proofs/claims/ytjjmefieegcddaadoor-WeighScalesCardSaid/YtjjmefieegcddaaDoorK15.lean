/- A part of the proof: W53, W54, W55, W67, W68, W69, W70, W82, W85, Q9, W107, W108, T29, S30, S31, W89, S29, W109, S32, W90, W110, W111. -/
import Derived.Test.YtjjmefieegcddaaDoorK14
import Derived.Test.YtjjmefieegcddaaDoorK11
import Derived.BigGuard
set_option linter.unusedVariables false
set_option linter.unusedSimpArgs false
set_option maxHeartbeats 8000000
set_option maxRecDepth 20000
namespace Go.Proofs.YtjjmefieegcddaaDoor
open Go.RowKit Go.Wg Go.Mm Go.Wk
open Go Go.Sr Go.Ph Go.Tm Go.Conc
section
variable {V:View} {w0 w:World} {p:Nat} {k:Wk} {D:List Nat} {b6 b8:Nat} {s:SS} {b:Frame} {cs:List Frame} {Q:Goroutine→World→Prop}
theorem outer (hX:NX V p k D b8 s) (hok:k.Ok) (hs:s.WF) (hlo:∀ i,0≤(s.aP i).1) (hhi:∀ i,(s.aP i).2≤1000) (err:Int) (he0:0≤err) (he9:err≤9) (hbf:b.fn=43) (hbk:b.kind=.normal)
  (hend:∀ w f v11 v12 v13 v14 v15,N1 w0 V b6 w→ay OC w→kU Tryd.prog (G (b.at ⟨kH (.int .i64 err) (ptr b6) (ptr p) (ptr b8) (.int .i64 (fM k s err k.n).1) (.int .i64 (fM k s err k.n).2) v11 v12 v13 v14 v15 (.int .i64 k.n) (.int .i64 k.n) f,[dC b6]⟩ jO) cs) w Q) :
  ∀ (m i:Nat),i+m=k.n→∀ w f v11 v12 v13 v14 v15,N1 w0 V b6 w→ay OC w →
   kU Tryd.prog (G (b.at ⟨kH (.int .i64 err) (ptr b6) (ptr p) (ptr b8) (.int .i64 (fM k s err i).1) (.int .i64 (fM k s err i).2) v11 v12 v13 v14 v15 (.int .i64 k.n) (.int .i64 i) f,[dC b6]⟩ jO) cs) w Q:=by
 have hn6:k.n≤6:=hok.le
 intro m
 induction m with
 | zero =>
  intro i hi w f v11 v12 v13 v14 v15 hN hh
  obtain rfl:i=k.n:=by omega
  exact hend w f v11 v12 v13 v14 v15 hN hh
 | succ m ih =>
  intro i hi w f v11 v12 v13 v14 v15 hN hh
  have hlt:i < k.n:=by omega
  have hwb:=qE k s i 41 (Nat.le_refl _)
  rw [show bZ k s i 41=aO k s i from rfl] at hwb
  have ihc:=ih (i+1) (by omega)
  have hB:fM k s err (i+1)=if qK k s i err < (fM k s err i).2 then ((i:Int),qK k s i err) else fM k s err i:=rfl
  refine vI (tgt:=iH) hbf hbk Ah (CB b6 rfl) hh (S:=fun a w'=>∃ mb b14,(∃ f,a=⟨kH (.int .i64 err) (ptr b6) (ptr p) (ptr b8) (.int .i64 (fM k s err i).1) (.int .i64 (fM k s err i).2) (.int .i64 i) (.int .i64 0) (.map (some mb)) (ptr b14) (.int .i64 ((aO k s i).1 - err)) (.int .i64 k.n) (.int .i64 i) f,[dC b6]⟩) ∧
    Kp w w'∧jk w' mb 0 []∧w.heap.size≤mb∧w.heap.size≤b14∧w'.heap[b14]? = some (.cells #[.int .i64 (aO k s i).1,.int .i64 (aO k s i).2] 27 (0,0)))
   (fun a w' τ d ⟨mb,b14,h1,h2,h3,h4⟩=>⟨mb,b14,h1,adC h2 τ d,yJ h3 τ d,h4⟩) (fun τ d=>?_) ?_
  ·refine (GK (w:=w.re τ d) hX hs err he0 he9 i hlt (ptr b6) _ _ v11 v12 v13 v14 v15 f hN.vin).mono ?_
   rintro a w' ⟨mb,b14,h1,h2,h3,h4⟩
   exact ⟨mb,b14,h1,uq h2,h3,h4⟩
  ·rintro a w1 ⟨mb,b14,⟨f1,rfl⟩,hk1,hm1,lm,l14,h14⟩ hh1
   have hN1:=hN.step hk1
   have h6lt:=lt_of_heap hN.e6
   have hVn:∀ {j:Nat},w.heap.size≤j→V j=none:=fun {j} hj=>by
    cases hv:V j with
    | none=>rfl
    | some o =>
     have:=lt_of_heap (hN.vin j o hv)
     omega
   have hne:mb≠b14:=by
    rintro rfl
    obtain ⟨es,cl,ho⟩:=hm1.obj
    rw [h14] at ho
    cases ho
   obtain ⟨V2,hVV,hV14,hVo,hN2⟩:=hN1.more h14 (by omega) (hVn l14)
   have hr14:V2.Range b14 0 [.int .i64 (aO k s i).1,.int .i64 (aO k s i).2]:=fun j v hj=>⟨_,_,_,hV14,by rw [Nat.zero_add];simpa using hj⟩
   have hin:=inner (b:=b) (cs:=cs) (Q:=Q) (w0:=w0) (b6:=b6) (hX.mono hVV) hok hs hlo hhi err he0 he9 i hlt b14 mb hbf hbk (.int .i64 (fM k s err i).1) (.int .i64 (fM k s err i).2) (fun w2 f2 sh hN3 hr3 hsh hh2=>?_) (Ia (aO k s i) err) 0 (by omega) w1 f1
    ⟨hN2,hr14,⟨0,Nat.le_refl _,hm1⟩,Nat.le_trans hN.kp.size lm,(hVo mb hne).trans (hVn lm),by omega⟩ hh1
   ·have e0:(aO k s i).1 - err+((0:Nat):Int)=(aO k s i).1 - err:=by omega
    rw [e0] at hin
    exact hin
   ·have hback:N1 w0 V b6 w2→N1 w0 V b6 w2:=id
    have hN4:N1 w0 V b6 w2:=⟨hN3.kp,fun j u hj=>hN3.vin j u (hVV j u hj),hN3.e6,hN3.n6,hN.off⟩
    by_cases hlt':qK k s i err < (fM k s err i).2
    ·rw [if_pos hlt'] at hB
     rw [hB] at ihc
     refine vI (tgt:=jO) hbf hbk Az (CB b6 rfl) hh2 (S:=fun a w'=>(∃ f,a=⟨kH (.int .i64 err) (ptr b6) (ptr p) (ptr b8) (.int .i64 i) (.int .i64 (qK k s i err)) (.int .i64 i) (.int .i64 (qK k s i err)) (.map (some mb)) (ptr b14) (.int .i64 sh) (.int .i64 k.n) (.int .i64 ((i:Int)+1)) f,[dC b6]⟩)∧Kp w2 w')
      (fun a w' τ d h=>⟨h.1,adC h.2 τ d⟩) (fun τ d=>?_) ?_
     ·refine (YP (w:=w2.re τ d) err _ _ _ sh i k.n b14 _ hr3 hwb.2.2.1 hwb.2.2.2 he0 he9 hsh hlt hn6 hlt' _ _ _ _ f2 hN3.vin).mono ?_
      rintro a w' ⟨h1,h2⟩
      exact ⟨h1,uq h2⟩
     ·rintro a w3 ⟨⟨f3,rfl⟩,hk3⟩ hh3
      exact ihc w3 f3 _ _ _ _ _ (hN4.step hk3) hh3
    ·rw [if_neg hlt'] at hB
     rw [hB] at ihc
     refine vI (tgt:=jO) hbf hbk Az (CB b6 rfl) hh2 (S:=fun a w'=>(∃ f,a=⟨kH (.int .i64 err) (ptr b6) (ptr p) (ptr b8) (.int .i64 (fM k s err i).1) (.int .i64 (fM k s err i).2) (.int .i64 i) (.int .i64 (qK k s i err)) (.map (some mb)) (ptr b14) (.int .i64 sh) (.int .i64 k.n) (.int .i64 ((i:Int)+1)) f,[dC b6]⟩)∧Kp w2 w')
      (fun a w' τ d h=>⟨h.1,adC h.2 τ d⟩) (fun τ d=>?_) ?_
     ·refine (ZK (w:=w2.re τ d) err _ _ _ sh i k.n b14 _ hr3 hwb.2.2.1 hwb.2.2.2 he0 he9 hsh hlt hn6 hlt' _ _ _ _ f2 hN3.vin).mono ?_
      rintro a w' ⟨h1,h2⟩
      exact ⟨h1,uq h2⟩
     ·rintro a w3 ⟨⟨f3,rfl⟩,hk3⟩ hh3
      exact ihc w3 f3 _ _ _ _ _ (hN4.step hk3) hh3
theorem KU {a:Act} {x y e:Int} {k0:List Item} (hk0:k0.all qy=true) (hbf:b.fn=43) (hbk:b.kind=.normal) (hh:ay OC w) (h4:a.tmps[4]? = some (.int .i64 x)) (h5:a.tmps[5]? = some (.int .i64 y)) (h6:a.tmps[6]? = some (ptr b6)) (hd:a.defers=[dC b6])
  (hS:St w0 [] V [.blk b6 38 [.int .i64 e]] w) :
  kU Tryd.prog (G (b.at a (.code .ret :: k0)) cs) w (fun a' w'=>∃ e' fr,a'=G fr cs∧(e'=.returned (.tuple #[.int .i64 x,.int .i64 y,.int .i64 e])∧Kp w0 w')∧fr.fn=43∧fr.leaving Tryd.prog w' e'∧e'≠.outgrown∧ay OC w'):=by
 obtain ⟨tm,df⟩:=a
 simp only at h4 h5 h6 hd
 subst hd
 refine CV ?_
 refine Bq (fr:={ b.at ⟨tm,[dC b6]⟩ (.code .ret :: k0) with mode:=.returning }) (R:=fun e' w'=>e'=.returned (.tuple #[.int .i64 x,.int .i64 y,.int .i64 e])∧Kp w0 w') lT xM (fun w h=>nomatch h.1) (fn:=Tryd.f43) ⟨⟨fun z hz=>?_,CB b6 (a:=⟨tm,[dC b6]⟩) rfl,.inl hbk⟩,rfl,hbk,hbf⟩ Tryd.func43 hh rfl (fun τ d=>?_) cs
 ·rcases List.mem_cons.1 (show z∈Item.code .ret :: k0 from hz) with rfl | hz
  ·exact (show bY true .ret=true from rfl)
  ·exact Gz hk0 z hz
 ·have g:∀ {j:Nat} {v:Value},tm[j]? = some v→tm.getD j undef=v:=fun h=>by
   rw [Array.getD_eq_getD_getElem?,h]
   rfl
  exact iF (R:=fun e' w'=>e'=.returned (.tuple #[.int .i64 x,.int .i64 y,.int .i64 e])∧Kp w0 w') (hS.re1 τ d) fun w3 hS3=>⟨_,results3 (r1:=.tmp 4) (r2:=.tmp 5) (r3:=.cell 6 38) (by kernel_rfl) (yS (g h4)) (yS (g h5)) (AO hS3 0 (g h6) rfl (by kernel_rfl) rfl),rfl,hS3.bM⟩
end
variable {w:World} {V:View}
theorem Vu (vv rv:Value) (k:Wk) (hk:iJ V vv rv k) (hG:GV V) (hV:V.In w) (err:Int) (hbs:¬ (aS k []=0∧fQ err 0 9=false∧Go.Wg.settle k (aN k aC)=none)) :
  Calls Tryd.prog 43 #[.agg #[vv,rv],.int .i64 err] w fun r w'=>r=.returned (.tuple #[.int .i64 (oW k err).1.1,.int .i64 (oW k err).1.2,.int .i64 (oW k err).2])∧Kp w w':=by
 have hk0:=hk
 obtain ⟨va,vcap,rfl,hvc,hvm,hve⟩:=hk0.ves.is
 obtain ⟨ra,rcap,rfl,hrc,hrm,hre⟩:=hk0.rdg.is
 have hS:=St.start w V hV
 clear hk0 hve hre
 by_cases hb:aS k []=0
 ·have hok:=dP hb
  cases ho:fQ err 0 9 with
  | true =>
   have hC:oW k err=((0,0),1):=by
    unfold oW
    rw [if_neg (by simp [hb]),ho]
    rfl
   rw [hC]
   simp only
   replace hC:=aj hC;replace hb:=aj hb
   clear hbs
   go_enter_defers Tryd.func43,Tryd.ntmps43
   go_wp2_with (first | (first | ((first | ((with_reducible refine gL ?_);first | refine gY hS rfl rfl rfl ?_ | refine lW hS rfl rfl rfl ?_) | ((with_reducible refine gS ?_);refine pX hS rfl rfl rfl ?_));refine ⟨_,zd,?_⟩;clear hS;(try clear w');refine zF ?_;intro w' hS;(try simp only [sE] at hS)) | ((with_reducible refine gA ?_);refine aT 6 rfl hS rfl rfl ?_;clear hS;(try clear w');intro b6;refine zF ?_;intro w' hS) | (((with_reducible refine gB ?_);refine jQ hS rfl rfl rfl ?_;refine ⟨_,za,?_⟩);clear hS;(try clear w');intro _;refine zF ?_;intro w' hS)) |
    (go_at_call 77;refine eG hS hk pG (by simp) hb.out ?_;clear hS;(try clear w');intro p V' w' hVV hcel hS;have hG':GV V':=hG.mono hVV) |
    (go_at_call 88;refine aH hS ⟨_,fB _ _ _ _,?_⟩;rw [ho];clear hS;(try clear w');intro w' hS))
   (refine iF hS ?_;clear hS;(try clear w');intro w' hS;(try simp only [sE] at hS);refine ⟨_,by exact results3 (r1:=.tmp 4) (r2:=.tmp 5) (r3:=.cell 6 38) (by kernel_rfl) (by exact bD rfl) (by exact bD rfl) (by exact zA hS rfl zd),?_⟩)
   exact ⟨rfl,hS.bM⟩
  | false =>
   cases hst:Go.Wg.settle k (aN k aC) with
   | none=>exact (hbs ⟨hb,ho,hst⟩).elim
   | some i =>
    have hC:oW k err=((0,0),9):=by
     unfold oW
     rw [if_neg (by simp [hb]),ho,hst]
     rfl
    rw [hC]
    simp only
    replace hC:=aj hC;replace hst:=aj hst;replace hb:=aj hb
    clear hbs
    go_enter_defers Tryd.func43,Tryd.ntmps43
    go_wp2_with (first | (first | ((first | ((with_reducible refine gL ?_);first | refine gY hS rfl rfl rfl ?_ | refine lW hS rfl rfl rfl ?_) | ((with_reducible refine gS ?_);refine pX hS rfl rfl rfl ?_));refine ⟨_,zd,?_⟩;clear hS;(try clear w');refine zF ?_;intro w' hS;(try simp only [sE] at hS)) | ((with_reducible refine gA ?_);refine aT 6 rfl hS rfl rfl ?_;clear hS;(try clear w');intro b6;refine zF ?_;intro w' hS) | (((with_reducible refine gB ?_);refine jQ hS rfl rfl rfl ?_;refine ⟨_,za,?_⟩);clear hS;(try clear w');intro _;refine zF ?_;intro w' hS)) |
     (go_at_call 77;refine eG hS hk pG (by simp) hb.out ?_;clear hS;(try clear w');intro p V' w' hVV hcel hS;have hG':GV V':=hG.mono hVV) |
     (go_at_call 88;refine aH hS ⟨_,fB _ _ _ _,?_⟩;rw [ho];clear hS;(try clear w');intro w' hS) |
     (go_at_call 83;refine nH hS (zN V' p k hcel hok i hst.out _ (St.view hS)) ?_;clear hS;(try clear w');intro w' hS))
    (refine vJ hS ?_;clear hS;(try clear w');intro w' hS;(try simp only [sE] at hS);refine ⟨_,by exact results3 (r1:=.tmp 4) (r2:=.tmp 5) (r3:=.cell 6 38) (by kernel_rfl) (by exact bD rfl) (by exact bD rfl) (by exact zA hS rfl zd),?_⟩)
    exact ⟨rfl,hS.bM⟩
 ·clear hbs
  have hC:oW k err=((0,0),aS k []):=by unfold oW;rw [if_pos hb]
  rw [hC]
  simp only
  have hb':(aS k [] == 0)=false:=by rw [beq_eq_false_iff_ne];exact hb
  have hE:Go.RowKit.Hid (∃ e,aS k []=e):=aj ⟨_,rfl⟩
  obtain ⟨e,he⟩:=hE.out
  rw [he] at hb' ⊢
  replace hC:=aj hC;replace he:=aj he
  go_enter_defers Tryd.func43,Tryd.ntmps43
  go_wp2_with (first | (first | ((first | ((with_reducible refine gL ?_);first | refine gY hS rfl rfl rfl ?_ | refine lW hS rfl rfl rfl ?_) | ((with_reducible refine gS ?_);refine pX hS rfl rfl rfl ?_));refine ⟨_,zd,?_⟩;clear hS;(try clear w');refine zF ?_;intro w' hS;(try simp only [sE] at hS)) | ((with_reducible refine gA ?_);refine aT 6 rfl hS rfl rfl ?_;clear hS;(try clear w');intro b6;refine zF ?_;intro w' hS) | (((with_reducible refine gB ?_);refine jQ hS rfl rfl rfl ?_;refine ⟨_,za,?_⟩);clear hS;(try clear w');intro _;refine zF ?_;intro w' hS)) |
   (go_at_call 77;refine fF hS hk pG (by simp) hb ?_;rw [he.out];clear hS;(try clear w');intro w' hS))
  (refine bF (S:=(St w [] V [.blk b6 38 [.int .i64 e]])) [false,false,false,false] rfl (by kernel_rfl) ?_;replace hS:=St.eY hS;(refine hxa 0 rfl ?_;refine zH ?_);(refine C9 1 (by kernel_rfl) rfl rfl (St.aG hS) ?_;refine ⟨_,zp,?_⟩;refine zH ?_);(refine C9 2 (by kernel_rfl) rfl rfl (St.aG hS) ?_;refine ⟨_,zp,?_⟩;refine zH ?_);((refine jl 3 (by kernel_rfl) rfl hS rfl  rfl rfl ?_;refine ⟨_,zd,?_⟩);clear hS;(try clear w');refine zH ?_;intro w' hS;(try simp only [sE] at hS);refine ⟨(St.aG hS),?_⟩);refine wpAnyH_done (by kernel_rfl) ?_ _)
  go_wp2_with (fail)
  (refine iF hS ?_;clear hS;(try clear w');intro w' hS;(try simp only [sE] at hS);refine ⟨_,by exact results3 (r1:=.tmp 4) (r2:=.tmp 5) (r3:=.cell 6 38) (by kernel_rfl) (by exact bD rfl) (by exact bD rfl) (by exact zA hS rfl zd),?_⟩)
  exact ⟨by rfl,(hS.bM)⟩
theorem Zn (vv rv:Value) (k:Wk) (hk:iJ V vv rv k) (hG:GV V) (hV:V.In w) (hh:ay OC w) (err:Int) :
  kL Tryd.prog 43 #[.agg #[vv,rv],.int .i64 err] w fun r w'=>r=.returned (.tuple #[.int .i64 (oW k err).1.1,.int .i64 (oW k err).1.2,.int .i64 (oW k err).2])∧Kp w w':=by
 by_cases hbs:aS k []=0∧fQ err 0 9=false∧Go.Wg.settle k (aN k aC)=none
 ·obtain ⟨hb,ho,hst⟩:=hbs
  have hC:oW k err=if (fM k (aN k aC) err k.n).1 < 0 then ((0,0),11) else (fM k (aN k aC) err k.n,0):=by
   unfold oW
   rw [if_neg (by simp [hb]),ho,hst]
   rfl
  have hok:=dP hb
  have he:0≤err∧err≤9:=by
   unfold fQ at ho
   simp only [Bool.or_eq_false_iff,decide_eq_false_iff_not] at ho
   omega
  have hs:=gG k aC
  have hlo:=QU k hok aC
  have hhi:∀ i,((aN k aC).aP i).2≤1000:=fun i=>Int.le_trans (Jy k hok aC i) (by decide)
  refine jD Tryd.func43 (show Tryd.f43.body=some B43 from rfl) fun cs b hbf hbk hbr=>?_
  have e104:Tryd.f43.ntmps - (#[.agg #[vv,rv],.int .i64 err]:Array Value).size=104:=by kernel_rfl
  rw [e104]
  obtain ⟨tm0,htm⟩:∃ tm0,#[Value.agg #[vv,rv],.int .i64 err] ++ Array.replicate 104 undef=tm0:=⟨_,rfl⟩
  rw [htm]
  refine vI (tgt:=TT [2,3,4,5]) hbf hbk (show [Item.code B43].all qy=true by kernel_rfl) (fun d hd=>nomatch hd) hh
   (S:=fun a w'=>∃ p V' D b6 b8,((∃ f,a=⟨kH (.int .i64 err) (ptr b6) (ptr p) (ptr b8) undef undef undef undef undef undef undef undef undef f,[dC b6]⟩)∧a.tmps[29]? = some (ptr p)∧a.tmps[30]? = some (.agg (dJ (aN k aC)).toArray)) ∧
    NX V' p k D b8 (aN k aC)∧St w [] V' [.blk b6 38 [.int .i64 0]] w')
   (fun a w' τ d ⟨p,V',D,b6,b8,h1,h2,h3⟩=>⟨p,V',D,b6,b8,h1,h2,h3.re1 τ d⟩) (fun τ d=>?_) ?_
  ·rw [← htm]
   refine (PX (w:=w.re τ d) vv rv k hk hG hV err hb ho hst).mono ?_
   rintro a w' ⟨p,V',D,b6,b8,h1,h2,h3⟩
   exact ⟨p,V',D,b6,b8,h1,h2,h3.re0⟩
  ·rintro a w1 ⟨p,V',D,b6,b8,⟨⟨f1,rfl⟩,h29,h30⟩,hX,hS1⟩ hh1
   have e29:f1 29=ptr p:=Option.some.inj h29
   have e30:f1 30=.agg (dJ (aN k aC)).toArray:=Option.some.inj h30
   refine Qn hX hok hs hlo hhi hS1.view hh1 hbk (o:=ops8[2]!) (y:=.tmp 29) (z:=.tmp 30) (d:=31) rfl rfl rfl rfl rfl e29 e30 fun w2 hk2 hh2=>?_
   have hN2:=(N1.aaO hS1).step hk2
   have hbd:=GH k hok.le (aN k aC) false hlo
   have hB0:fM k (aN k aC) err 0=(-1,oQ (dW k (aN k aC) false)):=rfl
   obtain ⟨tt,htt⟩:∃ tt,dW k (aN k aC) false=tt:=⟨_,rfl⟩
   rw [htt] at hbd hB0 ⊢
   have hout:=fun Q h=>outer (w0:=w) (b6:=b6) (b:=b) (cs:=cs) (Q:=Q) hX hok hs hlo hhi err he.1 he.2 hbf hbk h k.n 0 (Nat.zero_add _)
   rw [hB0] at hout
   have eA:(Act.put ⟨kH (.int .i64 err) (ptr b6) (ptr p) (ptr b8) undef undef undef undef undef undef undef undef undef f1,[dC b6]⟩ (some 31) (aJ tt)) =
     ⟨kH (.int .i64 err) (ptr b6) (ptr p) (ptr b8) undef undef undef undef undef undef undef undef undef (fun j=>if j=31 then aJ tt else f1 j),[dC b6]⟩:=rfl
   rw [eA]
   refine vI (tgt:=jO) hbf hbk (Yl [3,4,5]) (CB b6 rfl) hh2 (S:=fun a w'=>(∃ f,a=⟨kH (.int .i64 err) (ptr b6) (ptr p) (ptr b8) (.int .i64 (-1)) (.int .i64 (oQ tt)) undef undef undef undef undef (.int .i64 k.n) (.int .i64 0) f,[dC b6]⟩)∧Kp w2 w')
    (fun a w' τ d h=>⟨h.1,adC h.2 τ d⟩) (fun τ d=>?_) ?_
   ·refine (aas (w:=w2.re τ d) hX _ _ _ _ _ _ _ _ _ _ _ _ (fun j=>if j=31 then aJ tt else f1 j) tt (hbd.mono (by omega)) (by simp) hN2.vin).mono ?_
    rintro a w' ⟨h1,h2⟩
    exact ⟨h1,uq h2⟩
   ·rintro a w3 ⟨⟨f3,rfl⟩,hk3⟩ hh3
    refine hout _ (fun w f v11 v12 v13 v14 v15 hN hh=>?_) w3 f3 undef undef undef undef undef (hN2.step hk3) hh3
    by_cases hneg:(fM k (aN k aC) err k.n).1 < 0
    ·rw [if_pos hneg] at hC
     rw [hC]
     refine vI (tgt:=[.code .ret,.code N28]) hbf hbk Ah (CB b6 rfl) hh (S:=fun a w'=>(a.tmps[4]? = some (.int .i64 0)∧a.tmps[5]? = some (.int .i64 0)∧a.tmps[6]? = some (ptr b6)∧a.defers=[dC b6])∧St _ [] V' [.blk b6 38 [.int .i64 11]] w')
      (fun a w' τ d h=>⟨h.1,h.2.re1 τ d⟩) (fun τ d=>Zb _ _ k.n b6 hok.le hneg _ _ _ _ _ _ _ _ f (hN.st.re1 τ d)) ?_
     rintro a w4 ⟨⟨h4,h5,h6,hd⟩,hS4⟩ hh4
     exact KU (k0:=[.code N28]) (by kernel_rfl) hbf hbk hh4 h4 h5 h6 hd hS4
    ·rw [if_neg hneg] at hC
     rw [hC]
     refine vI (tgt:=[.code .ret]) hbf hbk Ah (CB b6 rfl) hh (S:=fun a w'=>(a.tmps[4]? = some (.int .i64 (fM k (aN k aC) err k.n).1)∧a.tmps[5]? = some (.int .i64 (fM k (aN k aC) err k.n).2)∧a.tmps[6]? = some (ptr b6)∧a.defers=[dC b6])∧St _ [] V' [.blk b6 38 [.int .i64 0]] w')
      (fun a w' τ d h=>⟨h.1,h.2.re1 τ d⟩) (fun τ d=>YQ _ _ k.n b6 hok.le hneg _ _ _ _ _ _ _ _ f (hN.st.re1 τ d)) ?_
     rintro a w4 ⟨⟨h4,h5,h6,hd⟩,hS4⟩ hh4
     exact KU (k0:=[]) rfl hbf hbk hh4 h4 h5 h6 hd hS4
 ·refine uF lT xM (fun w h=>nomatch h.1) hh fun τ d=>?_
  exact (Vu (w:=w.re τ d) vv rv k hk hG hV err hbs).mono fun e w' h=>⟨h.1,⟨h.2.os,h.2.output,h.2.size,h.2.old⟩⟩
end Go.Proofs.YtjjmefieegcddaaDoor
namespace Go.Proofs.YtjjmefieegcddaaDoor
open Go.RowKit Go.Wg Go.Mm
theorem SK:qN (nJ [])=([29,15,11,15],0):=by kernel_rfl
theorem JR:iw (nJ []) 1=((15,17),0):=by kernel_rfl
theorem Vg:vX (nJ [])=((1,5),0):=by kernel_rfl
theorem SE:qQ (nJ [⟨1,0,20,1⟩])=([1],0):=by kernel_rfl
theorem Xa:oW (nJ []) 0=((0,3),0):=by kernel_rfl
theorem NZ:qx (nJ [⟨1,0,20,1⟩]) 1=(2,0):=by kernel_rfl
open Go.Wk
open Go Go.Sr Go.Ph Go.Tm Go.Conc
variable {w:World} {V:View} {w0:World} {X:List Nat} {L:List dF}
theorem Bz {k:Wk} {args:Array Value} {R:Ending→World→Prop} (hS:St w0 X V L w) (hm:Calls Tryd.prog 75 args w (U5 V w k)) (h:∀ (V':View) (vv rv:Value) (w':World),(∀ j o,V j=some o→V' j=some o)→iJ V' vv rv k→St w0 X V' L w'→R (.returned (.agg #[vv,rv])) w'):Calls Tryd.prog 75 args w R:=by
 refine hm.mono ?_
 rintro e w' ⟨V',vv,rv,rfl,hk,hn,hin,hwk⟩
 exact h V' vv rv w' (fun j o hj=>by rw [hn j (lt_of_heap (hS.view j o hj))];exact hj) hwk (hS.call hk hin hn)
theorem tZ {R:Ending→World→Prop} (hS:St w0 X V L w) (hB:Bs V) (h:∀ (V':View) (vv rv:Value) (w':World),(∀ j o,V j=some o→V' j=some o)→iJ V' vv rv (nJ [])→St w0 X V' L w'→R (.returned (.agg #[vv,rv])) w'):Calls Tryd.prog 75 #[.slice none 0 0] w R:=Bz hS (UM hB hS.view) h
theorem Ba {R:Ending→World→Prop} (hS:St w0 X V L w) (hB:Bs V) {bm:Nat} {r:je} (hm:∀ i v,(fH [r])[i]? = some v→V.Cell bm i v) (h:∀ (V':View) (vv rv:Value) (w':World),(∀ j o,V j=some o→V' j=some o)→iJ V' vv rv (nJ [r])→St w0 X V' L w'→R (.returned (.agg #[vv,rv])) w') :
  Calls Tryd.prog 75 #[.slice (some ⟨bm,0,none⟩) 1 1] w R:=Bz hS (Va hB hS.view r fun j v hj=>by rw [Nat.zero_add];exact hm j v hj) h
theorem xZ {f:FuncId} {args:Array Value} {R:Ending→World→Prop} {u:Value} {l:List Int} (hS:St w0 X V L w) (hc:Calls Tryd.prog f args w fun r w'=>∃ v,r=.returned (.tuple #[v,u])∧Kp w w'∧tY w w' v l)
  (h:∀ (V':View) (v:Value) (w':World),(∀ j o,V j=some o→V' j=some o)→VI V' v l→v.oneCell'=true→St w0 X V' L w'→R (.returned (.tuple #[v,u])) w'):Calls Tryd.prog f args w R:=by
 refine hc.mono ?_
 rintro e w' ⟨v,rfl,hk,ho⟩
 obtain ⟨V',h1,h2,h3⟩:=Um hS hk ho
 refine h V' v w' h1 h3 ?_ h2
 obtain ⟨a,cap,rfl,_⟩:=h3.is
 rfl
theorem Ls {vv rv:Value} {k:Wk} {R:Ending→World→Prop} {l:List Int} {e:Int} (hS:St w0 X V L w) (hB:Bs V) (hk:iJ V vv rv k) (hv:qN k=(l,e))
  (h:∀ (V':View) (v:Value) (w':World),(∀ j o,V j=some o→V' j=some o)→VI V' v l→v.oneCell'=true→St w0 X V' L w'→R (.returned (.tuple #[v,.int .i64 e])) w'):Calls Tryd.prog 27 #[.agg #[vv,rv]] w R:=by
 have hc:=Vh vv rv k hk hB.gv hS.view
 rw [hv] at hc
 exact xZ hS hc h
theorem MV {vv rv:Value} {k:Wk} {R:Ending→World→Prop} {l:List Int} {e:Int} (hS:St w0 X V L w) (hB:Bs V) (hk:iJ V vv rv k) (hv:qQ k=(l,e))
  (h:∀ (V':View) (v:Value) (w':World),(∀ j o,V j=some o→V' j=some o)→VI V' v l→v.oneCell'=true→St w0 X V' L w'→R (.returned (.tuple #[v,.int .i64 e])) w'):Calls Tryd.prog 34 #[.agg #[vv,rv]] w R:=by
 have hc:=VK vv rv k hk hB.gv hS.view
 rw [hv] at hc
 exact xZ hS hc h
theorem oq {vv rv:Value} {k:Wk} {R:Ending→World→Prop} {v a b e:Int} (hS:St w0 X V L w) (hB:Bs V) (hk:iJ V vv rv k) (hv:iw k v=((a,b),e))
  (h:∀ w',St w0 X V L w'→R (.returned (.tuple #[.agg #[.int .i64 a,.int .i64 b],.int .i64 e])) w'):Calls Tryd.prog 54 #[.agg #[vv,rv],.int .i64 v] w R:=by
 have hc:=RY vv rv k hk hB.gv hS.view v
 rw [hv] at hc
 exact aH hS ⟨_,hc,h⟩
theorem JC {vv rv:Value} {k:Wk} {R:Ending→World→Prop} {v a e:Int} (hS:St w0 X V L w) (hB:Bs V) (hk:iJ V vv rv k) (hv:qx k v=(a,e))
  (h:∀ w',St w0 X V L w'→R (.returned (.tuple #[.int .i64 a,.int .i64 e])) w'):Calls Tryd.prog 51 #[.agg #[vv,rv],.int .i64 v] w R:=by
 have hc:=RS vv rv k hk hB.gv hS.view v
 rw [hv] at hc
 exact aH hS ⟨_,hc,h⟩
theorem zu {l1 l2:List Int} {a b:Value} {R:Ending→World→Prop} (hS:St w0 X V L w) (h1:VI V a l1) (h2:VI V b l2) (n1:l1.length≤100) (n2:l2.length≤100) (he:l1=l2) (h:∀ w',St w0 X V L w'→R (.returned (.bool true)) w'):Calls Tryd.prog 31 #[a,b] w R:=by
 have hc:=SI l1 l2 a b h1 h2 n1 n2 hS.view
 rw [decide_eq_true he] at hc
 exact aH hS ⟨_,hc,h⟩
theorem YD {V:View} {b:Nat} {l:List Int} (hl:l.length≤100) (h:∀ i x,(aV l)[i]? = some x→V.Cell b i x):VI V (.slice (some ⟨b,0,none⟩) l.length l.length) l:=by
 refine ⟨⟨some ⟨b,0,none⟩,l.length,rfl,Nat.le_refl _,by unfold maxLen;omega,fun _=>⟨b,0,rfl,fun i hi j x hj=>?_⟩⟩⟩
 cases j with
 | succ j=>simp at hj
 | zero =>
  simp at hj
  subst hj
  have:=h i (.int .i64 (l.getD i 0)) (by simp [aV,List.getD_eq_getElem?_getD,List.getElem?_eq_getElem hi])
  simpa using this
noncomputable def B21:Code:=match Tryd.f21.body with | some c=>c | none=>.skip
noncomputable def Yz:Code:=match B21 with | .seq _ (.seq _ (.seq _ (.seq _ r)))=>r | _=>.skip
noncomputable def Zq:Code:=match Yz with | .seq _ (.seq _ r)=>r | _=>.skip
noncomputable def Gv:Array Oper:=match B21 with | .seq _ (.seq _ (.seq _ (.seq (.region _ o _) _)))=>o | _=>#[]
noncomputable def qm:Array Oper:=match Yz with | .seq _ (.seq (.region _ o _) _)=>o | _=>#[]
def Wd1 (w:World) (V:View) (a:Act) (w':World):Prop :=
 ∃ (V':View) (vv rv v1:Value) (b3:Nat),(∃ f:Nat→Value,a=⟨#[.bool false,v1,.int .i64 0,.pointer (some ⟨b3,0,none⟩),.int .i64 0,f 5,f 6,f 7,f 8,f 9,f 10,f 11,f 12,f 13,f 14,f 15,f 16,f 17,f 18,f 19,f 20,f 21,f 22,f 23,f 24,.agg #[vv,rv],f 26,f 27,f 28,f 29,f 30,f 31,f 32,f 33,f 34,f 35,f 36,f 37,f 38,f 39,f 40,f 41,f 42,f 43,f 44,f 45,f 46,f 47,f 48,f 49,f 50,f 51,f 52,f 53,f 54,f 55,f 56,f 57,f 58,f 59,f 60,f 61,f 62,f 63,f 64,f 65,f 66,f 67,f 68,f 69,f 70,f 71,f 72,f 73,f 74,f 75,f 76,f 77,f 78,f 79,f 80,f 81,f 82,f 83,f 84,f 85,f 86,f 87,f 88,f 89,f 90,f 91,f 92,f 93,f 94,f 95,f 96,f 97,f 98,f 99,f 100,f 101,f 102],[]⟩)∧(∀ j o,V j=some o→V' j=some o)∧iJ V' vv rv (nJ [])∧VI V' v1 [29,15,11,15]∧v1.oneCell'=true∧(∀ i v,[Value.int .i64 15,.int .i64 17][i]? = some v→V'.Cell b3 i v)∧St w [] V' [] w'
theorem U2 (hB:Bs V) (hV:V.In w):fA Tryd.prog [.inRegion Gv [1,2,3,4,5,6,7],.code Yz] (Wd1 w V) [.code B21] { tmps:=#[] ++ Array.replicate 103 undef,defers:=[] } w:=by
 have hS:=St.start w V hV
 simp only [Array.replicate_succ,Array.replicate_zero,List.push_toArray,List.append_toArray,List.nil_append,List.cons_append]
 refine au (aA ?_)
 go_wp2_with (fail)
 refine au (aA ?_)
 go_wp2_with (first | (go_at_call 75;refine tZ hS hB ?_;clear hS;(try clear w');intro V1 vv1 rv1 w' hV1 hk1 hS) | (go_at_call 27;refine Ls hS (hB.mono hV1) hk1 SK ?_;clear hS;(try clear w');intro V2 v1 w' hV2 hv1 hone hS))
 have hB2:Bs V2:=hB.mono fun j o h=>hV2 j o (hV1 j o h)
 refine au (aA ?_)
 go_wp2_with (first | (first | (((with_reducible refine gS ?_);refine bQ hS rfl rfl rfl ?_);refine ⟨_,zd,?_⟩;clear hS;(try clear w');refine zF ?_;intro w' hS;(try simp only [sE] at hS)) | ((with_reducible refine gA ?_);refine aT 3 rfl hS rfl rfl ?_;clear hS;(try clear w');intro b3;refine zF ?_;intro w' hS)) | (go_at_call 75;refine tZ hS hB2 ?_;clear hS;(try clear w');intro V3 vv3 rv3 w' hV3 hk3 hS) | (go_at_call 54;refine oq hS (hB2.mono hV3) hk3 JR ?_;clear hS;(try clear w');intro w' hS))
 obtain ⟨V4,hV4,hc4,hS4⟩:=pin hS
 clear hS
 have hS:=hS4
 clear hS4
 have hB4:Bs V4:=hB2.mono fun j o h=>hV4 j o (hV3 j o h)
 refine au (ig ?_)
 refine rZ (i:=0) rfl rfl (run_call_body rfl Tryd.func75 (by kernel_rfl) rfl) ?_
 simp only [List.map_toArray,List.map_cons,List.map_nil]
 show Calls Tryd.prog 75 #[.slice none 0 0] _ _
 refine tZ hS hB4 ?_
 clear hS
 intro V5 vv rv w' hV5 hk5 hS
 refine ⟨_,rfl,?_⟩
 have key:∀ a:Act,a=⟨#[.bool false,v1,.int .i64 0,.pointer (some ⟨b3,0,none⟩),.int .i64 0,a.tmps.getD 5 undef,a.tmps.getD 6 undef,a.tmps.getD 7 undef,a.tmps.getD 8 undef,a.tmps.getD 9 undef,a.tmps.getD 10 undef,a.tmps.getD 11 undef,a.tmps.getD 12 undef,a.tmps.getD 13 undef,a.tmps.getD 14 undef,a.tmps.getD 15 undef,a.tmps.getD 16 undef,a.tmps.getD 17 undef,a.tmps.getD 18 undef,a.tmps.getD 19 undef,a.tmps.getD 20 undef,a.tmps.getD 21 undef,a.tmps.getD 22 undef,a.tmps.getD 23 undef,a.tmps.getD 24 undef,.agg #[vv,rv],a.tmps.getD 26 undef,a.tmps.getD 27 undef,a.tmps.getD 28 undef,a.tmps.getD 29 undef,a.tmps.getD 30 undef,a.tmps.getD 31 undef,a.tmps.getD 32 undef,a.tmps.getD 33 undef,a.tmps.getD 34 undef,a.tmps.getD 35 undef,a.tmps.getD 36 undef,a.tmps.getD 37 undef,a.tmps.getD 38 undef,a.tmps.getD 39 undef,a.tmps.getD 40 undef,a.tmps.getD 41 undef,a.tmps.getD 42 undef,a.tmps.getD 43 undef,a.tmps.getD 44 undef,a.tmps.getD 45 undef,a.tmps.getD 46 undef,a.tmps.getD 47 undef,a.tmps.getD 48 undef,a.tmps.getD 49 undef,a.tmps.getD 50 undef,a.tmps.getD 51 undef,a.tmps.getD 52 undef,a.tmps.getD 53 undef,a.tmps.getD 54 undef,a.tmps.getD 55 undef,a.tmps.getD 56 undef,a.tmps.getD 57 undef,a.tmps.getD 58 undef,a.tmps.getD 59 undef,a.tmps.getD 60 undef,a.tmps.getD 61 undef,a.tmps.getD 62 undef,a.tmps.getD 63 undef,a.tmps.getD 64 undef,a.tmps.getD 65 undef,a.tmps.getD 66 undef,a.tmps.getD 67 undef,a.tmps.getD 68 undef,a.tmps.getD 69 undef,a.tmps.getD 70 undef,a.tmps.getD 71 undef,a.tmps.getD 72 undef,a.tmps.getD 73 undef,a.tmps.getD 74 undef,a.tmps.getD 75 undef,a.tmps.getD 76 undef,a.tmps.getD 77 undef,a.tmps.getD 78 undef,a.tmps.getD 79 undef,a.tmps.getD 80 undef,a.tmps.getD 81 undef,a.tmps.getD 82 undef,a.tmps.getD 83 undef,a.tmps.getD 84 undef,a.tmps.getD 85 undef,a.tmps.getD 86 undef,a.tmps.getD 87 undef,a.tmps.getD 88 undef,a.tmps.getD 89 undef,a.tmps.getD 90 undef,a.tmps.getD 91 undef,a.tmps.getD 92 undef,a.tmps.getD 93 undef,a.tmps.getD 94 undef,a.tmps.getD 95 undef,a.tmps.getD 96 undef,a.tmps.getD 97 undef,a.tmps.getD 98 undef,a.tmps.getD 99 undef,a.tmps.getD 100 undef,a.tmps.getD 101 undef,a.tmps.getD 102 undef],[]⟩→Wd1 w V a w':=fun a ha =>
  ⟨V5,vv,rv,v1,b3,⟨fun j=>a.tmps.getD j undef,ha⟩,fun j o h=>hV5 j o (hV4 j o (hV3 j o (hV2 j o (hV1 j o h)))),hk5,pW.mono (pW.mono (pW.mono hv1 hV3) hV4) hV5,hone,fun i v h=>(hc4 i v h).mono hV5,hS⟩
 exact bG (tgt:=[.inRegion Gv [1,2,3,4,5,6,7],.code Yz]) (key _ rfl)
def Wd2 (w:World) (V:View) (v1:Value) (b3:Nat) (a:Act) (w':World):Prop :=
 ∃ (V':View) (vv rv v7:Value) (b5:Nat),(∃ f:Nat→Value,a=⟨#[.bool false,v1,.int .i64 0,.pointer (some ⟨b3,0,none⟩),.int .i64 0,.pointer (some ⟨b5,0,none⟩),.int .i64 0,v7,.int .i64 0,f 9,f 10,f 11,f 12,f 13,f 14,f 15,f 16,f 17,f 18,f 19,f 20,f 21,f 22,f 23,f 24,f 25,f 26,f 27,f 28,f 29,f 30,f 31,f 32,f 33,f 34,f 35,f 36,.agg #[vv,rv],f 38,f 39,f 40,f 41,f 42,f 43,f 44,f 45,f 46,f 47,f 48,f 49,f 50,f 51,f 52,f 53,f 54,f 55,f 56,f 57,f 58,f 59,f 60,f 61,f 62,f 63,f 64,f 65,f 66,f 67,f 68,f 69,f 70,f 71,f 72,f 73,f 74,f 75,f 76,f 77,f 78,f 79,f 80,f 81,f 82,f 83,f 84,f 85,f 86,f 87,f 88,f 89,f 90,f 91,f 92,f 93,f 94,f 95,f 96,f 97,f 98,f 99,f 100,f 101,f 102],[]⟩)∧(∀ j o,V j=some o→V' j=some o)∧iJ V' vv rv (nJ [])∧VI V' v7 [1]∧v7.oneCell'=true∧(∀ i v,[Value.int .i64 1,.int .i64 5][i]? = some v→V'.Cell b5 i v)∧St w [] V' [] w'
theorem Vp (hB:Bs V) (hV:V.In w) (v1:Value) (b3:Nat) (f:Nat→Value):fA Tryd.prog [.inRegion qm [1,2,3,4,5,6,7,8],.code Zq] (Wd2 w V v1 b3) [.inRegion Gv [2,3,4,5,6,7],.code Yz] ⟨#[.bool false,v1,.int .i64 0,.pointer (some ⟨b3,0,none⟩),.int .i64 0,f 5,f 6,f 7,f 8,f 9,f 10,f 11,f 12,f 13,f 14,f 15,f 16,f 17,f 18,f 19,f 20,f 21,f 22,f 23,f 24,f 25,.tuple #[.agg #[.int .i64 1,.int .i64 5],.int .i64 0],f 27,f 28,f 29,f 30,f 31,f 32,f 33,f 34,f 35,f 36,f 37,f 38,f 39,f 40,f 41,f 42,f 43,f 44,f 45,f 46,f 47,f 48,f 49,f 50,f 51,f 52,f 53,f 54,f 55,f 56,f 57,f 58,f 59,f 60,f 61,f 62,f 63,f 64,f 65,f 66,f 67,f 68,f 69,f 70,f 71,f 72,f 73,f 74,f 75,f 76,f 77,f 78,f 79,f 80,f 81,f 82,f 83,f 84,f 85,f 86,f 87,f 88,f 89,f 90,f 91,f 92,f 93,f 94,f 95,f 96,f 97,f 98,f 99,f 100,f 101,f 102],[]⟩ w:=by
 have hS:=St.start w V hV
 refine cO (i:=2) (v:=.tuple #[.agg #[.int .i64 1,.int .i64 5],.int .i64 0]) (w':=w) rfl rfl rfl ?_
 refine cO (i:=3) (v:=.agg #[.int .i64 1,.int .i64 5]) (w':=w) rfl rfl rfl ?_
 refine cO (i:=4) (v:=.int .i64 0) (w':=w) rfl rfl rfl ?_
 refine cO (i:=5) rfl rfl (Aq (P:=Tryd.prog) hS (cs:=[.int .i64 0,.int .i64 0]) rfl (by kernel_rfl) (by kernel_rfl)).1 ?_
 replace hS:=hS.alloc 27 [.int .i64 0,.int .i64 0]
 generalize w.alloc (.cells [Value.int .i64 0,.int .i64 0].toArray 27)=w1 at hS ⊢
 obtain ⟨b5,hb5⟩:∃ b5,w.heap.size=b5:=⟨_,rfl⟩
 rw [hb5] at hS ⊢
 refine xK hS (i:=6) (vs:=[.int .i64 1,.int .i64 5]) rfl rfl rfl (j:=0) (i':=0) (n:=2) rfl rfl rfl (by simp [Value.oneCell']) (by kernel_rfl) rfl (by simp) ?_
 clear hS
 intro w2 hS
 simp only [List.set_cons_zero,splice,List.take_zero,List.nil_append,List.length_cons,List.length_nil,Nat.zero_add,List.append_nil,List.drop_nil,Nat.reduceAdd,List.drop_succ_cons,List.drop_zero] at hS
 refine cO (i:=7) (v:=.int .i64 0) (w':=w2) rfl rfl rfl ?_
 refine dH ?_
 show fA Tryd.prog [.inRegion qm [1,2,3,4,5,6,7,8],.code Zq] (Wd2 w V v1 b3) [.code Yz] ⟨#[.bool false,v1,.int .i64 0,.pointer (some ⟨b3,0,none⟩),.int .i64 0,.pointer (some ⟨b5,0,none⟩),.int .i64 0,f 7,f 8,f 9,f 10,f 11,f 12,f 13,f 14,f 15,f 16,f 17,f 18,f 19,f 20,f 21,f 22,f 23,.tuple #[.agg #[.int .i64 1,.int .i64 5],.int .i64 0],f 25,.tuple #[.agg #[.int .i64 1,.int .i64 5],.int .i64 0],.agg #[.int .i64 1,.int .i64 5],.int .i64 0,f 29,f 30,f 31,f 32,f 33,f 34,f 35,f 36,f 37,f 38,f 39,f 40,f 41,f 42,f 43,f 44,f 45,f 46,f 47,f 48,f 49,f 50,f 51,f 52,f 53,f 54,f 55,f 56,f 57,f 58,f 59,f 60,f 61,f 62,f 63,f 64,f 65,f 66,f 67,f 68,f 69,f 70,f 71,f 72,f 73,f 74,f 75,f 76,f 77,f 78,f 79,f 80,f 81,f 82,f 83,f 84,f 85,f 86,f 87,f 88,f 89,f 90,f 91,f 92,f 93,f 94,f 95,f 96,f 97,f 98,f 99,f 100,f 101,f 102],[]⟩ w2
 obtain ⟨V1,hV1,hc1,hS1⟩:=pin hS
 clear hS
 have hS:=hS1
 clear hS1
 have hB1:=hB.mono hV1
 refine au (aA ?_)
 go_wp2_with (first | (fail) | (go_at_call 42;refine aH hS ⟨_,y9 _ _ _ _ _,?_⟩;clear hS;(try clear w');intro w' hS) |
  ((with_reducible refine uP ?_);refine zU hS rfl (oP (a:=⟨1,0,20,1⟩) rfl rfl) ?_;clear hS;(try clear w');intro bm a' hp;(try simp only [fr] at hp);subst hp;intro w' hS;obtain ⟨V2,hV2,hc2,hS2⟩:=pin hS;clear hS;have hS:=hS2;clear hS2) |
  (go_at_call 75;refine Ba hS (hB1.mono hV2) hc2 ?_;clear hS;(try clear w');intro V3 vv3 rv3 w' hV3 hk3 hS) |
  (go_at_call 34;refine MV hS ((hB1.mono hV2).mono hV3) hk3 SE ?_;clear hS;(try clear w');intro V4 v7 w' hV4 hv7 hone hS))
 have hB4:Bs V4:=((hB1.mono hV2).mono hV3).mono hV4
 refine au (ig ?_)
 refine rZ (i:=0) rfl rfl (run_call_body rfl Tryd.func75 (by kernel_rfl) rfl) ?_
 simp only [List.map_toArray,List.map_cons,List.map_nil]
 show Calls Tryd.prog 75 #[.slice none 0 0] _ _
 refine tZ hS hB4 ?_
 clear hS
 intro V5 vv rv w' hV5 hk5 hS
 refine ⟨_,rfl,?_⟩
 have key:∀ a:Act,a=⟨#[.bool false,v1,.int .i64 0,.pointer (some ⟨b3,0,none⟩),.int .i64 0,.pointer (some ⟨b5,0,none⟩),.int .i64 0,v7,.int .i64 0,a.tmps.getD 9 undef,a.tmps.getD 10 undef,a.tmps.getD 11 undef,a.tmps.getD 12 undef,a.tmps.getD 13 undef,a.tmps.getD 14 undef,a.tmps.getD 15 undef,a.tmps.getD 16 undef,a.tmps.getD 17 undef,a.tmps.getD 18 undef,a.tmps.getD 19 undef,a.tmps.getD 20 undef,a.tmps.getD 21 undef,a.tmps.getD 22 undef,a.tmps.getD 23 undef,a.tmps.getD 24 undef,a.tmps.getD 25 undef,a.tmps.getD 26 undef,a.tmps.getD 27 undef,a.tmps.getD 28 undef,a.tmps.getD 29 undef,a.tmps.getD 30 undef,a.tmps.getD 31 undef,a.tmps.getD 32 undef,a.tmps.getD 33 undef,a.tmps.getD 34 undef,a.tmps.getD 35 undef,a.tmps.getD 36 undef,.agg #[vv,rv],a.tmps.getD 38 undef,a.tmps.getD 39 undef,a.tmps.getD 40 undef,a.tmps.getD 41 undef,a.tmps.getD 42 undef,a.tmps.getD 43 undef,a.tmps.getD 44 undef,a.tmps.getD 45 undef,a.tmps.getD 46 undef,a.tmps.getD 47 undef,a.tmps.getD 48 undef,a.tmps.getD 49 undef,a.tmps.getD 50 undef,a.tmps.getD 51 undef,a.tmps.getD 52 undef,a.tmps.getD 53 undef,a.tmps.getD 54 undef,a.tmps.getD 55 undef,a.tmps.getD 56 undef,a.tmps.getD 57 undef,a.tmps.getD 58 undef,a.tmps.getD 59 undef,a.tmps.getD 60 undef,a.tmps.getD 61 undef,a.tmps.getD 62 undef,a.tmps.getD 63 undef,a.tmps.getD 64 undef,a.tmps.getD 65 undef,a.tmps.getD 66 undef,a.tmps.getD 67 undef,a.tmps.getD 68 undef,a.tmps.getD 69 undef,a.tmps.getD 70 undef,a.tmps.getD 71 undef,a.tmps.getD 72 undef,a.tmps.getD 73 undef,a.tmps.getD 74 undef,a.tmps.getD 75 undef,a.tmps.getD 76 undef,a.tmps.getD 77 undef,a.tmps.getD 78 undef,a.tmps.getD 79 undef,a.tmps.getD 80 undef,a.tmps.getD 81 undef,a.tmps.getD 82 undef,a.tmps.getD 83 undef,a.tmps.getD 84 undef,a.tmps.getD 85 undef,a.tmps.getD 86 undef,a.tmps.getD 87 undef,a.tmps.getD 88 undef,a.tmps.getD 89 undef,a.tmps.getD 90 undef,a.tmps.getD 91 undef,a.tmps.getD 92 undef,a.tmps.getD 93 undef,a.tmps.getD 94 undef,a.tmps.getD 95 undef,a.tmps.getD 96 undef,a.tmps.getD 97 undef,a.tmps.getD 98 undef,a.tmps.getD 99 undef,a.tmps.getD 100 undef,a.tmps.getD 101 undef,a.tmps.getD 102 undef],[]⟩→Wd2 w V v1 b3 a w':=fun a ha =>
  ⟨V5,vv,rv,v7,b5,⟨fun j=>a.tmps.getD j undef,ha⟩,fun j o h=>hV5 j o (hV4 j o (hV3 j o (hV2 j o (hV1 j o h)))),hk5,pW.mono hv7 hV5,hone,fun i v h=>(((hc1 i v h).mono hV2).mono hV3 |>.mono hV4).mono hV5,hS⟩
 exact bG (tgt:=[.inRegion qm [1,2,3,4,5,6,7,8],.code Zq]) (key _ rfl)
theorem TD {o:Oper} {ρ:Operand→Value} {x y:Operand} (ho:o.op=.binOp .eql 27 x y 27) (hx:ρ x=.agg #[.int .i64 15,.int .i64 17]) (hy:ρ y=.agg #[.int .i64 15,.int .i64 17]) (w:World):(execOp ρ o).run Tryd.prog w=.ok (.value (.bool true)) w:=by
 unfold execOp
 simp only [ho,hx,hy]
 kernel_rfl
theorem Sm {o:Oper} {ρ:Operand→Value} {x y:Operand} (ho:o.op=.binOp .eql 27 x y 27) (hx:ρ x=.agg #[.int .i64 1,.int .i64 5]) (hy:ρ y=.agg #[.int .i64 1,.int .i64 5]) (w:World):(execOp ρ o).run Tryd.prog w=.ok (.value (.bool true)) w:=by
 unfold execOp
 simp only [ho,hx,hy]
 kernel_rfl
theorem aaX {ops:Array Oper} {Q:Exit→Act→World→Prop} {d:Option Tmp} {x y:Operand} {t:TypeId} {p:String} {af:Array Edge} {g:Option (Nat × Bool)} {rest:List Oper} {a:Act} (h:wpList Tryd.prog ops Q (⟨d,.binOp .eql 27 x y 27,t,p,af,g⟩ :: rest) a w):wpList Tryd.prog ops Q (⟨d,.binOp .eql 27 x y 27,t,p,af,g⟩ :: rest) a w:=h
theorem UN (hB:Bs V) (hV:V.In w) (v1 v7:Value) (b3 b5:Nat) (o1:v1.oneCell'=true) (o7:v7.oneCell'=true) (h1:VI V v1 [29,15,11,15]) (h7:VI V v7 [1]) (h3:∀ i v,[Value.int .i64 15,.int .i64 17][i]? = some v→V.Cell b3 i v) (h5:∀ i v,[Value.int .i64 1,.int .i64 5][i]? = some v→V.Cell b5 i v) (f:Nat→Value) :
  fA Tryd.prog [.code .ret] (fun a w'=>a.tmps[0]? = some (.bool true)∧a.defers=[]∧Kp w w') [.inRegion qm [2,3,4,5,6,7,8],.code Zq] ⟨#[.bool false,v1,.int .i64 0,.pointer (some ⟨b3,0,none⟩),.int .i64 0,.pointer (some ⟨b5,0,none⟩),.int .i64 0,v7,.int .i64 0,f 9,f 10,f 11,f 12,f 13,f 14,f 15,f 16,f 17,f 18,f 19,f 20,f 21,f 22,f 23,f 24,f 25,f 26,f 27,f 28,f 29,f 30,f 31,f 32,f 33,f 34,f 35,f 36,f 37,.tuple #[.int .i64 0,.int .i64 3,.int .i64 0],f 39,f 40,f 41,f 42,f 43,f 44,f 45,f 46,f 47,f 48,f 49,f 50,f 51,f 52,f 53,f 54,f 55,f 56,f 57,f 58,f 59,f 60,f 61,f 62,f 63,f 64,f 65,f 66,f 67,f 68,f 69,f 70,f 71,f 72,f 73,f 74,f 75,f 76,f 77,f 78,f 79,f 80,f 81,f 82,f 83,f 84,f 85,f 86,f 87,f 88,f 89,f 90,f 91,f 92,f 93,f 94,f 95,f 96,f 97,f 98,f 99,f 100,f 101,f 102],[]⟩ w:=by
 have hS:=St.start w V hV
 refine cO (i:=2) (v:=.tuple #[.int .i64 0,.int .i64 3,.int .i64 0]) (w':=w) rfl rfl rfl ?_
 show fA Tryd.prog [.code .ret] _ (.inRegion qm [3,4,5,6,7,8] :: _) ⟨#[.bool false,v1,.int .i64 0,.pointer (some ⟨b3,0,none⟩),.int .i64 0,.pointer (some ⟨b5,0,none⟩),.int .i64 0,v7,.int .i64 0,f 9,f 10,f 11,f 12,f 13,f 14,f 15,f 16,f 17,f 18,f 19,f 20,f 21,f 22,f 23,f 24,f 25,f 26,f 27,f 28,f 29,f 30,f 31,f 32,f 33,f 34,f 35,.tuple #[.int .i64 0,.int .i64 3,.int .i64 0],f 37,.tuple #[.int .i64 0,.int .i64 3,.int .i64 0],f 39,f 40,f 41,f 42,f 43,f 44,f 45,f 46,f 47,f 48,f 49,f 50,f 51,f 52,f 53,f 54,f 55,f 56,f 57,f 58,f 59,f 60,f 61,f 62,f 63,f 64,f 65,f 66,f 67,f 68,f 69,f 70,f 71,f 72,f 73,f 74,f 75,f 76,f 77,f 78,f 79,f 80,f 81,f 82,f 83,f 84,f 85,f 86,f 87,f 88,f 89,f 90,f 91,f 92,f 93,f 94,f 95,f 96,f 97,f 98,f 99,f 100,f 101,f 102],[]⟩ w
 refine cO (i:=3) (v:=.int .i64 0) (w':=w) rfl rfl rfl ?_
 show fA Tryd.prog [.code .ret] _ (.inRegion qm [4,5,6,7,8] :: _) ⟨#[.bool false,v1,.int .i64 0,.pointer (some ⟨b3,0,none⟩),.int .i64 0,.pointer (some ⟨b5,0,none⟩),.int .i64 0,v7,.int .i64 0,f 9,f 10,f 11,f 12,f 13,f 14,f 15,f 16,f 17,f 18,f 19,f 20,f 21,f 22,f 23,f 24,f 25,f 26,f 27,f 28,f 29,f 30,f 31,f 32,f 33,f 34,f 35,.tuple #[.int .i64 0,.int .i64 3,.int .i64 0],f 37,.tuple #[.int .i64 0,.int .i64 3,.int .i64 0],.int .i64 0,f 40,f 41,f 42,f 43,f 44,f 45,f 46,f 47,f 48,f 49,f 50,f 51,f 52,f 53,f 54,f 55,f 56,f 57,f 58,f 59,f 60,f 61,f 62,f 63,f 64,f 65,f 66,f 67,f 68,f 69,f 70,f 71,f 72,f 73,f 74,f 75,f 76,f 77,f 78,f 79,f 80,f 81,f 82,f 83,f 84,f 85,f 86,f 87,f 88,f 89,f 90,f 91,f 92,f 93,f 94,f 95,f 96,f 97,f 98,f 99,f 100,f 101,f 102],[]⟩ w
 refine cO (i:=4) (v:=.int .i64 3) (w':=w) rfl rfl rfl ?_
 show fA Tryd.prog [.code .ret] _ (.inRegion qm [5,6,7,8] :: _) ⟨#[.bool false,v1,.int .i64 0,.pointer (some ⟨b3,0,none⟩),.int .i64 0,.pointer (some ⟨b5,0,none⟩),.int .i64 0,v7,.int .i64 0,f 9,f 10,f 11,f 12,f 13,f 14,f 15,f 16,f 17,f 18,f 19,f 20,f 21,f 22,f 23,f 24,f 25,f 26,f 27,f 28,f 29,f 30,f 31,f 32,f 33,f 34,f 35,.tuple #[.int .i64 0,.int .i64 3,.int .i64 0],f 37,.tuple #[.int .i64 0,.int .i64 3,.int .i64 0],.int .i64 0,.int .i64 3,f 41,f 42,f 43,f 44,f 45,f 46,f 47,f 48,f 49,f 50,f 51,f 52,f 53,f 54,f 55,f 56,f 57,f 58,f 59,f 60,f 61,f 62,f 63,f 64,f 65,f 66,f 67,f 68,f 69,f 70,f 71,f 72,f 73,f 74,f 75,f 76,f 77,f 78,f 79,f 80,f 81,f 82,f 83,f 84,f 85,f 86,f 87,f 88,f 89,f 90,f 91,f 92,f 93,f 94,f 95,f 96,f 97,f 98,f 99,f 100,f 101,f 102],[]⟩ w
 refine cO (i:=5) (v:=.int .i64 0) (w':=w) rfl rfl rfl ?_
 show fA Tryd.prog [.code .ret] _ (.inRegion qm [6,7,8] :: _) ⟨#[.bool false,v1,.int .i64 0,.pointer (some ⟨b3,0,none⟩),.int .i64 0,.pointer (some ⟨b5,0,none⟩),.int .i64 0,v7,.int .i64 0,f 9,f 10,f 11,f 12,f 13,f 14,f 15,f 16,f 17,f 18,f 19,f 20,f 21,f 22,f 23,f 24,f 25,f 26,f 27,f 28,f 29,f 30,f 31,f 32,f 33,f 34,f 35,.tuple #[.int .i64 0,.int .i64 3,.int .i64 0],f 37,.tuple #[.int .i64 0,.int .i64 3,.int .i64 0],.int .i64 0,.int .i64 3,.int .i64 0,f 42,f 43,f 44,f 45,f 46,f 47,f 48,f 49,f 50,f 51,f 52,f 53,f 54,f 55,f 56,f 57,f 58,f 59,f 60,f 61,f 62,f 63,f 64,f 65,f 66,f 67,f 68,f 69,f 70,f 71,f 72,f 73,f 74,f 75,f 76,f 77,f 78,f 79,f 80,f 81,f 82,f 83,f 84,f 85,f 86,f 87,f 88,f 89,f 90,f 91,f 92,f 93,f 94,f 95,f 96,f 97,f 98,f 99,f 100,f 101,f 102],[]⟩ w
 refine cO (i:=6) (v:=.int .i64 0) (w':=w) rfl rfl rfl ?_
 show fA Tryd.prog [.code .ret] _ (.inRegion qm [7,8] :: _) ⟨#[.bool false,v1,.int .i64 0,.pointer (some ⟨b3,0,none⟩),.int .i64 0,.pointer (some ⟨b5,0,none⟩),.int .i64 0,v7,.int .i64 0,.int .i64 0,f 10,f 11,f 12,f 13,f 14,f 15,f 16,f 17,f 18,f 19,f 20,f 21,f 22,f 23,f 24,f 25,f 26,f 27,f 28,f 29,f 30,f 31,f 32,f 33,f 34,f 35,.tuple #[.int .i64 0,.int .i64 3,.int .i64 0],f 37,.tuple #[.int .i64 0,.int .i64 3,.int .i64 0],.int .i64 0,.int .i64 3,.int .i64 0,f 42,f 43,f 44,f 45,f 46,f 47,f 48,f 49,f 50,f 51,f 52,f 53,f 54,f 55,f 56,f 57,f 58,f 59,f 60,f 61,f 62,f 63,f 64,f 65,f 66,f 67,f 68,f 69,f 70,f 71,f 72,f 73,f 74,f 75,f 76,f 77,f 78,f 79,f 80,f 81,f 82,f 83,f 84,f 85,f 86,f 87,f 88,f 89,f 90,f 91,f 92,f 93,f 94,f 95,f 96,f 97,f 98,f 99,f 100,f 101,f 102],[]⟩ w
 refine cO (i:=7) (v:=.int .i64 3) (w':=w) rfl rfl rfl ?_
 show fA Tryd.prog [.code .ret] _ (.inRegion qm [8] :: _) ⟨#[.bool false,v1,.int .i64 0,.pointer (some ⟨b3,0,none⟩),.int .i64 0,.pointer (some ⟨b5,0,none⟩),.int .i64 0,v7,.int .i64 0,.int .i64 0,.int .i64 3,f 11,f 12,f 13,f 14,f 15,f 16,f 17,f 18,f 19,f 20,f 21,f 22,f 23,f 24,f 25,f 26,f 27,f 28,f 29,f 30,f 31,f 32,f 33,f 34,f 35,.tuple #[.int .i64 0,.int .i64 3,.int .i64 0],f 37,.tuple #[.int .i64 0,.int .i64 3,.int .i64 0],.int .i64 0,.int .i64 3,.int .i64 0,f 42,f 43,f 44,f 45,f 46,f 47,f 48,f 49,f 50,f 51,f 52,f 53,f 54,f 55,f 56,f 57,f 58,f 59,f 60,f 61,f 62,f 63,f 64,f 65,f 66,f 67,f 68,f 69,f 70,f 71,f 72,f 73,f 74,f 75,f 76,f 77,f 78,f 79,f 80,f 81,f 82,f 83,f 84,f 85,f 86,f 87,f 88,f 89,f 90,f 91,f 92,f 93,f 94,f 95,f 96,f 97,f 98,f 99,f 100,f 101,f 102],[]⟩ w
 refine cO (i:=8) (v:=.int .i64 0) (w':=w) rfl rfl rfl ?_
 show fA Tryd.prog [.code .ret] _ (.inRegion qm [] :: _) ⟨#[.bool false,v1,.int .i64 0,.pointer (some ⟨b3,0,none⟩),.int .i64 0,.pointer (some ⟨b5,0,none⟩),.int .i64 0,v7,.int .i64 0,.int .i64 0,.int .i64 3,.int .i64 0,f 12,f 13,f 14,f 15,f 16,f 17,f 18,f 19,f 20,f 21,f 22,f 23,f 24,f 25,f 26,f 27,f 28,f 29,f 30,f 31,f 32,f 33,f 34,f 35,.tuple #[.int .i64 0,.int .i64 3,.int .i64 0],f 37,.tuple #[.int .i64 0,.int .i64 3,.int .i64 0],.int .i64 0,.int .i64 3,.int .i64 0,f 42,f 43,f 44,f 45,f 46,f 47,f 48,f 49,f 50,f 51,f 52,f 53,f 54,f 55,f 56,f 57,f 58,f 59,f 60,f 61,f 62,f 63,f 64,f 65,f 66,f 67,f 68,f 69,f 70,f 71,f 72,f 73,f 74,f 75,f 76,f 77,f 78,f 79,f 80,f 81,f 82,f 83,f 84,f 85,f 86,f 87,f 88,f 89,f 90,f 91,f 92,f 93,f 94,f 95,f 96,f 97,f 98,f 99,f 100,f 101,f 102],[]⟩ w
 refine dH ?_
 show fA Tryd.prog [.code .ret] _ [.code Zq] ⟨#[.bool false,v1,.int .i64 0,.pointer (some ⟨b3,0,none⟩),.int .i64 0,.pointer (some ⟨b5,0,none⟩),.int .i64 0,v7,.int .i64 0,.int .i64 0,.int .i64 3,.int .i64 0,f 12,f 13,f 14,f 15,f 16,f 17,f 18,f 19,f 20,f 21,f 22,f 23,f 24,f 25,f 26,f 27,f 28,f 29,f 30,f 31,f 32,f 33,f 34,f 35,.tuple #[.int .i64 0,.int .i64 3,.int .i64 0],f 37,.tuple #[.int .i64 0,.int .i64 3,.int .i64 0],.int .i64 0,.int .i64 3,.int .i64 0,f 42,f 43,f 44,f 45,f 46,f 47,f 48,f 49,f 50,f 51,f 52,f 53,f 54,f 55,f 56,f 57,f 58,f 59,f 60,f 61,f 62,f 63,f 64,f 65,f 66,f 67,f 68,f 69,f 70,f 71,f 72,f 73,f 74,f 75,f 76,f 77,f 78,f 79,f 80,f 81,f 82,f 83,f 84,f 85,f 86,f 87,f 88,f 89,f 90,f 91,f 92,f 93,f 94,f 95,f 96,f 97,f 98,f 99,f 100,f 101,f 102],[]⟩ w
 refine au (aA ?_)
 go_wp2_with (first | (fail) | (go_at_call 42;refine aH hS ⟨_,y9 _ _ _ _ _,?_⟩;clear hS;(try clear w');intro w' hS) |
  ((with_reducible refine uP ?_);refine zU hS rfl (oP (a:=⟨1,0,20,1⟩) rfl rfl) ?_;clear hS;(try clear w');intro bm a' hp;(try simp only [fr] at hp);subst hp;intro w' hS;obtain ⟨V2,hV2,hc2,hS2⟩:=pin hS;clear hS;have hS:=hS2;clear hS2) |
  (go_at_call 75;refine Ba hS (hB.mono hV2) hc2 ?_;clear hS;(try clear w');intro V3 vv3 rv3 w' hV3 hk3 hS) |
  (go_at_call 51;refine JC hS ((hB.mono hV2).mono hV3) hk3 NZ ?_;clear hS;(try clear w');intro w' hS))
 have hB3:Bs V3:=(hB.mono hV2).mono hV3
 have h1':VI V3 v1 [29,15,11,15]:=pW.mono (pW.mono h1 hV2) hV3
 have h7':VI V3 v7 [1]:=pW.mono (pW.mono h7 hV2) hV3
 have hr3:V3.Range b3 0 [.int .i64 15,.int .i64 17]:=fun j v hj=>by rw [Nat.zero_add];exact ((h3 j v hj).mono hV2).mono hV3
 have hr5:V3.Range b5 0 [.int .i64 1,.int .i64 5]:=fun j v hj=>by rw [Nat.zero_add];exact ((h5 j v hj).mono hV2).mono hV3
 clear h1 h7 h3 h5 hc2
 refine au (aA ?_)
 go_wp2_with (first | (((with_reducible refine gL ?_);refine zQ hS rfl rfl rfl ?_);refine ⟨_,zd,?_⟩;clear hS;(try clear w');refine zF ?_;intro w' hS) | ((with_reducible refine aaX ?_);first | (refine Gx rfl (TD rfl rfl rfl) ?_;refine zF ?_) | (refine Gx rfl (Sm rfl rfl rfl) ?_;refine zF ?_)) |
  (((with_reducible refine uP ?_);refine rE hS rfl rfl ?_;refine ⟨_,zq,zd,?_⟩;clear hS;(try clear w');intro _;refine zF ?_;intro w' hS);obtain ⟨V4,hV4,hc4,hS4⟩:=pin hS;clear hS;have hS:=hS4;clear hS4) |
  (go_at_call 31;first | (refine zu hS (pW.mono h1' hV4) (YD (l:=[29,15,11,15]) (by decide) hc4) (by decide) (by decide) rfl ?_;clear hS;(try clear w');clear h1';intro w' hS;replace h7':=pW.mono h7' hV4;clear hc4 hV4) | (refine zu hS (pW.mono h7' hV4) (YD (l:=[1]) (by decide) hc4) (by decide) (by decide) rfl ?_;clear hS;(try clear w');intro w' hS)))
 exact bG (tgt:=[.code .ret]) ⟨rfl,rfl,hS.bM⟩
theorem Oh {b:Frame} {cs:List Frame} {Q:Goroutine→World→Prop} {a:Act} {N:FuncId} {args:Array Value} {R:Ending→World→Prop} {ops:Array Oper} {l:List Nat} {k0:List Item} {i:Nat} {o:Oper} (hc:kL Tryd.prog N args w R) (hh:ay OC w) (hbk:b.kind=.normal)
  (ho:ops[i]? = some o) (hw:Region.wanted o (yielded ops a.tmps)=true) (hok':qj true o.op=true) (hr:∀ w,(execOp a.eval o).run Tryd.prog w=.ok (.enter N args) w) (hpan:∀ ch w,¬ R (.panicked ch) w)
  (hk:∀ v w',R (.returned v) w'→ay OC w'→kU Tryd.prog (G (b.at (a.put o.dst v) (.inRegion ops l :: k0)) cs) w' Q):kU Tryd.prog (G (b.at a (.inRegion ops (i :: l) :: k0)) cs) w Q:=by
 refine Ou lT ho hw (by rw [hbk];decide) hok' hh (fun _ _ _=>trivial) fun d=>?_
 rw [hr]
 intro hhd
 have hat:∀ {Q:Goroutine→World→Prop} {g:Goroutine},kU Tryd.prog g w Q→kU Tryd.prog g (w.at d) Q:=fun h=>h.at
 exact hat (xI ho hc (fun v w1 hv hh1=>hk v w1 hv hh1) fun ch w1 hv _=>(hpan ch w1 hv).elim)
theorem Vo {P:Program} {b:Frame} {cs:List Frame} {a:Act} {f:FuncId} {fn:Func} {v:Value} {R:Ending→World→Prop} {k0:List Item} (hb:b.fn=f) (hbk:b.kind=.normal) (hd:a.defers=[]) (hf:P.funcs[f]? = some fn) (hw:ay OC w) (hr:(results fn a.tmps).run P w=.ok v w) (hR:R (.returned v) w) (hins:Ins R) :
  kU P (G (b.at a (.code .ret :: k0)) cs) w (fun a' w'=>∃ e fr,a'=G fr cs∧R e w'∧fr.fn=f∧fr.leaving P w' e∧e≠.outgrown∧ay OC w') :=
 CV (Hz hb hbk hd hf hw hr hR hins)
theorem TB (hB:Bs V) (hV:V.In w) (hh:ay OC w):kL Tryd.prog 21 #[] w fun r w'=>r=.returned (.bool true)∧Kp w w':=by
 refine jD Tryd.func21 (show Tryd.f21.body=some B21 from rfl) fun cs b hbf hbk hbr=>?_
 have e103:Tryd.f21.ntmps - (#[]:Array Value).size=103:=by kernel_rfl
 rw [e103]
 obtain ⟨tm0,htm⟩:∃ tm0,(#[]:Array Value) ++ Array.replicate 103 undef=tm0:=⟨_,rfl⟩
 rw [htm]
 refine vI (tgt:=[.inRegion Gv [1,2,3,4,5,6,7],.code Yz]) hbf hbk (show [Item.code B21].all qy=true by kernel_rfl) (fun d hd=>nomatch hd) hh (S:=Wd1 w V)
  (fun a w' τ d ⟨V',vv,rv,v1,b3,h1,h2,h3,h4,h5,h6,h7⟩=>⟨V',vv,rv,v1,b3,h1,h2,h3,h4,h5,h6,h7.re1 τ d⟩) (fun τ d=>?_) ?_
 ·rw [← htm]
  refine (U2 (w:=w.re τ d) hB hV).mono ?_
  rintro a w' ⟨V',vv,rv,v1,b3,h1,h2,h3,h4,h5,h6,h7⟩
  exact ⟨V',vv,rv,v1,b3,h1,h2,h3,h4,h5,h6,h7.re0⟩
 rintro a w1 ⟨V1,vv,rv,v1,b3,⟨f,rfl⟩,hV1,hk1,hv1,ho1,hc3,hS1⟩ hh1
 have hB1:=hB.mono hV1
 have hL:=ZB vv rv (nJ []) hk1 hB1.gv hS1.view hh1
 rw [Vg] at hL
 refine Oh (i:=1) (o:=Gv[1]!) hL hh1 hbk rfl rfl rfl (fun w=>?_) (fun ch w h=>nomatch h.1) ?_
 ·rw [run_call_body rfl Tryd.func40 (by kernel_rfl) rfl]
  simp only [List.map_toArray,List.map_cons,List.map_nil]
  rfl
 rintro v w2 ⟨hv,hk2⟩ hh2
 cases hv
 have hS2:=hS1.kp hk2
 obtain ⟨a2,ha2⟩:∃ a2:Act,a2=⟨#[.bool false,v1,.int .i64 0,.pointer (some ⟨b3,0,none⟩),.int .i64 0,f 5,f 6,f 7,f 8,f 9,f 10,f 11,f 12,f 13,f 14,f 15,f 16,f 17,f 18,f 19,f 20,f 21,f 22,f 23,f 24,.agg #[vv,rv],.tuple #[.agg #[.int .i64 1,.int .i64 5],.int .i64 0],f 27,f 28,f 29,f 30,f 31,f 32,f 33,f 34,f 35,f 36,f 37,f 38,f 39,f 40,f 41,f 42,f 43,f 44,f 45,f 46,f 47,f 48,f 49,f 50,f 51,f 52,f 53,f 54,f 55,f 56,f 57,f 58,f 59,f 60,f 61,f 62,f 63,f 64,f 65,f 66,f 67,f 68,f 69,f 70,f 71,f 72,f 73,f 74,f 75,f 76,f 77,f 78,f 79,f 80,f 81,f 82,f 83,f 84,f 85,f 86,f 87,f 88,f 89,f 90,f 91,f 92,f 93,f 94,f 95,f 96,f 97,f 98,f 99,f 100,f 101,f 102],[]⟩:=⟨_,rfl⟩
 have eA:(Act.put ⟨#[.bool false,v1,.int .i64 0,.pointer (some ⟨b3,0,none⟩),.int .i64 0,f 5,f 6,f 7,f 8,f 9,f 10,f 11,f 12,f 13,f 14,f 15,f 16,f 17,f 18,f 19,f 20,f 21,f 22,f 23,f 24,.agg #[vv,rv],f 26,f 27,f 28,f 29,f 30,f 31,f 32,f 33,f 34,f 35,f 36,f 37,f 38,f 39,f 40,f 41,f 42,f 43,f 44,f 45,f 46,f 47,f 48,f 49,f 50,f 51,f 52,f 53,f 54,f 55,f 56,f 57,f 58,f 59,f 60,f 61,f 62,f 63,f 64,f 65,f 66,f 67,f 68,f 69,f 70,f 71,f 72,f 73,f 74,f 75,f 76,f 77,f 78,f 79,f 80,f 81,f 82,f 83,f 84,f 85,f 86,f 87,f 88,f 89,f 90,f 91,f 92,f 93,f 94,f 95,f 96,f 97,f 98,f 99,f 100,f 101,f 102],[]⟩ (some 26) (.tuple #[aJ (1,5),.int .i64 0]))=a2:=by rw [ha2];rfl
 show kU Tryd.prog (G (b.at (Act.put ⟨#[.bool false,v1,.int .i64 0,.pointer (some ⟨b3,0,none⟩),.int .i64 0,f 5,f 6,f 7,f 8,f 9,f 10,f 11,f 12,f 13,f 14,f 15,f 16,f 17,f 18,f 19,f 20,f 21,f 22,f 23,f 24,.agg #[vv,rv],f 26,f 27,f 28,f 29,f 30,f 31,f 32,f 33,f 34,f 35,f 36,f 37,f 38,f 39,f 40,f 41,f 42,f 43,f 44,f 45,f 46,f 47,f 48,f 49,f 50,f 51,f 52,f 53,f 54,f 55,f 56,f 57,f 58,f 59,f 60,f 61,f 62,f 63,f 64,f 65,f 66,f 67,f 68,f 69,f 70,f 71,f 72,f 73,f 74,f 75,f 76,f 77,f 78,f 79,f 80,f 81,f 82,f 83,f 84,f 85,f 86,f 87,f 88,f 89,f 90,f 91,f 92,f 93,f 94,f 95,f 96,f 97,f 98,f 99,f 100,f 101,f 102],[]⟩ (some 26) (.tuple #[aJ (1,5),.int .i64 0])) (.inRegion Gv [2,3,4,5,6,7] :: [.code Yz])) cs) w2 _
 rw [eA,ha2]
 refine vI (tgt:=[.inRegion qm [1,2,3,4,5,6,7,8],.code Zq]) hbf hbk (by kernel_rfl) (fun d hd=>nomatch hd) hh2 (S:=Wd2 w2 V1 v1 b3)
  (fun a w' τ d ⟨V',vv,rv,v1,b3,h1,h2,h3,h4,h5,h6,h7⟩=>⟨V',vv,rv,v1,b3,h1,h2,h3,h4,h5,h6,h7.re1 τ d⟩) (fun τ d=>?_) ?_
 ·refine (Vp (w:=w2.re τ d) hB1 hS2.view v1 b3 (fun j=>if j=25 then .agg #[vv,rv] else f j)).mono ?_
  rintro a w' ⟨V',vv,rv,v1,b3,h1,h2,h3,h4,h5,h6,h7⟩
  exact ⟨V',vv,rv,v1,b3,h1,h2,h3,h4,h5,h6,h7.re0⟩
 clear eA ha2
 rintro a w3 ⟨V3,vv3,rv3,v7,b5,⟨f3,rfl⟩,hV3,hk3,hv7,ho7,hc5,hS3⟩ hh3
 have hB3:=hB1.mono hV3
 have hN:=Zn vv3 rv3 (nJ []) hk3 hB3.gv hS3.view hh3 0
 rw [Xa] at hN
 refine Oh (i:=1) (o:=qm[1]!) hN hh3 hbk rfl rfl rfl (fun w=>?_) (fun ch w h=>nomatch h.1) ?_
 ·rw [run_call_body rfl Tryd.func43 (by kernel_rfl) rfl]
  simp only [List.map_toArray,List.map_cons,List.map_nil]
  rfl
 rintro v w4 ⟨hv,hk4⟩ hh4
 cases hv
 have hS4:=hS3.kp hk4
 have hkp:=((hS1.bM.trans hk2).trans hS3.bM).trans hk4
 obtain ⟨a4,ha4⟩:∃ a4:Act,a4=⟨#[.bool false,v1,.int .i64 0,.pointer (some ⟨b3,0,none⟩),.int .i64 0,.pointer (some ⟨b5,0,none⟩),.int .i64 0,v7,.int .i64 0,f3 9,f3 10,f3 11,f3 12,f3 13,f3 14,f3 15,f3 16,f3 17,f3 18,f3 19,f3 20,f3 21,f3 22,f3 23,f3 24,f3 25,f3 26,f3 27,f3 28,f3 29,f3 30,f3 31,f3 32,f3 33,f3 34,f3 35,f3 36,.agg #[vv3,rv3],.tuple #[.int .i64 0,.int .i64 3,.int .i64 0],f3 39,f3 40,f3 41,f3 42,f3 43,f3 44,f3 45,f3 46,f3 47,f3 48,f3 49,f3 50,f3 51,f3 52,f3 53,f3 54,f3 55,f3 56,f3 57,f3 58,f3 59,f3 60,f3 61,f3 62,f3 63,f3 64,f3 65,f3 66,f3 67,f3 68,f3 69,f3 70,f3 71,f3 72,f3 73,f3 74,f3 75,f3 76,f3 77,f3 78,f3 79,f3 80,f3 81,f3 82,f3 83,f3 84,f3 85,f3 86,f3 87,f3 88,f3 89,f3 90,f3 91,f3 92,f3 93,f3 94,f3 95,f3 96,f3 97,f3 98,f3 99,f3 100,f3 101,f3 102],[]⟩:=⟨_,rfl⟩
 have eA:(Act.put ⟨#[.bool false,v1,.int .i64 0,.pointer (some ⟨b3,0,none⟩),.int .i64 0,.pointer (some ⟨b5,0,none⟩),.int .i64 0,v7,.int .i64 0,f3 9,f3 10,f3 11,f3 12,f3 13,f3 14,f3 15,f3 16,f3 17,f3 18,f3 19,f3 20,f3 21,f3 22,f3 23,f3 24,f3 25,f3 26,f3 27,f3 28,f3 29,f3 30,f3 31,f3 32,f3 33,f3 34,f3 35,f3 36,.agg #[vv3,rv3],f3 38,f3 39,f3 40,f3 41,f3 42,f3 43,f3 44,f3 45,f3 46,f3 47,f3 48,f3 49,f3 50,f3 51,f3 52,f3 53,f3 54,f3 55,f3 56,f3 57,f3 58,f3 59,f3 60,f3 61,f3 62,f3 63,f3 64,f3 65,f3 66,f3 67,f3 68,f3 69,f3 70,f3 71,f3 72,f3 73,f3 74,f3 75,f3 76,f3 77,f3 78,f3 79,f3 80,f3 81,f3 82,f3 83,f3 84,f3 85,f3 86,f3 87,f3 88,f3 89,f3 90,f3 91,f3 92,f3 93,f3 94,f3 95,f3 96,f3 97,f3 98,f3 99,f3 100,f3 101,f3 102],[]⟩ (some 38) (.tuple #[.int .i64 0,.int .i64 3,.int .i64 0]))=a4:=by rw [ha4];rfl
 show kU Tryd.prog (G (b.at (Act.put ⟨#[.bool false,v1,.int .i64 0,.pointer (some ⟨b3,0,none⟩),.int .i64 0,.pointer (some ⟨b5,0,none⟩),.int .i64 0,v7,.int .i64 0,f3 9,f3 10,f3 11,f3 12,f3 13,f3 14,f3 15,f3 16,f3 17,f3 18,f3 19,f3 20,f3 21,f3 22,f3 23,f3 24,f3 25,f3 26,f3 27,f3 28,f3 29,f3 30,f3 31,f3 32,f3 33,f3 34,f3 35,f3 36,.agg #[vv3,rv3],f3 38,f3 39,f3 40,f3 41,f3 42,f3 43,f3 44,f3 45,f3 46,f3 47,f3 48,f3 49,f3 50,f3 51,f3 52,f3 53,f3 54,f3 55,f3 56,f3 57,f3 58,f3 59,f3 60,f3 61,f3 62,f3 63,f3 64,f3 65,f3 66,f3 67,f3 68,f3 69,f3 70,f3 71,f3 72,f3 73,f3 74,f3 75,f3 76,f3 77,f3 78,f3 79,f3 80,f3 81,f3 82,f3 83,f3 84,f3 85,f3 86,f3 87,f3 88,f3 89,f3 90,f3 91,f3 92,f3 93,f3 94,f3 95,f3 96,f3 97,f3 98,f3 99,f3 100,f3 101,f3 102],[]⟩ (some 38) (.tuple #[.int .i64 0,.int .i64 3,.int .i64 0])) (.inRegion qm [2,3,4,5,6,7,8] :: [.code Zq])) cs) w4 _
 rw [eA,ha4]
 refine vI (tgt:=[.code .ret]) hbf hbk (by kernel_rfl) (fun d hd=>nomatch hd) hh4 (S:=fun a w'=>a.tmps[0]? = some (.bool true)∧a.defers=[]∧Kp w4 w')
  (fun a w' τ d h=>⟨h.1,h.2.1,adC h.2.2 τ d⟩) (fun τ d=>?_) ?_
 ·refine (UN (w:=w4.re τ d) hB3 hS4.view v1 v7 b3 b5 ho1 ho7 (pW.mono hv1 hV3) hv7 (fun i v h=>(hc3 i v h).mono hV3) hc5 (fun j=>if j=37 then .agg #[vv3,rv3] else f3 j)).mono ?_
  rintro a w' ⟨h1,h2,h3⟩
  exact ⟨h1,h2,uq h3⟩
 rintro a w5 ⟨h0,hd,hk5⟩ hh5
 have g:a.tmps.getD 0 undef=.bool true:=by
  rw [Array.getD_eq_getD_getElem?,h0]
  rfl
 refine Vo (v:=.bool true) hbf hbk hd Tryd.func21 hh5 ?_ ⟨rfl,hkp.trans hk5⟩ xM
 have h:=results_tmp (fn:=Tryd.f21) (t:=0) (by kernel_rfl) a.tmps Tryd.prog w5
 rw [g] at h
 exact h
theorem oZ {P:Program} {l:List Oper} {md:Region.Mode} {o:Oper} {a:Act} {Q:Exit→Act→World→Prop} {S:World→Prop} {fuel:Nat} {listed:Array Bool} (i:Nat) (hr:Region.ready md l.toArray listed=[i]) (hi₀:l[i]? = some o) (hw:Region.wanted o (yielded l.toArray a.tmps)=true)
  (h:∃ f args,(execOp a.eval o).run P w=.ok (.enter f args) w∧Calls P f args w fun e w'=>∃ v,e=.returned v∧∀ a' l',a.put o.dst v=a'→listed.setIfInBounds i true=l'→S w'∧wpAnyH P md l.toArray Q S fuel l' a' w'):wpAnyH P md l.toArray Q S (fuel+1) listed a w:=by
 obtain ⟨f,args,hr',hc⟩:=h
 exact mG hr (yB (R:=fun v w'=>∀ a' l',a.put o.dst v=a'→listed.setIfInBounds i true=l'→S w'∧wpAnyH P md l.toArray Q S fuel l' a' w') (jV hi₀) hw hr' hc fun v w' h=>h _ _ rfl rfl)
theorem wO {v:Value} {n sz:Nat} {get:Nat→List Value} (h:pW V v n sz get):v.oneCell'=true:=by
 obtain ⟨a,cap,rfl,_⟩:=h.is
 rfl
theorem abD {w0:World} {X:List Nat} {L:List dF} {vv rv:Value} {k:Wk} {R:Ending→World→Prop} {t:Bool} {e:Int} (hS:St w0 X V L w) (hB:Bs V) (hk:iJ V vv rv k) (hv:abV k=(t,e))
  (h:∀ w',St w0 X V L w'→R (.returned (.tuple #[.bool t,.int .i64 e])) w'):Calls Tryd.prog 25 #[.agg #[vv,rv]] w R:=by
 have hc:=adf vv rv k hk hB.gv hS.view
 rw [hv] at hc
 exact aH hS ⟨_,hc,h⟩
theorem IU {V V':View} {v:Value} {l:List Int} (h:VI V v l) (hV:∀ j o,V j=some o→V' j=some o):VI V' v l:=pW.mono h hV
end Go.Proofs.YtjjmefieegcddaaDoor
namespace Go.Mm
open Go
variable {P:Program} {w0:World} {X:List Nat} {V:View} {L:List dF} {w:World}
variable {l:List Oper} {md:Region.Mode} {o:Oper} {a:Act} {Q:Exit→Act→World→Prop} {S:World→Prop} {fuel:Nat} {listed:Array Bool}
theorem gHd {l:Array Oper} (h:wpAnyH P md l Q S fuel listed a w):wpAnyH P md l Q S fuel listed a w:=h
end Go.Mm
namespace Go.Mm
open Go Go.Wg Go.Proofs.YtjjmefieegcddaaDoor
variable {w w' w0:World} {X:List Nat} {V:View} {L:List dF}
structure afV (w:World) (V V':View):Prop where
 up:∀ j o,V j=some o→V' j=some o
 new:∀ j o,V' j=some o→V j=some o∨w.heap.size≤j
theorem afV.rfl {w:World} {V:View}:afV w V V:=⟨fun _ _ h=>h,fun _ _ h=>.inl h⟩
theorem afV.trans {V1 V2 V3:View} (h:afV w V1 V2) (h':afV w V2 V3):afV w V1 V3:=⟨fun j o hj=>h'.up j o (h.up j o hj),fun j o hj=>(h'.new j o hj).elim (fun h1=>h.new j o h1) .inr⟩
theorem St.ahu (h:St w0 X V L w) {Lc:List dF} {Vc:View} (hc:St w [] Vc Lc w') (hV:afV w V Vc):St w0 X Vc (Lc ++ L) w':=by
 have h1:=h.Nq hc
 refine ⟨h1.os,h1.output,h1.size,h1.old,hc.view,h1.has,h1.new,fun e he b hb=>?_,h1.nd⟩
 rcases List.mem_append.1 he with he | he
 ·exact hc.off e he b hb
 ·cases hb':Vc b with
  | none=>rfl
  | some o =>
   have:=h.lt he hb
   rcases hV.new b o hb' with h2 | h2
   ·rw [h.off e he b hb] at h2
    cases h2
   ·omega
theorem af9 {t:TypeId} {us:List Value} {v:Value} (h:St w0 [] V (.row v t 1 us.length us :: L) w):∃ V',afV w0 V V'∧St w0 [] V' L w∧Go.Wg.pW V' v us.length 1 fun j=>[us.getD j undef]:=by
 rcases rO h with ⟨rfl,h0⟩ | ⟨g,cap,pad,rfl,c1,c2,c3,c4,c5,h1⟩
 ·exact ⟨V,.rfl,h.drop,⟨⟨none,0,by rw [h0],by omega,by decide,fun hn=>by omega⟩⟩⟩
 ·have hgV:=h1.off _ (List.mem_cons_self ..) g rfl
  have hgn:w0.heap.size≤g:=by
   rcases h1.new _ (List.mem_cons_self ..) _ rfl with h2 | h2
   ·exact h2
   ·cases h2
  refine ⟨_,⟨oG hgV,fun j o hj=>?_⟩,h1.freeze,⟨⟨_,cap,rfl,c1,c2,fun _=>⟨g,0,rfl,fun i hi j u hj=>?_⟩⟩⟩⟩
  ·by_cases e:j=g
   ·subst e;exact .inr hgn
   ·rw [if_neg e] at hj;exact .inl hj
  ·obtain rfl:j=0:=by
    cases j with
    | zero=>rfl
    | succ j=>simp at hj
   simp only [List.getElem?_cons_zero,Option.some.injEq] at hj
   subst hj
   refine ⟨_,_,_,if_pos rfl,?_⟩
   rw [List.getElem?_toArray,Nat.mul_one,Nat.zero_add,Nat.add_zero,List.getElem?_append_left hi,List.getD_eq_getElem?_getD,List.getElem?_eq_getElem hi]
   rfl
end Go.Mm
namespace Go.Proofs.YtjjmefieegcddaaDoor
open Go.RowKit Go.Wg Go.Mm
variable {w:World} {V:View}
theorem ag3 {w0:World} {L:List dF} {l:List Int} {v:Value} (h:St w0 [] V (.row v 3 1 l.length (aV l) :: L) w):∃ V',afV w0 V V'∧St w0 [] V' L w∧VI V' v l:=by
 have h2:St w0 [] V (.row v 3 1 (aV l).length (aV l) :: L) w:=by rw [iD];exact h
 obtain ⟨V',h3,h4,a,cap,h5,h6,h7,h8⟩:=af9 h2
 rw [iD] at h5 h6 h8
 refine ⟨V',h3,h4,⟨a,cap,h5,h6,h7,fun hn=>?_⟩⟩
 obtain ⟨g,off,h9,h10⟩:=h8 hn
 refine ⟨g,off,h9,fun i hi=>?_⟩
 have:=h10 i hi
 have e:(aV l).getD i undef=.int .i64 (l.getD i 0):=by
  rw [List.getD_eq_getElem?_getD,nI rfl hi]
  rfl
 rw [e] at this
 exact this
structure VLL (V:View) (v:Value) (ls:List (List Int)):Prop where
 is:∃ us:List Value,us.length=ls.length∧pW V v ls.length 1 (fun j=>[us.getD j undef])∧∀ j,j < ls.length→VI V (us.getD j undef) (ls.getD j [])
theorem VLL.mono {V V':View} {v:Value} {ls:List (List Int)} (h:VLL V v ls) (hV:∀ j o,V j=some o→V' j=some o):VLL V' v ls:=by
 obtain ⟨us,h1,h2,h3⟩:=h.is
 exact ⟨us,h1,pW.mono h2 hV,fun j hj=>IU (h3 j hj) hV⟩
theorem VLL.one {v:Value} {ls:List (List Int)} (h:VLL V v ls):v.oneCell'=true:=by
 obtain ⟨us,h1,h2,h3⟩:=h.is
 exact wO h2
theorem agq {w0:World} {X:List Nat} {L:List dF} {f:FuncId} {args:Array Value} {R:Ending→World→Prop} {ls:List (List Int)} (hS:St w0 X V L w) (hc:Calls Tryd.prog f args w fun e w'=>∃ v V',e=.returned v∧afV w V V'∧St w [] V' [] w'∧VLL V' v ls)
  (h:∀ (V':View) (v:Value) (w':World),(∀ j o,V j=some o→V' j=some o)→VLL V' v ls→v.oneCell'=true→St w0 X V' L w'→R (.returned v) w'):Calls Tryd.prog f args w R :=
 hc.mono fun e w' ⟨v,V',he,hV,hS',hl⟩=>by
  subst he
  exact h V' v w' hV.up hl hl.one (hS.ahu hS' hV)
theorem ahv {ops:Array Oper} {o:Oper} {rest:List Oper} {a:Act} {Q:Exit→Act→World→Prop} (hgd:Region.wanted o (yielded ops a.tmps)=true) {R:Value→World→Prop} (hr:∃ v w',(execOp a.eval o).run Tryd.prog w=.ok (.value v) w'∧R v w')
  (h:∀ v w',R v w'→∀ a',a.put o.dst v=a'→wpList Tryd.prog ops Q rest a' w'):wpList Tryd.prog ops Q (o :: rest) a w:=by
 obtain ⟨v,w',h1,h2⟩:=hr
 exact dU hgd h1 (h v w' h2 _ rfl)
theorem ahe {w0:World} {L:List dF} {X:List Nat} (hS:St w0 X V L w) {o:Oper} {ρ:Operand→Value} (ho:o.op=.buildSlice 30 0 #[]):∃ v w',(execOp ρ o).run Tryd.prog w=.ok (.value v) w'∧St w0 X V (.row v 3 1 0 (aV []) :: L) w':=by
 refine ⟨.slice (some ⟨w.heap.size,0,none⟩) 0 0,w.alloc (.cells (aV []).toArray 3),?_,Fv (n:=0) (s:=1) (hS.alloc 3 (aV [])) rfl (by decide)⟩
 unfold execOp
 simp only [ho]
 kernel_rfl
theorem agO (l:List Int):∀ u∈aV l,u.oneCell'=true:=fun u hu=>by
 obtain ⟨n,_,rfl⟩:=List.mem_map.1 hu
 rfl
theorem agx {l:List Int} {g off:Nat} (h:∀ i,i < l.length→V.Range g (off+i * 1) [.int .i64 (l.getD i 0)]):V.Range g off (aV l):=fun j v hj=>by
 have hl:j < l.length:=by
  have:=(List.getElem?_eq_some_iff.1 hj).1
  rwa [iD] at this
 rw [nI rfl hl] at hj
 have h1:=h j hl 0 v hj
 rwa [Nat.mul_one,Nat.add_zero] at h1
theorem ahj {lv:Value} {l:List Int} (hl:VI V lv l) (hn:l.length≤100) (hV:V.In w) :
  Calls Tryd.prog 111 #[lv] w fun e w'=>∃ u,e=.returned u∧St w [] V [.row u 3 1 l.length (aV l)] w':=by
 obtain ⟨la,lcap,rfl,hlc,hlm,hle⟩:=hl.is
 have hS:=St.start w V hV
 have hrng:0 < l.length→∃ b off,la=some ⟨b,off,none⟩∧V.Range b off (aV l):=fun h=>by
  obtain ⟨g,off,h1,h2⟩:=hle h
  exact ⟨g,off,h1,agx h2⟩
 have hnl:(aV l).length=l.length * 1:=by rw [iD,Nat.mul_one]
 have hcc:aV l=aV [] ++ aV l:=rfl
 clear hl hle
 go_enter Tryd.func111,Tryd.ntmps111
 go_wp2_with (first | ((with_reducible refine uP ?_);refine ahv rfl (ahe hS rfl) ?_;clear hS;(try clear w');intro v3 w' hS a' hp;(try simp only [fr] at hp);subst hp) | ((with_reducible refine Q5 ?_);refine ahv rfl (ql (v:=v3) hS rfl rfl rfl hrng hnl (agO _) (by omega)) ?_;clear hS;(try clear w');intro v5 w' hS a' hp;(try simp only [fr] at hp);subst hp;(try simp only [sE] at hS);have hv5:=dY hS v5))
 ((try simp only [Exit.inBlock,Exit.then]);(try refine aB ?_);refine bK ⟨_,by exact bH (r1:=.tmp 2) (by kernel_rfl) (by exact bD rfl),?_⟩ rfl)
 refine ⟨_,rfl,?_⟩
 rw [Nat.zero_add,← hcc] at hS
 exact hS.aG
end Go.Proofs.YtjjmefieegcddaaDoor
namespace Go.Proofs.YtjjmefieegcddaaDoor
open Go.RowKit Go.Wg Go.Mm
variable {w:World} {V:View}
theorem one_one {a:Value} (h:a.oneCell'=true):∀ v∈[a],v.oneCell'=true:=fun v hv=>by rw [List.mem_singleton] at hv;rw [hv];exact h
structure afM (V:View) (us:List Value) (ls:List (List Int)):Prop where
 len:us.length=ls.length
 at_:∀ j,j < ls.length→VI V (us.getD j undef) (ls.getD j [])
theorem afM.mono {V V':View} {us:List Value} {ls:List (List Int)} (h:afM V us ls) (hV:∀ j o,V j=some o→V' j=some o):afM V' us ls:=⟨h.len,fun j hj=>IU (h.at_ j hj) hV⟩
theorem afM.nil (V:View):afM V [] []:=⟨rfl,fun j hj=>absurd hj (by simp)⟩
theorem afM.add {us:List Value} {ls:List (List Int)} (h:afM V us ls) {u:Value} {l:List Int} (hu:VI V u l):afM V (us ++ [u]) (ls ++ [l]):=by
 refine ⟨by simp [h.len],fun j hj=>?_⟩
 have hj':j < ls.length+1:=by simpa using hj
 by_cases e:j < ls.length
 ·have:=h.at_ j e
  rwa [List.getD_eq_getElem?_getD,List.getElem?_append_left (by rw [h.len];exact e),List.getD_eq_getElem?_getD,List.getElem?_append_left e,← List.getD_eq_getElem?_getD,← List.getD_eq_getElem?_getD]
 ·obtain rfl:j=ls.length:=by omega
  rw [List.getD_eq_getElem?_getD,List.getElem?_append_right (by rw [h.len];exact Nat.le_refl _),List.getD_eq_getElem?_getD,List.getElem?_append_right (Nat.le_refl _),h.len,Nat.sub_self]
  exact hu
theorem afM.vll {us:List Value} {ls:List (List Int)} {v:Value} (h:afM V us ls) (hv:pW V v us.length 1 fun j=>[us.getD j undef]):VLL V v ls:=⟨⟨us,h.len,by rw [← h.len];exact hv,h.at_⟩⟩
theorem agY {w0:World} {L:List dF} {l:List Int} {y:Int} {v:Value} (h:St w0 [] V (.row v 3 1 (l.length+1) (aV l ++ [.int .i64 y]) :: L) w):∃ V',afV w0 V V'∧St w0 [] V' L w∧VI V' v (l ++ [y]):=by
 have h2:St w0 [] V (.row v 3 1 (l ++ [y]).length (aV (l ++ [y])) :: L) w:=by
  have e1:aV (l ++ [y])=aV l ++ [.int .i64 y]:=by simp [aV]
  rw [e1,List.length_append]
  exact h
 exact ag3 h2
theorem agK {w0:World} {L:List dF} {g:Nat} (h:St w0 [] V (.blk g 30 [.slice none 0 0] :: L) w):∃ V',afV w0 V V'∧St w0 [] V' L w∧VLL V' (.slice (some ⟨g,0,none⟩) 1 1) [[]]:=by
 obtain ⟨V',h1,h2,h3⟩:=af9 (us:=[.slice none 0 0]) (Fv (n:=1) (s:=1) h rfl (by decide))
 exact ⟨V',h1,h2,⟨⟨[.slice none 0 0],rfl,h3,fun j hj=>by
  obtain rfl:j=0:=by simp at hj;omega
  exact ⟨⟨none,0,rfl,Nat.le_refl _,by decide,fun hn=>absurd hn (by decide)⟩⟩⟩⟩⟩
def af5 (i:Nat) (l:List Int):Int:=if 0 < i then l.getD (i - 1) 0+1 else 0
def agk (k i:Nat) (l:List Int):Nat:=(3 - (k:Int)+i+1 - af5 i l).toNat
def af0 (i:Nat) (l:List Int) (m:Nat):List (List Int):=(List.range m).map fun y:Nat=>l ++ [af5 i l+y]
def agp (k i:Nat) (out:List (List Int)) (x:Nat):List (List Int):=(out.take x).flatMap fun l=>af0 i l (agk k i l)
def chL (k:Nat):Nat→List (List Int)
 | 0=>[[]]
 | i+1=>agp k i (chL k i) (chL k i).length
theorem agw (i:Nat) (l:List Int) (m:Nat):af0 i l (m+1)=af0 i l m ++ [l ++ [af5 i l+m]]:=by
 unfold af0
 rw [List.range_succ,List.map_append]
 rfl
theorem agJ (k i:Nat) (out:List (List Int)) {x:Nat} (hx:x < out.length):agp k i out (x+1)=agp k i out x ++ af0 i (out.getD x []) (agk k i (out.getD x [])):=by
 unfold agp
 rw [List.take_add_one,List.getElem?_eq_getElem hx,List.flatMap_append]
 simp [List.getD_eq_getElem?_getD,List.getElem?_eq_getElem hx]
theorem ahd:∀ k,k < 4→∀ i,i < k+1→(chL k i).length≤20∧(∀ l∈chL k i,l.length=i∧(∀ e∈l,0≤e∧e≤5)∧agk k i l≤8)∧∀ x,x < 21→(agp k i (chL k i) x).length≤100:=by decide
theorem agI {k:Nat} (hk:k≤3) (hV:V.In w):Calls Tryd.prog 66 #[.int .i64 3,.int .i64 (k:Int)] w fun e w'=>∃ v V',e=.returned v∧afV w V V'∧St w [] V' [] w'∧VLL V' v (chL k k):=by
 have hS:=St.start w V hV
 go_enter Tryd.func66,Tryd.ntmps66
 go_wp2_with ((with_reducible refine uP ?_);refine rE hS rfl rfl ?_;refine ⟨_,zq,zd,?_⟩;clear hS;(try clear w');intro _;refine zF ?_;intro w' hS)
 obtain ⟨V1,hV1,hS1,hv1⟩:=agK hS
 clear hS
 go_loopw [5,6] (fun ov iv wr=>∃ (i:Nat) (V':View),i≤k∧iv=.int .i64 (i:Int)∧afV w V V'∧VLL V' ov (chL k i)∧St w [] V' [] wr) (fun _ iv _=>k - (intOf iv).toNat)
 case atStart=>exact ⟨0,V1,by omega,rfl,hV1,hv1,hS1⟩
 case round =>
  clear hS1 hv1 hV1
  clear V1
  obtain ⟨i,V1,hi,rfl,hV1,hv1,hS⟩:=hrel
  have h0:(0:Int)≤i:=by omega
  by_cases hlt:i < k
  ·have hlt':(i:Int) < k:=by omega
   obtain ⟨hA1,hA2,hA3⟩:=ahd k (by omega) i (by omega)
   obtain ⟨us,hu1,hu2,hu3⟩:=hv1.is
   obtain ⟨oa,ocap,hov,hoc,hom,hoe⟩:=hu2.is
   subst hov
   have hnext:chL k (i+1)=agp k i (chL k i) (chL k i).length:=rfl
   have hsu:=fun x hx=>agJ k i (chL k i) (x:=x) hx
   have hel:∀ x,x < (chL k i).length→(chL k i).getD x []∈chL k i:=fun x hx=>by
    rw [List.getD_eq_getElem?_getD,List.getElem?_eq_getElem hx]
    exact List.getElem_mem hx
   have hz:agp k i (chL k i) 0=[]:=rfl
   generalize agp k i (chL k i)=T at hnext hsu hA3 hz
   generalize chL k i=O at hA1 hA2 hnext hsu hel hu1 hu2 hu3 hoc hoe hv1 ⊢
   clear hv1 hu2
   replace hnext:=aj hnext;replace hsu:=aj hsu;replace hel:=aj hel;replace hA2:=aj hA2;replace hA3:=aj hA3;replace hu3:=aj hu3
   go_wp2_with (fail)
   replace hS:=hS.nilRow 30 1
   go_loopw [7,8] (fun nv xv wr=>∃ (x:Nat) (vs:List Value) (V':View),x≤O.length∧xv=.int .i64 (x:Int)∧nv.oneCell'=true∧afM V' vs (T x)∧afV w V1 V'∧St w [] V' [.row nv 30 1 vs.length vs] wr) (fun _ xv _=>O.length - (intOf xv).toNat)
   case atStart=>exact ⟨0,[],V1,by omega,rfl,rfl,by rw [hz];exact afM.nil V1,.rfl,hS⟩
   case round =>
    clear hS
    obtain ⟨x,vs,V2,hx,rfl,hone,hN,hV2,hS⟩:=hrel
    have h0x:(0:Int)≤x:=by omega
    by_cases hxl:x < O.length
    ·have hxl':(x:Int) < O.length:=by omega
     obtain ⟨og,oo,hoa,hor⟩:=hoe (by omega)
     subst hoa
     have hcell:=(hor x hxl 0 _ rfl).mono hV2.up
     simp only [Nat.mul_one,Nat.add_zero] at hcell
     have hvi:=IU (hu3.out x hxl) hV2.up
     obtain ⟨hl1,hl2,hl3⟩:=hA2.out _ (hel.out x hxl)
     have hsx:=hsu.out x hxl
     have hTl:=hA3.out x (by omega)
     generalize us.getD x undef=u at hcell hvi
     generalize O.getD x []=l at hvi hl1 hl2 hl3 hsx
     have hvi0:=hvi
     obtain ⟨la,lcap,hlv,hlc,hlm,hle⟩:=hvi0.is
     rw [hl1] at hlv hlc
     subst hlv
     have hrow:=fun m=>agw i l m
     have hrow0:af0 i l 0=[]:=rfl
     have hRwl:∀ m,(af0 i l m).length=m:=fun m=>by simp [af0]
     have hcnt:agk k i l=(3 - (k:Int)+i+1 - af5 i l).toNat:=rfl
     have hlow:af5 i l=if 0 < i then l.getD (i - 1) 0+1 else 0:=rfl
     have hlb:0≤af5 i l∧af5 i l≤6:=by
      rw [hlow]
      split
      ·have:l.getD (i - 1) 0∈l:=by
        rw [List.getD_eq_getElem?_getD,List.getElem?_eq_getElem (by omega)]
        exact List.getElem_mem _
       have:=hl2 _ this
       omega
      ·omega
     generalize af0 i l=Rw at hsx hrow hrow0 hRwl
     generalize af5 i l=low at hrow hcnt hlow hlb
     generalize agk k i l=c at hsx hcnt hl3
     obtain ⟨hb1,hb2⟩:=hlb
     replace hsx:=aj hsx;replace hrow:=aj hrow;replace hl2:=aj hl2;replace hvi:=aj hvi;replace hcnt:=aj hcnt
     have hcase:(decide (0 < i)=false∧low=0)∨(decide (0 < i)=true∧∃ lg lo e,la=some ⟨lg,lo,none⟩∧V2.Cell lg (lo+(i - 1)) (.int .i64 e)∧low=e+1):=by
      rcases Nat.eq_zero_or_pos i with hi0 | hi0
      ·exact .inl ⟨decide_eq_false (by omega),by rw [hlow,if_neg (by omega)]⟩
      ·obtain ⟨lg,lo,hla,hlr⟩:=hle (by omega)
       have hcl:=hlr (i - 1) (by omega) 0 _ rfl
       simp only [Nat.mul_one,Nat.add_zero] at hcl
       exact .inr ⟨decide_eq_true (by omega),lg,lo,_,hla,hcl,by rw [hlow,if_pos hi0]⟩
     clear hle hlow hor hoe
     have hi1:((i:Int) - 1).toNat=i - 1:=by omega
     rcases hcase with ⟨hd0,hL⟩ | ⟨hd0,lg,lo,e,hla,hcl,hL⟩
     case' inl =>
      replace hL:=aj hL
      go_wp2_with (fail)
     case' inr =>
      subst hla
      have hi2:(0:Int)≤(i:Int) - 1:=by simp only [decide_eq_true_eq] at hd0;omega
      have hi3:(i:Int) - 1 < i:=by omega
      have he1:0≤e+1∧e+1≤6:=by omega
      replace hL:=aj hL
      go_wp2_with (((with_reducible refine gL ?_);refine nC hS rfl rfl rfl ?_);refine ⟨_,zd,?_⟩;clear hS;(try clear w');refine zF ?_;intro w' hS)
     all_goals (
      go_loopw [7,10] (fun nv yv wr=>∃ (m:Nat) (vs:List Value) (V':View),m≤c∧yv=.int .i64 (low+(m:Int))∧nv.oneCell'=true∧afM V' vs (T x ++ Rw m)∧afV w V1 V'∧(∀ j o,V2 j=some o→V' j=some o)∧St w [] V' [.row nv 30 1 vs.length vs] wr) (fun _ yv _=>(low+c - intOf yv).toNat)
      case atStart=>exact ⟨0,vs,V2,by omega,by rw [hL.out];simp,hone,by rw [hrow0,List.append_nil];exact hN,hV2,fun _ _ h=>h,hS.aG⟩
      case round =>
       clear hS hN hone hV2
       clear vs
       obtain ⟨m,vs,V3,hm,rfl,hone,hN,hV3,hV23,hS⟩:=hrel
       by_cases hmc:m < c
       ·have hle3:decide (low+(m:Int)≤3 - (k:Int)+(i:Int))=true:=decide_eq_true (by have:=hcnt.out;omega)
        have hcell3:=hcell.mono hV23
        have hvi3:=IU hvi.out hV23
        have hrm:=hrow.out m
        have hvl:vs.length≤200:=by
         have h1:=hN.len
         have h2:=hRwl m
         rw [List.length_append,h2] at h1
         omega
        replace hrm:=aj hrm;replace hN:=aj hN
        go_wp2_with (first | (((with_reducible refine gL ?_);refine nC hS rfl rfl rfl ?_);refine ⟨_,zd,?_⟩;clear hS;(try clear w');refine zF ?_;intro w' hS) | ((with_reducible refine uP ?_);refine rE hS rfl rfl ?_;refine ⟨_,zq,zd,?_⟩;clear hS;(try clear w');intro _;refine zF ?_;intro w' hS) | (((with_reducible refine Q5 ?_);refine Ui rfl rfl ?_;refine ⟨_,_,_,_,by exact rfl,by exact rfl,?_⟩;refine eH hS zd ?_;clear hS;(try clear w');intro va w' hS;refine zF ?_;(try simp only [sE] at hS);have hva:=dY hS va);have hva1:=one_one hva) | (go_at_call 111;refine (ahj hvi3 (by omega) (St.view hS)).mono ?_;rintro _ w1 ⟨u49,rfl,hS1⟩;have hS2:=hS.Nq hS1;simp only [List.cons_append,List.nil_append] at hS2;clear hS hS1;(try clear w');have hS:=hS2;clear hS2;rw [hl1] at hS))
        have hS3:=St.drop (St.drop hS)
        rw [← hl1] at hS3
        obtain ⟨V4,hV4,hS4,hvi4⟩:=agY hS3
        clear hS3
        clear hS
        go_roundw
        case rel=>exact ⟨m+1,vs ++ [_],V4,by omega,by go_num,hva,by rw [hrm.out,← List.append_assoc];exact (hN.out.mono hV4.up).add hvi4,hV3.trans hV4,(fun j o h=>hV4.up j o (hV23 j o h)),by rw [List.length_append];exact hS4.aG⟩
        case measure=>simp only [intOf];omega
       ·obtain rfl:m=c:=by omega
        have hle3:decide (low+(m:Int)≤3 - (k:Int)+(i:Int))=false:=decide_eq_false (by have:=hcnt.out;omega)
        replace hN:=aj hN
        go_wp2_with (fail)
        go_roundw
        case rel=>exact ⟨x+1,vs,V3,by omega,by go_num,hone,by rw [hsx.out];exact hN.out,hV3,hS.aG⟩
        case measure=>simp only [intOf];omega)
    ·obtain rfl:x=O.length:=by omega
     replace hN:=aj hN
     go_wp2_with (fail)
     obtain ⟨V5,hV5,hS5,hvs⟩:=af9 hS
     go_roundw
     case rel=>exact ⟨i+1,V5,by omega,by go_num,(hV1.trans hV2).trans hV5,by rw [hnext.out];exact (hN.out.mono hV5.up).vll hvs,hS5⟩
     case measure=>simp only [intOf];omega
  ·obtain rfl:i=k:=by omega
   have hvo:=hv1.one
   replace hv1:=aj hv1
   go_wp2_with (fail)
   ((try simp only [Exit.inBlock,Exit.then]);(try refine aB ?_);refine bK ⟨_,by exact bH (r1:=.tmp 4) (by kernel_rfl) (by exact bD rfl),?_⟩ rfl)
   exact ⟨_,V1,rfl,hV1,hS,hv1.out⟩
end Go.Proofs.YtjjmefieegcddaaDoor
namespace Go.Tm
open Go
open Go.Conc
variable {P:Program}
section
variable {tgt k:List Item} {S:Act→World→Prop} {a:Act} {w:World}
theorem abn {todo todo':List Item} {a':Act} {w':World} (hs:∀ (b:Frame) (cs:List Frame),b.kind=.normal→Steps P (lone (b.at a todo) cs w) (lone (b.at a' todo') cs w')) (h:fA P tgt S todo' a' w'):fA P tgt S todo a w:=fun b cs hb=>by
 obtain ⟨a2,w2,h1,h2⟩:=h b cs hb
 exact ⟨a2,w2,h1,(hs b cs hb).trans h2⟩
theorem abT {ops:Array Oper} {l2:List Nat}:∀ (l1:List Nat) (a:Act) (w:World),wpOps P ops (fun e a' w'=>e=.normal∧fA P tgt S (.inRegion ops l2 :: k) a' w') l1 a w→fA P tgt S (.inRegion ops (l1 ++ l2) :: k) a w
 | [],a,w,h=>h.2
 | i :: rest,a,w,h=>by
  have ih:=abT (ops:=ops) (l2:=l2) rest
  simp only [wpOps] at h
  rw [List.cons_append]
  cases ho:ops[i]? with
  | none =>
   simp only [ho] at h
   refine abn (fun b cs _=>?_) (ih a w h)
   have hs:=step_op_skip (P:=P) (b:=b) (a:=a) (k:=k) (cs:=cs) (w:=w) (ops:=ops) (i:=i) (rest:=rest ++ l2) (by simp [ho])
   simp only [ho,Option.bind_none,Act.put] at hs
   exact .one hs
  | some o =>
   simp only [ho] at h
   by_cases hw:Region.wanted o (yielded ops a.tmps)=true
   ·simp only [hw,if_true] at h
    rcases h with h | ⟨hasks,a₀,w₀,hq⟩
    case inr=>exact nomatch hq.1
    simp only [Oper.wp,Oper.upon] at h
    split at h
    ·rename_i v w' hr
     exact cO ho hw hr (ih _ _ h)
    ·rename_i w' hr
     exact Q8 ho hw hr (ih _ _ h)
    ·rename_i d w' hr
     refine abn (fun b cs _=>.one (step_lone_go ?_)) (ih _ _ h)
     have hg:=stepG_op (P:=P) (b:=b) (k:=k) (cs:=cs) (w:=w) (rest:=rest ++ l2) ho hw
     have:({ b.at a (.inRegion ops (i :: (rest ++ l2)) :: k) with defers:=d :: a.defers }:Frame).finish undef =
       b.at ({ a with defers:=d :: a.defers }.put o.dst undef) (.inRegion ops (rest ++ l2) :: k):=by
      have:=Frame.finish_at b { a with defers:=d :: a.defers } ops i (rest ++ l2) k undef
      rw [ho] at this;exact this
     rw [hg];simp only [stepG.apply,Sem.runT_eq,hr,GStep.bare_after]
     exact congrArg (fun fr=>GStep.go { frame:=fr,callers:=cs,status:=.running,dying:=none } w') this
    ·rename_i f args w' hr
     refine rZ ho hw hr (h.mono fun e w'' hR=>?_)
     cases e with
     | returned v=>exact ⟨v,rfl,ih _ _ hR⟩
     | panicked chain=>exact nomatch hR.1
     | outgrown =>
      obtain ⟨a₀,w₀,hq⟩:=hR
      exact nomatch hq.1
    ·rename_i row args w' hr
     intro b cs hb
     have hg:=stepG_op (P:=P) (b:=b) (k:=k) (cs:=cs) (w:=w) (rest:=rest ++ l2) ho hw
     have hfin:∀ v,(b.at a (.inRegion ops (i :: (rest ++ l2)) :: k)).finish v=b.at (a.put o.dst v) (.inRegion ops (rest ++ l2) :: k):=by
      intro v;rw [Frame.finish_at,ho];rfl
     obtain ⟨v,w'',hR,hsteps⟩:=h (b.at a (.inRegion ops (i :: (rest ++ l2)) :: k)) cs
     have henter:step P (lone (b.at a (.inRegion ops (i :: (rest ++ l2)) :: k)) cs w) =
       .next (lone (Frame.ofRow P row args .normal) (b.at a (.inRegion ops (i :: (rest ++ l2)) :: k) :: cs) w') :=
      step_lone_go (by rw [hg];simp [stepG.apply,hr,Frame.at])
     obtain ⟨a',w₃,hq,harr⟩:=ih _ _ hR b cs hb
     refine ⟨a',w₃,hq,.head henter (Steps.trans ?_ harr)⟩
     rw [← hfin];exact hsteps
    ·exact nomatch h.1
    ·exact h.elim
   ·simp only [hw,if_false,Bool.false_eq_true] at h
    refine abn (fun b cs _=>?_) (ih _ _ h)
    have hs:=step_op_skip (P:=P) (b:=b) (a:=a) (k:=k) (cs:=cs) (w:=w) (ops:=ops) (i:=i) (rest:=rest ++ l2)
     (by simp [ho];simpa using hw)
    simp only [ho,Option.bind_some] at hs
    exact .one hs
theorem abE {ops:Array Oper} {Q:Exit→Act→World→Prop} (l:List Oper) (m:Nat) (h:∀ j,j < l.length→l[j]? = ops[m+j]?):wpOps P ops Q (List.range' m l.length)=wpList P ops Q l:=by
 induction l generalizing m with
 | nil=>funext a w;simp [wpOps,wpList]
 | cons o l ih =>
  have h0:ops[m]? = some o:=by simpa using (h 0 (by simp)).symm
  have ih':=ih (m+1) (fun j hj=>by have:=h (j+1) (by simpa using hj);simpa [Nat.add_assoc,Nat.add_comm 1 j] using this)
  funext a w
  simp only [List.length_cons,List.range'_succ,wpOps,h0,wpList,ih']
end
end Go.Tm
namespace Go.Proofs.YtjjmefieegcddaaDoor
open Go.RowKit Go.Wg Go.Mm Go.Wk
open Go Go.Sr Go.Ph Go.Tm Go.Conc
variable {w:World} {V:View} {f0:FuncId} {R:Ending→World→Prop} {todo k0:List Item} {a:Act}
structure RB (f0:FuncId) (R:Ending→World→Prop) (todo:List Item) (a:Act) (w:World):Prop where
 df:a.defers=[]
 run:∀ (b:Frame) (cs:List Frame),b.fn=f0→b.kind=.normal→∀ τ d,ay OC (w.re τ d) →
  kU Tryd.prog (G (b.at a todo) cs) (w.re τ d) fun a' w'=>∃ e fr,a'=G fr cs∧R e w'∧fr.fn=f0∧fr.leaving Tryd.prog w' e∧e≠.outgrown∧ay OC w'
theorem RB.re (h:RB f0 R todo a w) (τ:Nat→Question→Nat) (d:Nat):RB f0 R todo a (w.re τ d):=⟨h.df,fun b cs h1 h2 τ' d' hh=>h.run b cs h1 h2 τ' d' hh⟩
theorem ado (tgt:List Item) (hit:todo.all qy=true) (hd:a.defers=[]) (h:∀ τ d,fA Tryd.prog tgt (RB f0 R tgt) todo a (w.re τ d)):RB f0 R todo a w :=
 ⟨hd,fun b cs hbf hbk τ d hh=>vI hbf hbk hit (fun x hx=>by rw [hd] at hx;cases hx) hh (S:=RB f0 R tgt) (fun a w τ d h=>h.re τ d) (fun τ' d'=>h τ' d') fun a' w' hS hh'=>hS.run b cs hbf hbk w'.tape w'.drawn hh'⟩
theorem ac7 {N:FuncId} {args:Array Value} {R':Ending→World→Prop} {ops:Array Oper} {l:List Nat} {i:Nat} {o:Oper} (hd:a.defers=[]) (ho:ops[i]? = some o) (hw:Region.wanted o (yielded ops a.tmps)=true) (hok':qj true o.op=true)
  (hr:∀ w,(execOp a.eval o).run Tryd.prog w=.ok (.enter N args) w) (hpan:∀ ch w,¬ R' (.panicked ch) w) (hc:∀ τ d,ay OC (w.re τ d)→kL Tryd.prog N args (w.re τ d) R')
  (hk:∀ v w',R' (.returned v) w'→RB f0 R (.inRegion ops l :: k0) (a.put o.dst v) w'):RB f0 R (.inRegion ops (i :: l) :: k0) a w :=
 ⟨hd,fun b cs hbf hbk τ d hh=>Oh (hc τ d hh) hh hbk ho hw hok' hr hpan fun v w' hv hh'=>(hk v w' hv).run b cs hbf hbk w'.tape w'.drawn hh'⟩
theorem abY {f0:FuncId} {R:Ending→World→Prop} {fn:Func} {B:Code} {args:Array Value} {m:Nat} (hf:Tryd.prog.funcs[f0]? = some fn) (hb:fn.body=some B) (hm:fn.ntmps - args.size=m) (hh:ay OC w)
  (h:RB f0 R [.code B] { tmps:=args ++ Array.replicate m undef,defers:=[] } w):kL Tryd.prog f0 args w R :=
 jD hf hb fun cs b hbf hbk _=>by
  rw [hm]
  exact h.run b cs hbf hbk w.tape w.drawn hh
theorem adh {fn:Func} {v:Value} (hf:Tryd.prog.funcs[f0]? = some fn) (hd:a.defers=[]) (hr:∀ w,(results fn a.tmps).run Tryd.prog w=.ok v w) (hR:∀ τ d,R (.returned v) (w.re τ d)) (hins:Ins R):RB f0 R (.code .ret :: k0) a w :=
 ⟨hd,fun b cs hbf hbk τ d hh=>Vo hbf hbk hd hf hh (hr _) (hR τ d) hins⟩
end Go.Proofs.YtjjmefieegcddaaDoor
namespace Go.Wg
open Go Go.Mm Go.Proofs.YtjjmefieegcddaaDoor
structure Holds (g:Gr) (P:Nat→Int→Prop):Prop where
 wf:g.WF
 has:∀ n,g.has.testBit n=true↔∃ y,P n y
 lo:∀ n,g.has.testBit n=true→P n (g.get n).1
 hi:∀ n,g.has.testBit n=true→P n (g.get n).2
 all:∀ n y,P n y→(g.get n).1≤y∧y≤(g.get n).2
theorem acM {x n:Nat} (h1:x < 2199023255552) (h:x.testBit n=true):n≤40:=by
 rcases Nat.lt_or_ge n 41 with h2 | h2
 ·omega
 ·have:x.testBit n=false:=Nat.testBit_lt_two_pow (Nat.lt_of_lt_of_le h1 (by
   rw [show (2199023255552:Nat)=2 ^ 41 by decide]
   exact Nat.pow_le_pow_right (by decide) h2))
  rw [this] at h;cases h
theorem Holds.small {g:Gr} {P:Nat→Int→Prop} (h:Holds g P) {n:Nat} {y:Int} (hp:P n y):n≤40:=acM h.wf.small ((h.has n).2 ⟨y,hp⟩)
theorem Holds.congr {g:Gr} {P Q:Nat→Int→Prop} (h:Holds g P) (e:∀ n y,P n y↔Q n y):Holds g Q:=by
 have:P=Q:=funext fun n=>funext fun y=>propext (e n y)
 rwa [← this]
theorem abS (g:Gr) (n:Nat) (v:Int × Int) (m:Nat):(g.add n v).has.testBit m=(g.has.testBit m || decide (n=m)):=by
 show (g.has ||| 2 ^ n).testBit m=_
 rw [Nat.testBit_or,Nat.testBit_two_pow]
theorem add_get (g:Gr) (hg:g.WF) {n:Nat} (hn:n < 41) (v:Int × Int) (m:Nat):(g.add n v).get m=if n=m then (if g.has.testBit n then sO (g.get n) v else v) else g.get m:=by
 have hl:=hg.len
 show (g.at_.set n _).getD m (0,0)=_
 rw [fC _ _ _ _ _ (by omega)]
 rfl
theorem Holds.add {g:Gr} {P:Nat→Int→Prop} (h:Holds g P) {n:Nat} (hn:n < 41) {Q:Int→Prop} {v:Int × Int} (h1:Q v.1) (h2:Q v.2) (ha:∀ y,Q y→v.1≤y∧y≤v.2):Holds (g.add n v) fun m y=>P m y∨(m=n∧Q y):=by
 have hv:=ha _ h1
 refine ⟨h.wf.add hn v,fun m=>?_,fun m hm=>?_,fun m hm=>?_,fun m y hy=>?_⟩
 ·rw [abS,Bool.or_eq_true,decide_eq_true_eq,h.has]
  constructor
  ·rintro (⟨y,hy⟩ | rfl)
   ·exact ⟨y,.inl hy⟩
   ·exact ⟨_,.inr ⟨rfl,h1⟩⟩
  ·rintro ⟨y,hy | ⟨rfl,_⟩⟩
   ·exact .inl ⟨y,hy⟩
   ·exact .inr rfl
 ·rw [abS,Bool.or_eq_true,decide_eq_true_eq] at hm
  rw [add_get g h.wf hn]
  by_cases e:n=m
  ·subst e
   rw [if_pos rfl]
   split
   ·rename_i hb
    show P n (min (g.get n).1 v.1)∨(n=n∧Q (min (g.get n).1 v.1))
    rcases Int.le_total (g.get n).1 v.1 with h3 | h3
    ·rw [Int.min_eq_left h3];exact .inl (h.lo n hb)
    ·rw [Int.min_eq_right h3];exact .inr ⟨rfl,h1⟩
   ·exact .inr ⟨rfl,h1⟩
  ·rw [if_neg e]
   exact .inl (h.lo m (hm.resolve_right e))
 ·rw [abS,Bool.or_eq_true,decide_eq_true_eq] at hm
  rw [add_get g h.wf hn]
  by_cases e:n=m
  ·subst e
   rw [if_pos rfl]
   split
   ·rename_i hb
    show P n (max (g.get n).2 v.2)∨(n=n∧Q (max (g.get n).2 v.2))
    rcases Int.le_total (g.get n).2 v.2 with h3 | h3
    ·rw [Int.max_eq_right h3];exact .inr ⟨rfl,h2⟩
    ·rw [Int.max_eq_left h3];exact .inl (h.hi n hb)
   ·exact .inr ⟨rfl,h2⟩
  ·rw [if_neg e]
   exact .inl (h.hi m (hm.resolve_right e))
 ·rw [add_get g h.wf hn]
  by_cases e:n=m
  ·subst e
   rw [if_pos rfl]
   split
   ·show min _ _≤y∧y≤max _ _
    rcases hy with hy | ⟨_,hy⟩
    ·have:=h.all n y hy;omega
    ·have:=ha y hy;omega
   ·rename_i hb
    rcases hy with hy | ⟨_,hy⟩
    ·exact absurd ((h.has n).2 ⟨y,hy⟩) hb
    ·exact ha y hy
  ·rw [if_neg e]
   rcases hy with hy | ⟨rfl,_⟩
   ·exact h.all m y hy
   ·exact absurd rfl e
structure Least (S:Int→Prop) (r:Int × Int):Prop where
 lo:S r.1
 hi:S r.2
 all:∀ y,S y→r.1≤y∧y≤r.2
theorem Least.sub {S S':Int→Prop} {r r':Int × Int} (h:Least S r) (h':Least S' r') (e:∀ y,S y→S' y):r'.1≤r.1∧r.2≤r'.2 :=
 ⟨(h'.all _ (e _ h.lo)).1,(h'.all _ (e _ h.hi)).2⟩
end Go.Wg
namespace Go.Proofs.YtjjmefieegcddaaDoor
open Go.RowKit Go.Wg Go.Mm Go.Wk
open Go Go.Sr Go.Ph Go.Tm Go.Conc
variable {w:World} {V:View} {w0:World} {L:List dF} {X:List Nat} {f0:FuncId} {R:Ending→World→Prop} {k0:List Item} {a:Act}
theorem adi {k:Wk} (hok:k.Ok):abV k=(can k (aN k aC),0):=by
 unfold abV
 rw [if_pos (G7 hok [] (fun n hn=>nomatch hn))]
theorem ac3 {N:FuncId} {fn:Func} {y:Array Operand} {ats:Array TypeId} {args:Array Value} {v:Value} {ops:Array Oper} {l:List Nat} {i:Nat} {o:Oper} (d:Nat) (hS:St w0 X V L w) (hf:Tryd.prog.funcs[N]? = some fn) (hb:(fn.name == "runtime.NumGoroutine")=false) (hb2:fn.body.isNone=false) (hc:∀ τ d,ay OC (w.re τ d)→kL Tryd.prog N args (w.re τ d) fun e w'=>e=.returned v∧Kp (w.re τ d) w')
  (hd:a.defers=[]) (ho:ops[i]? = some o) (hdst:o.dst=some d) (hw:Region.wanted o (yielded ops a.tmps)=true) (hop:o.op=.call { callee:=.value (.func N),args:=y,argTypes:=ats }) (hy:y.toList.map a.eval=args.toList)
  (h:∀ w' a',St w0 X V L w'→a.put (some d) v=a'→RB f0 R (.inRegion ops l :: k0) a' w'):RB f0 R (.inRegion ops (i :: l) :: k0) a w:=by
 refine ac7 (N:=N) (args:=args) (R':=fun e w'=>e=.returned v∧Kp w w') hd ho hw (by rw [hop];rfl) (fun w1=>?_) (fun ch w1 h=>nomatch h.1) (fun τ d hh=>(hc τ d hh).mono fun e w1 h=>⟨h.1,uq h.2⟩) ?_
 ·rw [run_call_body hop hf hb hb2,show y.map a.eval=args from Array.ext' (by rw [Array.toList_map,hy])]
 rintro v' w1 ⟨hv,hk⟩
 cases hv
 rw [hdst]
 exact h _ _ (hS.kp hk) rfl
theorem acy {y:Array Operand} {ats:Array TypeId} {ops:Array Oper} {l:List Nat} {i:Nat} {o:Oper} (d:Nat) (hS:St w0 X V L w) (hB:Bs V)
  (hd:a.defers=[]) (ho:ops[i]? = some o) (hdst:o.dst=some d) (hw:Region.wanted o (yielded ops a.tmps)=true) (hop:o.op=.call { callee:=.value (.func 21),args:=y,argTypes:=ats }) (hy:y.toList.map a.eval=[])
  (h:∀ w' a',St w0 X V L w'→a.put (some d) (.bool true)=a'→RB f0 R (.inRegion ops l :: k0) a' w'):RB f0 R (.inRegion ops (i :: l) :: k0) a w :=
 ac3 d hS Tryd.func21 (by kernel_rfl) (by kernel_rfl) (fun τ d hh=>TB hB (hS.re1 τ d).view hh) hd ho hdst hw hop hy h
theorem ac2 {fn:Func} (hf:Tryd.prog.funcs[f0]? = some fn) (hS:St w0 [] V L w) (hd:a.defers=[]) (hr:∀ w,(results fn a.tmps).run Tryd.prog w=.ok (.bool true) w):RB f0 (fun r w'=>r=.returned (.bool true)∧Kp w0 w') (.code .ret :: k0) a w :=
 adh hf hd hr (fun τ d=>⟨rfl,adC hS.bM τ d⟩) xM
theorem abr {tgt todo:List Item} (hit:todo.all qy=true) (hd:a.defers=[]) (hS:St w0 X V L w) (h:∀ w',St w0 X V L w'→fA Tryd.prog tgt (RB f0 R tgt) todo a w'):RB f0 R todo a w :=
 ado tgt hit hd fun τ d=>h _ (hS.re1 τ d)
theorem abP {tgt k:List Item} {S:Act→World→Prop} (n:Nat) {l:List Oper} (hn:n≤l.length) (hw:wpList Tryd.prog l.toArray (fun e a' w'=>e=.normal∧fA Tryd.prog tgt S (.inRegion l.toArray (List.range' n (l.length - n)) :: k) a' w') (l.take n) a w) :
  fA Tryd.prog tgt S (.inRegion l.toArray (List.range l.toArray.size) :: k) a w:=by
 have e:List.range l.toArray.size=List.range' 0 (l.take n).length ++ List.range' n (l.length - n):=by
  rw [List.range_eq_range',List.length_take,Nat.min_eq_left hn]
  have:=List.range'_append (s:=0) (m:=n) (n:=l.length - n) (step:=1)
  rw [Nat.zero_add,Nat.one_mul] at this
  rw [this]
  congr 1
  show l.length=_
  omega
 rw [e]
 refine abT _ a w ?_
 rw [abE (l.take n) 0 fun j hj=>?_]
 ·exact hw
 ·rw [List.length_take] at hj
  rw [Nat.zero_add,List.getElem?_take,if_pos (by omega)]
  simp
theorem abe {tgt k:List Item} {S:Act→World→Prop} (n:Nat) {l:List Oper} {m:List Nat} (hm:m=List.range' n (l.length - n)) (hw:wpList Tryd.prog l.toArray (fun e a' w'=>e=.normal∧fA Tryd.prog tgt S (.inRegion l.toArray [] :: k) a' w') (l.drop n) a w):fA Tryd.prog tgt S (.inRegion l.toArray m :: k) a w:=by
 subst hm
 have e:List.range' n (l.length - n)=List.range' n (l.drop n).length ++ []:=by rw [List.length_drop,List.append_nil]
 rw [e]
 refine abT _ a w ?_
 rw [abE (l.drop n) n fun j hj=>?_]
 ·exact hw
 ·rw [List.getElem?_drop]
  simp
end Go.Proofs.YtjjmefieegcddaaDoor
namespace Go.Wg
open Go Go.Mm Go.Proofs.YtjjmefieegcddaaDoor
theorem ade {k:Wk} (hok:k.Ok) {r:je} (hr:r∈k.rdg):r.Ok k.n:=by
 obtain ⟨j,hj,hjr⟩:=List.getElem_of_mem hr
 have hro:=hok.rdg j hj
 have e:k.rdg.getD j default=r:=by simp [List.getD_eq_getElem?_getD,List.getElem?_eq_getElem hj,hjr]
 rwa [e] at hro
end Go.Wg
namespace Go.Wg
open Go Go.Mm Go.Proofs.YtjjmefieegcddaaDoor
def af6 (sl:List Int) (r:je):Bool:=!sl.contains r.scale
def afX (k:Wk) (sl:List Int) (q:Nat):List je:=(k.rdg.take q).filter (af6 sl)
def Wk.dis (k:Wk) (sl:List Int):Wk:=⟨k.ves,k.rdg.filter (af6 sl)⟩
theorem agy (k:Wk) (sl:List Int) {q:Nat} (hq:q < k.rdg.length):afX k sl (q+1)=if sl.contains (k.rdg.getD q default).scale=true then afX k sl q else afX k sl q ++ [k.rdg.getD q default]:=by
 unfold afX
 rw [List.take_add_one,List.getElem?_eq_getElem hq,List.filter_append]
 have e:k.rdg.getD q default=k.rdg[q]:=by rw [List.getD_eq_getElem?_getD,List.getElem?_eq_getElem hq];rfl
 rw [e]
 cases h:sl.contains (k.rdg[q]).scale
 ·have:af6 sl k.rdg[q]=true:=by unfold af6;rw [h];rfl
  simp [this]
 ·have:af6 sl k.rdg[q]=false:=by unfold af6;rw [h];rfl
  simp [this]
theorem agR (k:Wk) (sl:List Int):afX k sl k.rdg.length=(k.dis sl).rdg:=by
 unfold afX
 rw [List.take_length]
 rfl
theorem agS (k:Wk) (sl:List Int) (q:Nat):(afX k sl q).length≤q:=by
 unfold afX
 have h:=List.length_filter_le (af6 sl) (k.rdg.take q)
 rw [List.length_take] at h
 omega
def agl (sl:List Int) (sc:Int) (j:Nat):Bool:=(sl.take j).contains sc
theorem agM (sl:List Int) (sc:Int) {j:Nat} (hj:j < sl.length):agl sl sc (j+1)=(agl sl sc j || (sl.getD j 0 == sc)):=by
 unfold agl
 rw [List.take_add_one,List.getElem?_eq_getElem hj]
 rw [Bool.eq_iff_iff]
 simp only [List.contains_iff_mem,Bool.or_eq_true,beq_iff_eq,List.mem_append,Option.toList,List.mem_singleton,List.getD_eq_getElem?_getD,List.getElem?_eq_getElem hj,Option.getD_some]
 exact or_congr Iff.rfl eq_comm
theorem ag1 {k:Wk} (hok:k.Ok) (sl:List Int):(k.dis sl).Ok:=by
 have hl:(k.dis sl).rdg.length≤k.rdg.length:=List.length_filter_le _ _
 refine ⟨hok.pos,hok.le,hok.ves,Nat.le_trans hl hok.rdl,fun q hq=>?_⟩
 have hm:(k.dis sl).rdg.getD q default∈(k.dis sl).rdg:=by
  rw [List.getD_eq_getElem?_getD,List.getElem?_eq_getElem hq]
  exact List.getElem_mem hq
 exact ade hok (List.mem_filter.1 hm).1
theorem ag8 {k:Wk} {sl:List Int} {m:Nat} (h:∀ r∈k.rdg,sl.contains r.scale=scaleB m r):aN (k.dis sl) aC=aN k (scaleB m):=by
 have hA:∀ i,lS (k.dis sl) i=lS k i:=Vl rfl
 have key:∀ (l:List je) (s:SS),(∀ r∈l,sl.contains r.scale=scaleB m r)→(l.filter (af6 sl)).foldl (lU aC) s=l.foldl (lU (scaleB m)) s:=fun l=>by
  induction l with
  | nil=>intro s _;rfl
  | cons r l ih =>
   intro s hl
   have h1:=hl r (by simp)
   have h2:=fun s=>ih s fun x hx=>hl x (by simp [hx])
   cases hs:scaleB m r
   ·rw [hs] at h1
    have:af6 sl r=true:=by unfold af6;rw [h1];rfl
    rw [List.filter_cons_of_pos this,List.foldl_cons,List.foldl_cons,h2]
    unfold lU
    rw [hs]
    rfl
   ·rw [hs] at h1
    have:¬ af6 sl r=true:=by unfold af6;rw [h1];decide
    rw [List.filter_cons_of_neg this,List.foldl_cons,h2]
    unfold lU
    rw [hs]
    rfl
 unfold aN
 rw [hA]
 exact key k.rdg _ h
end Go.Wg
namespace Go.Proofs.YtjjmefieegcddaaDoor
open Go.RowKit Go.Wg Go.Mm
variable {w:World} {V:View}
theorem af4 {vv rv sv:Value} {k:Wk} {sl:List Int} (hk:iJ V vv rv k) (hs:VI V sv sl) (hsl:sl.length≤100) (hV:V.In w) :
  Calls Tryd.prog 67 #[.agg #[vv,rv],sv] w fun e w'=>∃ rv',e=.returned (.agg #[vv,rv'])∧St w [] V [.row rv' 59 4 (k.dis sl).rdg.length (fH (k.dis sl).rdg)] w':=by
 obtain ⟨va,vcap,rfl,hvc,hvm,hve⟩:=hk.ves.is
 obtain ⟨ra,rcap,rfl,hrc,hrm,hre⟩:=hk.rdg.is
 obtain ⟨sa,scap,rfl,hsc,hsm,hse⟩:=hs.is
 have hrn:=hk.small.2
 have hS:=St.start w V hV
 have hal:=agR k sl
 have hz:afX k sl 0=[]:=rfl
 have hsu:=fun q hq=>agy k sl (q:=q) hq
 have hdl:=agS k sl
 rw [← hal]
 generalize afX k sl=D at hz hsu hdl ⊢
 clear hk hve hs hal
 replace hsu:=aj hsu;replace hdl:=aj hdl
 go_enter Tryd.func67,Tryd.ntmps67
 go_wp2_with (first | ((with_reducible refine gB ?_);refine iK 2 rfl hS rfl rfl rfl ?_;refine ⟨_,za,?_⟩;clear hS;(try clear w');intro b2;refine zF ?_;intro w' hS) | ((with_reducible refine gA ?_);refine aT 4 rfl hS rfl rfl ?_;clear hS;(try clear w');intro b4;refine zF ?_;intro w' hS))
 replace hS:=hS.nilRow 59 4
 go_loopw [5,6] (fun lv iv wr=>∃ q:Nat,q≤k.rdg.length∧iv=.int .i64 (q:Int)∧lv.oneCell'=true∧St w [] V [.row lv 59 4 (D q).length (fH (D q)),.blk b4 25 [.slice none 0 0,.slice none 0 0],.blk b2 25 [.slice va k.n vcap,.slice ra k.rdg.length rcap]] wr) (fun _ iv _=>k.rdg.length - (intOf iv).toNat)
 case atStart=>exact ⟨0,by omega,rfl,rfl,by rw [hz];exact hS⟩
 case round =>
  clear hS
  obtain ⟨q,hq,rfl,hone,hS⟩:=hrel
  have h0:(0:Int)≤q:=by omega
  by_cases hlt:q < k.rdg.length
  ·have hlt':(q:Int) < k.rdg.length:=by omega
   obtain ⟨rg,rx,rfl,hrr⟩:=hre (by omega)
   have hcell:=hrr q hlt
   have hcl:(k.rdg.getD q default).cells.length=4:=rfl
   have hsq:=hsu.out q hlt
   have hdq:=hdl.out q
   unfold je.cells at hcell hcl
   have hrE:k.rdg.getD q default=⟨(k.rdg.getD q default).vessel,(k.rdg.getD q default).scale,(k.rdg.getD q default).shown,(k.rdg.getD q default).err⟩:=rfl
   have hsq':D (q+1)=if agl sl (k.rdg.getD q default).scale sl.length=true then D q else D q ++ [⟨(k.rdg.getD q default).vessel,(k.rdg.getD q default).scale,(k.rdg.getD q default).shown,(k.rdg.getD q default).err⟩]:=by
    have e:agl sl (k.rdg.getD q default).scale sl.length=sl.contains (k.rdg.getD q default).scale:=by unfold agl;rw [List.take_length]
    rw [e]
    exact hsq
   generalize (k.rdg.getD q default).vessel=f at hcell hcl hsq'
   generalize (k.rdg.getD q default).scale=sc at hcell hcl hsq'
   generalize (k.rdg.getD q default).shown=sh at hcell hcl hsq'
   generalize (k.rdg.getD q default).err=er at hcell hcl hsq'
   have hcs:=hcell 1 _ rfl
   have hin:=fun j hj=>agM sl sc (j:=j) hj
   have hin0:agl sl sc 0=false:=rfl
   generalize agl sl sc=I at hin hin0 hsq'
   generalize hDq:D q=O at hS hdq hsq'
   have hol:(fH O).length=O.length * 4:=by rw [fH,jK _ (fun _=>rfl)]
   clear hsq hrE hrr hre
   replace hin:=aj hin;replace hsq':=aj hsq';replace hDq:=aj hDq
   go_wp2_with (((with_reducible refine gL ?_);refine gY hS rfl rfl rfl ?_);refine ⟨_,zd,?_⟩;clear hS;(try clear w');refine zF ?_;intro w' hS)
   go_loopw [7,8] (fun bv jv wr=>∃ j:Nat,j≤sl.length∧jv=.int .i64 (j:Int)∧bv=.bool (I j)∧St w [] V [.row u5 59 4 O.length (fH O),.blk b4 25 [.slice none 0 0,.slice none 0 0],.blk b2 25 [.slice va k.n vcap,.slice (some ⟨rg,rx,none⟩) k.rdg.length rcap]] wr) (fun _ jv _=>sl.length - (intOf jv).toNat)
   case atStart=>exact ⟨0,by omega,rfl,by rw [hin0],hS⟩
   case round =>
    clear hS
    obtain ⟨j,hj,rfl,rfl,hS⟩:=hrel
    have h0j:(0:Int)≤j:=by omega
    by_cases hjl:j < sl.length
    ·have hjl':(j:Int) < sl.length:=by omega
     obtain ⟨sg,so,rfl,hsr⟩:=hse (by omega)
     have hcj:=hsr j hjl 0 _ rfl
     simp only [Nat.mul_one,Nat.add_zero] at hcj
     have hnj:=hin.out j hjl
     generalize sl.getD j 0=y at hcj hnj
     clear hsr hse
     cases hIj:I j with
     | true =>
      rw [hIj,Bool.true_or] at hnj
      replace hnj:=aj hnj;replace hIj:=aj hIj
      go_wp2_with (fail)
      (refine bF (S:=(St w [] V [.row u5 59 4 O.length (fH O),.blk b4 25 [.slice none 0 0,.slice none 0 0],.blk b2 25 [.slice va k.n vcap,.slice (some ⟨rg,rx,none⟩) k.rdg.length rcap]])) [false,false,false,false,false,false,false,false,false,false,false,false,false,false,false] rfl (by kernel_rfl) ?_;replace hS:=St.eY hS;(iterate 2 ((first | refine hxm 0 rfl ?_ | refine hxm 1 rfl ?_);refine zH ?_));(refine aaj 2 rfl (by kernel_rfl) (by kernel_rfl) (by kernel_rfl) (fun _ _ _ h=>h) rfl (St.aG hS) ?_;refine zH ?_);(refine aaj 3 rfl (by kernel_rfl) (by kernel_rfl) (by kernel_rfl) (fun _ _ _ h=>h) rfl (St.aG hS) ?_;refine zH ?_);(refine aaj 4 rfl (by kernel_rfl) (by kernel_rfl) (by kernel_rfl) (fun _ _ _ h=>h) rfl (St.aG hS) ?_;refine zH ?_);(refine aaj 5 rfl (by kernel_rfl) (by kernel_rfl) (by kernel_rfl) (fun _ _ _ h=>h) rfl (St.aG hS) ?_;refine zH ?_);(refine aaj 6 rfl (by kernel_rfl) (by kernel_rfl) (by kernel_rfl) (fun _ _ _ h=>h) rfl (St.aG hS) ?_;refine zH ?_);(refine aaj 7 rfl (by kernel_rfl) (by kernel_rfl) (by kernel_rfl) (fun _ _ _ h=>h) rfl (St.aG hS) ?_;refine zH ?_);(refine aaj 8 rfl (by kernel_rfl) (by kernel_rfl) (by kernel_rfl) (fun _ _ _ h=>h) rfl (St.aG hS) ?_;refine zH ?_);(refine aaj 9 rfl (by kernel_rfl) (by kernel_rfl) (by kernel_rfl) (fun _ _ _ h=>h) rfl (St.aG hS) ?_;refine zH ?_);(refine aaj 10 rfl (by kernel_rfl) (by kernel_rfl) (by kernel_rfl) (fun _ _ _ h=>h) rfl (St.aG hS) ?_;refine zH ?_);(refine aaj 11 rfl (by kernel_rfl) (by kernel_rfl) (by kernel_rfl) (fun _ _ _ h=>h) rfl (St.aG hS) ?_;refine zH ?_);(refine aaj 12 rfl (by kernel_rfl) (by kernel_rfl) (by kernel_rfl) (fun _ _ _ h=>h) rfl (St.aG hS) ?_;refine zH ?_);(iterate 2 ((first | refine hxp 13 rfl ?_ | refine hxp 14 rfl ?_);refine zH ?_));refine wpAnyH_done (by kernel_rfl) ?_ _)
      go_wp2_with (fail)
      go_roundw
      case rel=>exact ⟨j+1,by omega,by go_num,by rw [hnj.out],hS⟩
      case measure=>simp only [intOf];omega
     | false =>
      rw [hIj,Bool.false_or] at hnj
      replace hnj:=aj hnj;replace hIj:=aj hIj
      go_wp2_with (fail)
      (refine bF (S:=(St w [] V [.row u5 59 4 O.length (fH O),.blk b4 25 [.slice none 0 0,.slice none 0 0],.blk b2 25 [.slice va k.n vcap,.slice (some ⟨rg,rx,none⟩) k.rdg.length rcap]])) [false,false,false,false,false,false,false,false,false,false,false,false,false,false,false] rfl (by kernel_rfl) ?_;replace hS:=St.eY hS;(iterate 15 ((first | refine hxm 0 rfl ?_ | refine hxm 1 rfl ?_ | refine hxm 2 rfl ?_ | refine hxm 3 rfl ?_ | refine hxp 4 rfl ?_ | refine hxc 5 rfl ?_ | refine hxp 6 rfl ?_ | refine hxa 7 rfl ?_ | refine hxm 8 rfl ?_ | refine hxp 9 rfl ?_ | refine hxp 10 rfl ?_ | refine hxc 11 rfl ?_ | refine hxp 12 rfl ?_ | refine hxp 13 rfl ?_ | refine hxp 14 rfl ?_);refine zH ?_));refine wpAnyH_done (by kernel_rfl) ?_ _)
      go_wp2_with (fail)
      go_roundw
      case rel=>exact ⟨j+1,by omega,by go_num,by rw [hnj.out],hS⟩
      case measure=>simp only [intOf];omega
    ·obtain rfl:j=sl.length:=by omega
     cases hIj:I sl.length with
     | true =>
      have hsq2:=hsq'.out
      rw [hIj,if_pos rfl] at hsq2
      replace hsq2:=aj hsq2;replace hIj:=aj hIj
      go_wp2_with (fail)
      go_roundw
      case rel=>exact ⟨q+1,by omega,by go_num,hone,by rw [hsq2.out];exact hS⟩
      case measure=>simp only [intOf];omega
     | false =>
      have hsq2:=hsq'.out
      rw [hIj,if_neg (by decide)] at hsq2
      replace hsq2:=aj hsq2;replace hIj:=aj hIj
      go_wp2_with (first | (((with_reducible refine gL ?_);first | refine gY hS rfl rfl rfl ?_ | refine zQ hS rfl rfl rfl ?_);refine ⟨_,zd,?_⟩;clear hS;(try clear w');refine zF ?_;intro w' hS) | ((with_reducible refine uP ?_);refine zU hS rfl (oP (a:=⟨_,_,_,_⟩) rfl rfl) ?_;clear hS;(try clear w');intro _ a' hp;(try simp only [fr] at hp);subst hp;intro w' hS) | ((with_reducible refine Q5 ?_);refine Ui rfl rfl ?_;refine ⟨_,_,_,_,by exact rfl,by exact rfl,?_⟩;refine eH hS zd ?_;clear hS;(try clear w');intro va w' hS;refine zF ?_;(try simp only [sE] at hS);have hva:=dY hS va))
      go_roundw
      case rel =>
       rw [Np] at hS
       refine ⟨q+1,by omega,by go_num,hva,?_⟩
       rw [hsq2.out,List.length_append]
       exact hS.aG
      case measure=>simp only [intOf];omega
  ·obtain rfl:q=k.rdg.length:=by omega
   have hlv:=dY hS u5
   have hone2:∀ u∈[Value.slice va k.n vcap,u5],u.oneCell'=true:=qB rfl hlv
   go_wp2_with ((first | ((with_reducible refine gL ?_);first | refine gY hS rfl rfl rfl ?_ | refine lW hS rfl rfl rfl ?_) | ((with_reducible refine gS ?_);first | refine pX hS rfl rfl rfl ?_ | refine bQ hS rfl rfl rfl ?_));refine ⟨_,zd,?_⟩;clear hS;(try clear w');refine zF ?_;intro w' hS;(try simp only [sE] at hS))
   ((try simp only [Exit.inBlock,Exit.then]);(try refine aB ?_);refine bK ⟨_,by exact bH (r1:=.cell 4 25) (by kernel_rfl) (by exact rX hS rfl zd),?_⟩ rfl)
   exact ⟨_,rfl,hS.aG⟩
end Go.Proofs.YtjjmefieegcddaaDoor
namespace Go.Wg
open Go Go.Mm Go.Proofs.YtjjmefieegcddaaDoor
end Go.Wg
namespace Go.Proofs.YtjjmefieegcddaaDoor
open Go.RowKit Go.Wg Go.Mm Go.Wk
open Go Go.Sr Go.Ph Go.Tm Go.Conc
variable {w w0:World} {V:View}
end Go.Proofs.YtjjmefieegcddaaDoor
namespace Go.Wg
open Go Go.Mm Go.Proofs.YtjjmefieegcddaaDoor
def msk:Nat→List Nat
 | 0=>[0]
 | 1=>[1,2,4]
 | 2=>[3,5,6]
 | _=>[7]
def pre (kk i:Nat):List Nat:=(List.range kk).flatMap msk ++ (msk kk).take i
theorem ag6:∀ kk,kk < 4→chL kk kk=(msk kk).map afK:=by decide
theorem ag7:∀ kk,kk < 4→pre kk (msk kk).length=pre (kk+1) 0:=by decide
theorem agW:∀ kk,kk < 4→∀ i,i < (msk kk).length→pre kk (i+1)=pre kk i ++ [(msk kk).getD i 0]:=by decide
theorem ag9:pre 4 0=masks:=by decide
theorem agX:∀ kk,kk < 4→∀ i,i < (msk kk).length→masks=pre kk i ++ (msk kk).getD i 0 :: masks.drop ((pre kk i).length+1):=by decide
theorem agP:∀ kk,kk < 4→(msk kk).length≤3∧∀ i,i < (msk kk).length→(afK ((msk kk).getD i 0)).length≤3:=by decide
theorem agZ (m:Nat) {s:Int} (h0:0≤s) (h2:s≤2):(afK m).contains s=m.testBit s.toNat:=by
 unfold afK
 rw [Bool.eq_iff_iff,List.contains_iff_mem,List.mem_map]
 constructor
 ·rintro ⟨i,hi,rfl⟩
  rw [Int.toNat_natCast]
  exact (List.mem_filter.1 hi).2
 ·intro h
  exact ⟨s.toNat,List.mem_filter.2 ⟨List.mem_range.2 (by omega),h⟩,by omega⟩
theorem agL {k:Wk} (hok:k.Ok) (m:Nat):abV (k.dis (afK m))=(can k (aN k (scaleB m)),0):=by
 rw [adi (ag1 hok _)]
 have e:aN (k.dis (afK m)) aC=aN k (scaleB m):=ag8 fun r hr=>by
  obtain ⟨_,_,h3,h4,_⟩:=ade hok hr
  exact agZ m h3 h4
 rw [e]
 have:can (k.dis (afK m)) (aN k (scaleB m))=can k (aN k (scaleB m)):=abQ (k:=k) (k':=k.dis (afK m)) rfl (fun _=>rfl) _
 rw [this]
theorem agz {k:Wk} (hok:k.Ok) {kk i:Nat} (hk:kk < 4) (hi:i < (msk kk).length) (hno:∀ m∈pre kk i,can k (aN k (scaleB m))=false) (h:can k (aN k (scaleB ((msk kk).getD i 0)))=true):ru k=(afK ((msk kk).getD i 0),0):=by
 unfold ru
 rw [if_pos (G7 hok [] (fun n hn=>nomatch hn)),agX kk hk i hi,List.find?_append]
 have e:(pre kk i).find? (fun m=>can k (aN k (scaleB m)))=none:=by
  rw [List.find?_eq_none]
  intro m hm
  rw [hno m hm]
  decide
 rw [e,List.find?_cons_of_pos (p:=fun m=>can k (aN k (scaleB m))) h]
 rfl
theorem agv {k:Wk} (hok:k.Ok) (hno:∀ m∈masks,can k (aN k (scaleB m))=false):ru k=([],11):=by
 unfold ru
 have e:masks.find? (fun m=>can k (aN k (scaleB m)))=none:=by
  rw [List.find?_eq_none]
  intro m hm
  rw [hno m hm]
  decide
 rw [if_pos (G7 hok [] (fun n hn=>nomatch hn)),e]
end Go.Wg
namespace Go.Proofs.YtjjmefieegcddaaDoor
open Go.RowKit Go.Wg Go.Mm Go.Wk
open Go Go.Sr Go.Ph Go.Tm Go.Conc
variable {w w0:World} {V:View}
noncomputable def B15:Code:=match Tryd.f15.body with | some c=>c | none=>.skip
noncomputable def L15:Code:=match B15 with | .seq _ (.seq _ (.seq _ (.seq l _)))=>l | _=>.skip
noncomputable def K15:Code:=match B15 with | .seq _ (.seq _ (.seq _ (.seq _ r)))=>r | _=>.skip
noncomputable def agr:Code:=match L15 with | .seq _ (.block _ (.loop b))=>b | _=>.skip
noncomputable def I15:Code:=match agr with | .seq _ (.seq (.block _ i) _)=>i | _=>.skip
noncomputable def aha:Code:=match agr with | .seq _ (.seq _ r)=>r | _=>.skip
noncomputable def agB:Code:=match I15 with | .seq _ (.seq _ (.block _ (.loop b)))=>b | _=>.skip
noncomputable def J15:Code:=match agB with | .seq _ (.seq (.block _ i) _)=>i | _=>.skip
noncomputable def ahi:Code:=match agB with | .seq _ (.seq _ r)=>r | _=>.skip
noncomputable def ahG:Code:=match J15 with | .seq _ (.seq _ (.seq _ (.cond _ r _)))=>r | _=>.skip
noncomputable def ahg:Array Oper:=match ahG with | .seq (.region _ o _) _=>o | _=>#[]
noncomputable def ahh:Array Oper:=match K15 with | .seq (.region _ o _) _=>o | _=>#[]
noncomputable def afR:List Item:=[.code agr,.inLoop agr,.inBlock 0,.code K15]
noncomputable def afU:List Item:=[.code agB,.inLoop agB,.inBlock 2,.inBlock 1,.code aha,.inLoop agr,.inBlock 0,.code K15]
noncomputable def ahq (l:List Nat):List Item:=[.inRegion ahg l,.code .ret,.inBlock 3,.code ahi,.inLoop agB,.inBlock 2,.inBlock 1,.code aha,.inLoop agr,.inBlock 0,.code K15]
noncomputable def ahw (l:List Nat):List Item:=[.inRegion ahh l,.code .ret]
set_option maxRecDepth 40000 in
theorem agc {k:Wk} {vv rv lv gv v7:Value} {b3 kk:Nat} {gl:List Int} {ge:Int} (hkk:kk < 4) (hB:Bs V) (hg:Go.Wg.gN≤w0.heap.size) (hk:iJ V vv rv k) (hok:k.Ok) (hr3:V.Range b3 0 [vv,rv]) (hgv:VI V gv gl) (hgl:gl.length≤100) (hge:ru k=(gl,ge)) (hl7:VLL V v7 (chL kk kk))
  (hnext:(∀ m∈pre (kk+1) 0,can k (aN k (scaleB m))=false)→∀ (w:World) (u1 u7 u8 u9 u10 u11 u12 u13 u14 u15 u16 u17 u18 u19 u20 u21 u22 u23 u24 u25 u26 u27 u28 u29 u30 u31 u32 u33 u34 u35 u36 u37 u38 u39 u40 u41 u42 u43 u44 u45 u46 u47 u48 u49 u50 u51 u52 u53 u54 u55 u56 u57 u58 u59 u60 u61 u62 u63 u64 u65 u66:Value),St w0 [] V [] w→RB 15 (fun r w'=>r=.returned (.bool true)∧Kp w0 w') afR ⟨#[lv,u1,.bool false,.pointer (some ⟨b3,0,none⟩),gv,.int .i64 ge,.int .i64 ((kk+1:Nat):Int),u7,u8,u9,u10,u11,u12,u13,u14,u15,u16,u17,u18,u19,u20,u21,u22,u23,u24,u25,u26,u27,u28,u29,u30,u31,u32,u33,u34,u35,u36,u37,u38,u39,u40,u41,u42,u43,u44,u45,u46,u47,u48,u49,u50,u51,u52,u53,u54,u55,u56,u57,u58,u59,u60,u61,u62,u63,u64,u65,u66],[]⟩ w) :
  ∀ (d i:Nat),i+d=(msk kk).length→(∀ m∈pre kk i,can k (aN k (scaleB m))=false)→∀ (w:World) (u1 u9 u10 u11 u12 u13 u14 u15 u16 u17 u18 u19 u20 u21 u22 u23 u24 u25 u26 u27 u28 u29 u30 u31 u32 u33 u34 u35 u36 u37 u38 u39 u40 u41 u42 u43 u44 u45 u46 u47 u48 u49 u50 u51 u52 u53 u54 u55 u56 u57 u58 u59 u60 u61 u62 u63 u64 u65 u66:Value),St w0 [] V [] w →
   RB 15 (fun r w'=>r=.returned (.bool true)∧Kp w0 w') afU ⟨#[lv,u1,.bool false,.pointer (some ⟨b3,0,none⟩),gv,.int .i64 ge,.int .i64 (kk:Int),v7,.int .i64 (i:Int),u9,u10,u11,u12,u13,u14,u15,u16,u17,u18,u19,u20,u21,u22,u23,u24,u25,u26,u27,u28,u29,u30,u31,u32,u33,u34,u35,u36,u37,u38,u39,u40,u41,u42,u43,u44,u45,u46,u47,u48,u49,u50,u51,u52,u53,u54,u55,u56,u57,u58,u59,u60,u61,u62,u63,u64,u65,u66],[]⟩ w:=by
 have hchl:(chL kk kk).length=(msk kk).length:=by rw [ag6 kk hkk,List.length_map]
 obtain ⟨us,hu1,hu2,hu3⟩:=hl7.is
 obtain ⟨oa,ocap,hov,hoc,hom,hoe⟩:=hu2.is
 subst hov
 obtain ⟨hm3,hmL⟩:=agP kk hkk
 rw [hchl] at hu1 hu3 hoc hoe ⊢
 have hk0:(0:Int)≤kk:=by omega
 intro d
 induction d with
 | zero =>
  intro i hi hno w u1 u9 u10 u11 u12 u13 u14 u15 u16 u17 u18 u19 u20 u21 u22 u23 u24 u25 u26 u27 u28 u29 u30 u31 u32 u33 u34 u35 u36 u37 u38 u39 u40 u41 u42 u43 u44 u45 u46 u47 u48 u49 u50 u51 u52 u53 u54 u55 u56 u57 u58 u59 u60 u61 u62 u63 u64 u65 u66 hS
  obtain rfl:i=(msk kk).length:=by omega
  rw [ag7 kk hkk] at hno
  have hnx:=hnext hno
  have h0:(0:Int)≤(msk kk).length:=by omega
  clear hnext hno
  replace hnx:=aj hnx
  refine abr (tgt:=afR) (by kernel_rfl) rfl hS ?_
  clear hS;intro w' hS
  refine au (au (aA ?_))
  go_wp2_with (fail)
  refine dZ (o:=.tmp 28) (t:=false) (by rfl) ?_
  refine lG (show _=some _ from rfl) ?_
  refine jE (aA ?_)
  conv=>enter [2];whnf
  go_wp2_with (fail)
  refine jr (bG (tgt:=afR) ?_)
  exact hnx.out _ _ _ _ _ _ _ _ _ _ _ _ _ _ _ _ _ _ _ _ _ _ _ _ _ _ _ _ _ _ _ _ _ _ _ _ _ _ _ _ _ _ _ _ _ _ _ _ _ _ _ _ _ _ _ _ _ _ _ _ _ _ hS
 | succ d ih =>
  intro i hi hno w u1 u9 u10 u11 u12 u13 u14 u15 u16 u17 u18 u19 u20 u21 u22 u23 u24 u25 u26 u27 u28 u29 u30 u31 u32 u33 u34 u35 u36 u37 u38 u39 u40 u41 u42 u43 u44 u45 u46 u47 u48 u49 u50 u51 u52 u53 u54 u55 u56 u57 u58 u59 u60 u61 u62 u63 u64 u65 u66 hS
  have hil:i < (msk kk).length:=by omega
  have hil':(i:Int) < (msk kk).length:=by omega
  have h0:(0:Int)≤i:=by omega
  obtain ⟨og,oo,hoa,hor⟩:=hoe (by omega)
  subst hoa
  have hcell:=hor i hil 0 _ rfl
  simp only [Nat.mul_one,Nat.add_zero] at hcell
  have hvi:=hu3 i hil
  have hlE:(chL kk kk).getD i []=afK ((msk kk).getD i 0):=by
   rw [ag6 kk hkk]
   simp [List.getD_eq_getElem?_getD,List.getElem?_eq_getElem hil]
  rw [hlE] at hvi
  have hL3:=hmL i hil
  have hcan:=agL hok ((msk kk).getD i 0)
  have hhit:=agz hok hkk hil hno
  have hpr:=agW kk hkk i hil
  have hno2:can k (aN k (scaleB ((msk kk).getD i 0)))=false→∀ m∈pre kk (i+1),can k (aN k (scaleB m))=false:=fun h m hm=>by
   rw [hpr] at hm
   rcases List.mem_append.1 hm with hm | hm
   ·exact hno m hm
   ·rw [List.mem_singleton] at hm;subst hm;exact h
  have ih2:=fun h=>ih (i+1) (by omega) (hno2 h)
  generalize us.getD i undef=u at hcell hvi
  generalize afK ((msk kk).getD i 0)=ml at hvi hL3 hcan hhit
  generalize can k (aN k (scaleB ((msk kk).getD i 0)))=cb at hcan hhit ih2
  have hdo:=ag1 hok ml
  have hr4':([vv,rv]).length=2:=rfl
  have hrd:(k.dis ml).rdg.length≤100:=by have:=hdo.rdl;omega
  have hone2:=qB (wO hk.ves) (wO hk.rdg)
  have hvo1:=wO hk.ves
  have huo:=wO hvi
  clear ih hno hno2 hpr hlE hor hnext hl7 hu3
  cases cb with
  | false =>
   have ih3:=ih2 rfl
   clear ih2 hhit
   replace ih3:=aj ih3
   refine abr (tgt:=afU) (by kernel_rfl) rfl hS ?_
   clear hS;intro w' hS
   refine aA ?_
   conv=>enter [2];whnf
   go_wp2_with (fail)
   (refine bF (S:=(St w0 [] V [])) [false,false,false,false,false,false,false,false,false,false,false,false] rfl (by kernel_rfl) ?_;replace hS:=St.eY hS;(repeat' ((with_reducible refine gHd ?_);(first | ((refine acU 0 rfl (by kernel_rfl) (by kernel_rfl) (by decide +kernel) (fun _ _ _ _ h=>nomatch h.1) rfl (St.aG hS) rfl rfl ?_);refine ⟨_,zd,?_⟩;refine zH ?_) | (refine aar 1 rfl (by kernel_rfl) (by kernel_rfl) (by decide +kernel) rfl rfl (fun _ _ _ h=>nomatch h.1) rfl (St.aG hS) ?_;refine zH ?_) | (refine aar 2 rfl (by kernel_rfl) (by kernel_rfl) (by decide +kernel) rfl rfl (fun _ _ _ h=>nomatch h.1) rfl (St.aG hS) ?_;refine zH ?_) | (refine dw 3 rfl (by kernel_rfl) (by kernel_rfl) (by decide +kernel) (fun _ _ _ _ h=>nomatch h.1) rfl (St.aG hS) ?_;refine ⟨_,zp,?_⟩;refine zH ?_) | ((refine aax 4 rfl (by kernel_rfl) (by kernel_rfl) (by decide +kernel) (fun _ _ _ _ h=>nomatch h.1) rfl (St.aG hS) rfl rfl ?_);refine ⟨_,zd,?_⟩;refine zH ?_) | (refine aar 7 rfl (by kernel_rfl) (by kernel_rfl) (by decide +kernel) rfl rfl (fun _ _ _ h=>nomatch h.1) rfl (St.aG hS) ?_;refine zH ?_) | (refine dw 8 rfl (by kernel_rfl) (by kernel_rfl) (by decide +kernel) (fun _ _ _ _ h=>nomatch h.1) rfl (St.aG hS) ?_;refine ⟨_,zp,?_⟩;refine zH ?_) | (refine dw 9 rfl (by kernel_rfl) (by kernel_rfl) (by decide +kernel) (fun _ _ _ _ h=>nomatch h.1) rfl (St.aG hS) ?_;refine ⟨_,zp,?_⟩;refine zH ?_) | (refine dw 10 rfl (by kernel_rfl) (by kernel_rfl) (by decide +kernel) (fun _ _ _ _ h=>nomatch h.1) rfl (St.aG hS) ?_;refine ⟨_,zp,?_⟩;refine zH ?_) | (refine dw 11 rfl (by kernel_rfl) (by kernel_rfl) (by decide +kernel) (fun _ _ _ _ h=>nomatch h.1) rfl (St.aG hS) ?_;refine ⟨_,zp,?_⟩;refine zH ?_) | (refine oZ 5 (by decide +kernel) rfl rfl ⟨_,_,zo,?_⟩;refine (af4 hk hvi (by omega) (St.view hS)).mono ?_;rintro _ w1 ⟨rv',rfl,hS1⟩;have hS2:=hS.Nq hS1;simp only [List.cons_append,List.nil_append] at hS2;obtain ⟨V2,hV2,hS3,hk2⟩:=xG (k:=k) (l:=(k.dis ml).rdg) hS2 hg hk hrd;clear hS hS1 hS2;(try clear w');have hS:=hS3;clear hS3;have hone3:=qB hvo1 (wO hk2.rdg);refine ⟨_,rfl,?_⟩;refine zH ?_;refine ⟨(hS.weaken hV2).aG,?_⟩) | (refine oZ 6 (by decide +kernel) rfl rfl ⟨_,_,zo,?_⟩;refine abD hS (hB.mono hV2) hk2 hcan ?_;clear hS;(try clear w');intro w' hS;replace hS:=hS.weaken hV2;refine ⟨_,rfl,?_⟩;refine zH ?_;refine ⟨(St.aG hS),?_⟩) | refine wpAnyH_done (by decide +kernel) ?_ _))))
   all_goals (
    go_wp2_with (fail)
    refine jr (bG (tgt:=afU) ?_)
    exact ih3.out _ _ _ _ _ _ _ _ _ _ _ _ _ _ _ _ _ _ _ _ _ _ _ _ _ _ _ _ _ _ _ _ _ _ _ _ _ _ _ _ _ _ _ _ _ _ _ _ _ _ _ _ _ _ _ _ _ _ _ _ hS)
  | true =>
   have hh:=hhit rfl
   rw [hge] at hh
   obtain ⟨rfl,rfl⟩:=Prod.mk.injEq .. ▸ hh
   clear ih2 hhit hh
   refine abr (tgt:=ahq [11,12,13]) (by kernel_rfl) rfl hS ?_
   clear hS;intro w' hS
   refine au (aA ?_)
   go_wp2_with (fail)
   refine au (jg (au (aA ?_)))
   go_wp2_with (fail)
   (refine bF (S:=(St w0 [] V [])) [false,false,false,false,false,false,false,false,false,false,false,false] rfl (by kernel_rfl) ?_;replace hS:=St.eY hS;(repeat' ((with_reducible refine gHd ?_);(first | ((refine acU 0 rfl (by kernel_rfl) (by kernel_rfl) (by decide +kernel) (fun _ _ _ _ h=>nomatch h.1) rfl (St.aG hS) rfl rfl ?_);refine ⟨_,zd,?_⟩;refine zH ?_) | (refine aar 1 rfl (by kernel_rfl) (by kernel_rfl) (by decide +kernel) rfl rfl (fun _ _ _ h=>nomatch h.1) rfl (St.aG hS) ?_;refine zH ?_) | (refine aar 2 rfl (by kernel_rfl) (by kernel_rfl) (by decide +kernel) rfl rfl (fun _ _ _ h=>nomatch h.1) rfl (St.aG hS) ?_;refine zH ?_) | (refine dw 3 rfl (by kernel_rfl) (by kernel_rfl) (by decide +kernel) (fun _ _ _ _ h=>nomatch h.1) rfl (St.aG hS) ?_;refine ⟨_,zp,?_⟩;refine zH ?_) | ((refine aax 4 rfl (by kernel_rfl) (by kernel_rfl) (by decide +kernel) (fun _ _ _ _ h=>nomatch h.1) rfl (St.aG hS) rfl rfl ?_);refine ⟨_,zd,?_⟩;refine zH ?_) | (refine aar 7 rfl (by kernel_rfl) (by kernel_rfl) (by decide +kernel) rfl rfl (fun _ _ _ h=>nomatch h.1) rfl (St.aG hS) ?_;refine zH ?_) | (refine dw 8 rfl (by kernel_rfl) (by kernel_rfl) (by decide +kernel) (fun _ _ _ _ h=>nomatch h.1) rfl (St.aG hS) ?_;refine ⟨_,zp,?_⟩;refine zH ?_) | (refine dw 9 rfl (by kernel_rfl) (by kernel_rfl) (by decide +kernel) (fun _ _ _ _ h=>nomatch h.1) rfl (St.aG hS) ?_;refine ⟨_,zp,?_⟩;refine zH ?_) | (refine dw 10 rfl (by kernel_rfl) (by kernel_rfl) (by decide +kernel) (fun _ _ _ _ h=>nomatch h.1) rfl (St.aG hS) ?_;refine ⟨_,zp,?_⟩;refine zH ?_) | (refine dw 11 rfl (by kernel_rfl) (by kernel_rfl) (by decide +kernel) (fun _ _ _ _ h=>nomatch h.1) rfl (St.aG hS) ?_;refine ⟨_,zp,?_⟩;refine zH ?_) | (refine oZ 5 (by decide +kernel) rfl rfl ⟨_,_,zo,?_⟩;refine (af4 hk hvi (by omega) (St.view hS)).mono ?_;rintro _ w1 ⟨rv',rfl,hS1⟩;have hS2:=hS.Nq hS1;simp only [List.cons_append,List.nil_append] at hS2;obtain ⟨V2,hV2,hS3,hk2⟩:=xG (k:=k) (l:=(k.dis gl).rdg) hS2 hg hk hrd;clear hS hS1 hS2;(try clear w');have hS:=hS3;clear hS3;have hone3:=qB hvo1 (wO hk2.rdg);refine ⟨_,rfl,?_⟩;refine zH ?_;refine ⟨(hS.weaken hV2).aG,?_⟩) | (refine oZ 6 (by decide +kernel) rfl rfl ⟨_,_,zo,?_⟩;refine abD hS (hB.mono hV2) hk2 hcan ?_;clear hS;(try clear w');intro w' hS;replace hS:=hS.weaken hV2;refine ⟨_,rfl,?_⟩;refine zH ?_;refine ⟨(St.aG hS),?_⟩) | refine wpAnyH_done (by decide +kernel) ?_ _))))
   all_goals (
    go_wp2_with (fail)
    (try refine ⟨rfl,?_⟩)
    refine au (aA ?_)
    go_wp2_with (fail)
    (try refine ⟨rfl,?_⟩)
    refine au (aA ?_)
    go_wp2_with (fail)
    (try refine ⟨rfl,?_⟩)
    refine dZ (o:=.tmp 43) (t:=true) (by rfl) ?_
    refine au (ig (abP 11 (by decide) ?_))
    simp only [List.take_succ_cons,List.take_zero]
    go_wp2_with (first | (((with_reducible refine gL ?_);refine nC hS rfl rfl rfl ?_);refine ⟨_,zd,?_⟩;clear hS;(try clear w');refine zF ?_;intro w' hS) | (go_at_call 31;refine aH hS ⟨_,SI gl gl _ _ hgv hvi (by omega) (by omega) (St.view hS),?_⟩;clear hS;(try clear w');intro w' hS))
    refine bG (tgt:=ahq [11,12,13]) ?_
    refine acy 55 hS hB rfl rfl rfl rfl rfl rfl ?_
    clear hS;(try clear w');intro w' a' hS hp
    simp only [fr] at hp
    subst hp
    refine abr (tgt:=[.code .ret,.inBlock 3,.code ahi,.inLoop agB,.inBlock 2,.inBlock 1,.code aha,.inLoop agr,.inBlock 0,.code K15]) (by kernel_rfl) rfl hS ?_
    clear hS;(try clear w');intro w' hS
    refine abe 12 rfl ?_
    simp only [List.drop_succ_cons,List.drop_zero]
    go_wp2_with (fail)
    refine dH (bG (tgt:=[.code .ret,.inBlock 3,.code ahi,.inLoop agB,.inBlock 2,.inBlock 1,.code aha,.inLoop agr,.inBlock 0,.code K15]) ?_)
    exact ac2 Tryd.func15 hS rfl (fun w=>bH (r1:=.tmp 2) (by kernel_rfl) (bD rfl)))
end Go.Proofs.YtjjmefieegcddaaDoor
namespace Go.Proofs.YtjjmefieegcddaaDoor
open Go.RowKit Go.Wg Go.Mm Go.Wk
open Go Go.Sr Go.Ph Go.Tm Go.Conc
variable {w w0:World} {V:View}
theorem agU (m:Nat):(afK m).length≤3:=by
 unfold afK
 rw [List.length_map]
 have h:=List.length_filter_le (fun i=>m.testBit i) (List.range 3)
 rwa [List.length_range] at h
theorem agh {X:List Nat} {L:List dF} {vv rv:Value} {k:Wk} {R:Ending→World→Prop} {l:List Int} {e:Int} (hS:St w0 X V L w) (hB:Bs V) (hk:iJ V vv rv k) (hv:ru k=(l,e))
  (h:∀ (V':View) (v:Value) (w':World),(∀ j o,V j=some o→V' j=some o)→VI V' v l→v.oneCell'=true→St w0 X V' L w'→R (.returned (.tuple #[v,.int .i64 e])) w'):Calls Tryd.prog 58 #[.agg #[vv,rv]] w R:=by
 have hc:=agQ vv rv k hk hB.gv hS.view
 rw [hv] at hc
 exact xZ hS hc h
set_option maxRecDepth 40000 in
theorem agi {k:Wk} {vv rv lv gv:Value} {b3:Nat} {gl:List Int} {ge:Int} (hg:Go.Wg.gN≤w0.heap.size) (hok:k.Ok) (hgl:gl.length≤100) (hge:ru k=(gl,ge)) :
  ∀ (d kk:Nat) (V:View),kk+d=4→Bs V→iJ V vv rv k→V.Range b3 0 [vv,rv]→VI V gv gl→(∀ m∈pre kk 0,can k (aN k (scaleB m))=false)→∀ (w:World) (u1 u7 u8 u9 u10 u11 u12 u13 u14 u15 u16 u17 u18 u19 u20 u21 u22 u23 u24 u25 u26 u27 u28 u29 u30 u31 u32 u33 u34 u35 u36 u37 u38 u39 u40 u41 u42 u43 u44 u45 u46 u47 u48 u49 u50 u51 u52 u53 u54 u55 u56 u57 u58 u59 u60 u61 u62 u63 u64 u65 u66:Value),St w0 [] V [] w →
   RB 15 (fun r w'=>r=.returned (.bool true)∧Kp w0 w') afR ⟨#[lv,u1,.bool false,.pointer (some ⟨b3,0,none⟩),gv,.int .i64 ge,.int .i64 (kk:Int),u7,u8,u9,u10,u11,u12,u13,u14,u15,u16,u17,u18,u19,u20,u21,u22,u23,u24,u25,u26,u27,u28,u29,u30,u31,u32,u33,u34,u35,u36,u37,u38,u39,u40,u41,u42,u43,u44,u45,u46,u47,u48,u49,u50,u51,u52,u53,u54,u55,u56,u57,u58,u59,u60,u61,u62,u63,u64,u65,u66],[]⟩ w:=by
 intro d
 induction d with
 | zero =>
  intro kk V hkk hB hk hr3 hgv hno w u1 u7 u8 u9 u10 u11 u12 u13 u14 u15 u16 u17 u18 u19 u20 u21 u22 u23 u24 u25 u26 u27 u28 u29 u30 u31 u32 u33 u34 u35 u36 u37 u38 u39 u40 u41 u42 u43 u44 u45 u46 u47 u48 u49 u50 u51 u52 u53 u54 u55 u56 u57 u58 u59 u60 u61 u62 u63 u64 u65 u66 hS
  obtain rfl:kk=4:=by omega
  rw [ag9] at hno
  have hh:=agv hok hno
  rw [hge] at hh
  obtain ⟨rfl,rfl⟩:=Prod.mk.injEq .. ▸ hh
  obtain ⟨ga,gcap,hgs,_⟩:=hgv.is
  subst hgs
  clear hh hno
  refine abr (tgt:=ahw [8,9,10]) (by kernel_rfl) rfl hS ?_
  clear hS;intro w' hS
  refine au (au (aA ?_))
  go_wp2_with (fail)
  refine dZ (o:=.tmp 20) (t:=false) (by rfl) ?_
  refine lG (show _=some [Item.code K15] from rfl) ?_
  refine au (ig (abP 8 (by decide) ?_))
  simp only [List.take_succ_cons,List.take_zero]
  go_wp2_with (fail)
  refine bG (tgt:=ahw [8,9,10]) ?_
  refine acy 65 hS hB rfl rfl rfl rfl rfl rfl ?_
  clear hS;(try clear w');intro w' a' hS hp
  simp only [fr] at hp
  subst hp
  refine abr (tgt:=[.code .ret]) (by kernel_rfl) rfl hS ?_
  clear hS;(try clear w');intro w' hS
  refine abe 9 rfl ?_
  simp only [List.drop_succ_cons,List.drop_zero]
  go_wp2_with (fail)
  refine dH (bG (tgt:=[.code .ret]) ?_)
  exact ac2 Tryd.func15 hS rfl (fun w=>bH (r1:=.tmp 2) (by kernel_rfl) (bD rfl))
 | succ d ih =>
  intro kk V hkk hB hk hr3 hgv hno w u1 u7 u8 u9 u10 u11 u12 u13 u14 u15 u16 u17 u18 u19 u20 u21 u22 u23 u24 u25 u26 u27 u28 u29 u30 u31 u32 u33 u34 u35 u36 u37 u38 u39 u40 u41 u42 u43 u44 u45 u46 u47 u48 u49 u50 u51 u52 u53 u54 u55 u56 u57 u58 u59 u60 u61 u62 u63 u64 u65 u66 hS
  have h3:kk≤3:=by omega
  have h3':(kk:Int)≤3:=by omega
  have hin:∀ (V':View) (_:∀ j o,V j=some o→V' j=some o) (v7:Value) (_:VLL V' v7 (chL kk kk)) (w:World) (u1 u9 u10 u11 u12 u13 u14 u15 u16 u17 u18 u19 u20 u21 u22 u23 u24 u25 u26 u27 u28 u29 u30 u31 u32 u33 u34 u35 u36 u37 u38 u39 u40 u41 u42 u43 u44 u45 u46 u47 u48 u49 u50 u51 u52 u53 u54 u55 u56 u57 u58 u59 u60 u61 u62 u63 u64 u65 u66:Value),St w0 [] V' [] w →
    RB 15 (fun r w'=>r=.returned (.bool true)∧Kp w0 w') afU ⟨#[lv,u1,.bool false,.pointer (some ⟨b3,0,none⟩),gv,.int .i64 ge,.int .i64 (kk:Int),v7,.int .i64 ((0:Nat):Int),u9,u10,u11,u12,u13,u14,u15,u16,u17,u18,u19,u20,u21,u22,u23,u24,u25,u26,u27,u28,u29,u30,u31,u32,u33,u34,u35,u36,u37,u38,u39,u40,u41,u42,u43,u44,u45,u46,u47,u48,u49,u50,u51,u52,u53,u54,u55,u56,u57,u58,u59,u60,u61,u62,u63,u64,u65,u66],[]⟩ w :=
   fun V' hV' v7 hl7 w u1 u9 u10 u11 u12 u13 u14 u15 u16 u17 u18 u19 u20 u21 u22 u23 u24 u25 u26 u27 u28 u29 u30 u31 u32 u33 u34 u35 u36 u37 u38 u39 u40 u41 u42 u43 u44 u45 u46 u47 u48 u49 u50 u51 u52 u53 u54 u55 u56 u57 u58 u59 u60 u61 u62 u63 u64 u65 u66 hS=>agc (by omega) (hB.mono hV') hg (jf hk hV') hok (hr3.mono hV') (IU hgv hV') hgl hge hl7
    (fun hno2 w u1 u7 u8 u9 u10 u11 u12 u13 u14 u15 u16 u17 u18 u19 u20 u21 u22 u23 u24 u25 u26 u27 u28 u29 u30 u31 u32 u33 u34 u35 u36 u37 u38 u39 u40 u41 u42 u43 u44 u45 u46 u47 u48 u49 u50 u51 u52 u53 u54 u55 u56 u57 u58 u59 u60 u61 u62 u63 u64 u65 u66 hS=>ih (kk+1) V' (by omega) (hB.mono hV') (jf hk hV') (hr3.mono hV') (IU hgv hV') hno2 w _ _ _ _ _ _ _ _ _ _ _ _ _ _ _ _ _ _ _ _ _ _ _ _ _ _ _ _ _ _ _ _ _ _ _ _ _ _ _ _ _ _ _ _ _ _ _ _ _ _ _ _ _ _ _ _ _ _ _ _ _ hS) _ 0 (Nat.zero_add _) hno w _ _ _ _ _ _ _ _ _ _ _ _ _ _ _ _ _ _ _ _ _ _ _ _ _ _ _ _ _ _ _ _ _ _ _ _ _ _ _ _ _ _ _ _ _ _ _ _ _ _ _ _ _ _ _ _ _ _ _ hS
  clear ih hno
  replace hin:=aj hin
  refine abr (tgt:=afU) (by kernel_rfl) rfl hS ?_
  clear hS;intro w' hS
  refine au (aA ?_)
  go_wp2_with (fail)
  (try refine ⟨rfl,?_⟩)
  refine au (jg (au (aA ?_)))
  go_wp2_with (go_at_call 66;refine agq hS (agI (k:=kk) (by omega) (St.view hS)) ?_;clear hS;(try clear w');intro V7 v7 w' hV7 hl7 h7o hS)
  (try refine ⟨rfl,?_⟩)
  refine au (aA ?_)
  go_wp2_with (fail)
  (try refine ⟨rfl,?_⟩)
  refine jg (zh (bG (tgt:=afU) ?_))
  exact hin.out V7 hV7 v7 hl7 _ _ _ _ _ _ _ _ _ _ _ _ _ _ _ _ _ _ _ _ _ _ _ _ _ _ _ _ _ _ _ _ _ _ _ _ _ _ _ _ _ _ _ _ _ _ _ _ _ _ _ _ _ _ _ _ _ _ _ _ hS
set_option maxRecDepth 40000 in
theorem agf {lv:Value} {l:List Int} (hB:Bs V) (hg:Go.Wg.gN≤w.heap.size) (hl:VI V lv l) (hV:V.In w):RB 15 (fun r w'=>r=.returned (.bool true)∧Kp w w') [.code B15] ⟨#[lv] ++ Array.replicate 66 undef,[]⟩ w:=by
 have hS:=St.start w V hV
 obtain ⟨la,lcap,hlv,hlc,hlm,hle⟩:=hl.is
 clear hle hlc hlm
 subst hlv
 simp only [Array.replicate_succ,Array.replicate_zero,List.push_toArray,List.append_toArray,List.nil_append,List.cons_append]
 refine abr (tgt:=afR) (by kernel_rfl) rfl hS ?_
 clear hS;intro w' hS
 refine au (aA ?_)
 go_wp2_with (fail)
 refine au (aA ?_)
 go_wp2_with (first | (first | (((with_reducible refine gS ?_);refine bQ hS rfl rfl rfl ?_);refine ⟨_,zd,?_⟩;clear hS;(try clear w');refine zF ?_;intro w' hS;(try simp only [sE] at hS)) | ((with_reducible refine gA ?_);refine aT 3 rfl hS rfl rfl ?_;clear hS;(try clear w');intro b3;refine zF ?_;intro w' hS)) | (go_at_call 23;refine Aj hS ⟨_,_,SY ⟨_,_,_,rfl⟩,?_⟩;clear hS;(try clear w');intro bh w' hS) |
  (go_at_call 33;refine (afr (V:=V) ⟨⟨l,hl⟩,by decide,by decide⟩ (by decide) (by decide) (by decide) (St.view hS) (hS.off _ (List.mem_cons_self ..) bh rfl) (St.dR hS)).mono ?_;rintro _ w1 ⟨k,vv,rv,c1,s1,rfl,hok,hkn,hrl,k1,k2,hS1⟩;obtain ⟨V1,hV1,hS2,hk⟩:=Eh (hS.comp (j:=0) rfl (hS1.perm (List.perm_append_comm (l₁:=[_,_]) (l₂:=[_])))) hg hB ⟨hok.pos,by have:=hok.le;omega,by omega⟩;clear hS hS1;(try clear w');have hS:=hS2;clear hS2;have hone2:=qB (wO hk.ves) (wO hk.rdg)))
 obtain ⟨V2,hV2,hc1,hS2⟩:=pin hS
 clear hS
 have hS:=hS2
 clear hS2
 have hB2:Bs V2:=(hB.mono hV1).mono hV2
 have hk2:=jf hk hV2
 have hr3:V2.Range b3 0 [vv,rv]:=fun j v hj=>by rw [Nat.zero_add];exact hc1 j v hj
 have hr3':([vv,rv]).length=2:=rfl
 obtain ⟨gl,ge,hge⟩:∃ gl ge,ru k=(gl,ge):=⟨_,_,rfl⟩
 have hgl:gl.length≤100:=by
  have h1:gl=(ru k).1:=by rw [hge]
  rw [h1]
  unfold ru
  split
  ·split
   ·exact Nat.le_trans (agU _) (by decide)
   ·exact Nat.zero_le _
  ·exact Nat.zero_le _
 clear hk hc1 hB
 refine au (aA ?_)
 go_wp2_with (first | (((with_reducible refine gL ?_);refine zQ hS rfl rfl rfl ?_);refine ⟨_,zd,?_⟩;clear hS;(try clear w');refine zF ?_;intro w' hS) | (go_at_call 58;refine agh hS hB2 hk2 hge ?_;clear hS;(try clear w');intro V3 gv w' hV3 hgv hgo hS))
 refine au (au (aA ?_))
 go_wp2_with (fail)
 refine jg (zh (bG (tgt:=afR) ?_))
 exact agi hg hok hgl hge 4 0 V3 (Nat.zero_add _) (hB2.mono hV3) (jf hk2 hV3) (hr3.mono hV3) hgv (fun m hm=>by simp [pre] at hm) _ _ _ _ _ _ _ _ _ _ _ _ _ _ _ _ _ _ _ _ _ _ _ _ _ _ _ _ _ _ _ _ _ _ _ _ _ _ _ _ _ _ _ _ _ _ _ _ _ _ _ _ _ _ _ _ _ _ _ _ _ _ hS.aG
theorem agV {lv:Value} {l:List Int} (hB:Bs V) (hg:Go.Wg.gN≤w.heap.size) (hl:VI V lv l) (hV:V.In w) (hh:ay OC w):kL Tryd.prog 15 #[lv] w fun r w'=>r=.returned (.bool true)∧Kp w w' :=
 abY (B:=B15) (m:=66) Tryd.func15 (show Tryd.f15.body=some B15 from rfl) (by kernel_rfl) hh (agf hB hg hl hV)
end Go.Proofs.YtjjmefieegcddaaDoor
