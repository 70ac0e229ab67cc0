/- A part of the proof: W53, W54, W55, W67, W68, W69, W70, W82, W85, S30, S31, S35, W99, W100, T29, W89, S32, W90, Q9. -/
import Derived.Test.YtjjmefieegcddaaDoorI13
import Derived.Test.YtjjmefieegcddaaDoorI11
import Derived.Test.YtjjmefieegcddaaDoorI09
import Derived.BigGuard
set_option linter.unusedVariables false
set_option linter.unusedSimpArgs false
set_option maxHeartbeats 8000000
set_option maxRecDepth 20000
namespace Go.Proofs.YtjjmefieegcddaaDoor
open Go.RowKit Go.Wg Go.Mm Go.Wk
open Go Go.Sr Go.Ph Go.Tm Go.Conc
section
variable {V:View} {w0 w:World} {p:Nat} {k:Wk} {D:List Nat} {b6 b8:Nat} {s:SS} {b:Frame} {cs:List Frame} {Q:Goroutine→World→Prop}
theorem outer (hX:NX V p k D b8 s) (hok:k.Ok) (hs:s.WF) (hlo:∀ i,0≤(s.aP i).1) (hhi:∀ i,(s.aP i).2≤1000) (err:Int) (he0:0≤err) (he9:err≤9) (hbf:b.fn=43) (hbk:b.kind=.normal)
  (hend:∀ w f v11 v12 v13 v14 v15,N1 w0 V b6 w→ay OC w→kU Tryd.prog (G (b.at ⟨kH (.int .i64 err) (ptr b6) (ptr p) (ptr b8) (.int .i64 (fM k s err k.n).1) (.int .i64 (fM k s err k.n).2) v11 v12 v13 v14 v15 (.int .i64 k.n) (.int .i64 k.n) f,[dC b6]⟩ jO) cs) w Q) :
  ∀ (m i:Nat),i+m=k.n→∀ w f v11 v12 v13 v14 v15,N1 w0 V b6 w→ay OC w →
   kU Tryd.prog (G (b.at ⟨kH (.int .i64 err) (ptr b6) (ptr p) (ptr b8) (.int .i64 (fM k s err i).1) (.int .i64 (fM k s err i).2) v11 v12 v13 v14 v15 (.int .i64 k.n) (.int .i64 i) f,[dC b6]⟩ jO) cs) w Q:=by
 have hn6:k.n≤6:=hok.le
 intro m
 induction m with
 | zero =>
  intro i hi w f v11 v12 v13 v14 v15 hN hh
  obtain rfl:i=k.n:=by omega
  exact hend w f v11 v12 v13 v14 v15 hN hh
 | succ m ih =>
  intro i hi w f v11 v12 v13 v14 v15 hN hh
  have hlt:i < k.n:=by omega
  have hwb:=qE k s i 41 (Nat.le_refl _)
  rw [show bZ k s i 41=aO k s i from rfl] at hwb
  have ihc:=ih (i+1) (by omega)
  have hB:fM k s err (i+1)=if qK k s i err < (fM k s err i).2 then ((i:Int),qK k s i err) else fM k s err i:=rfl
  refine vI (tgt:=iH) hbf hbk Ah (CB b6 rfl) hh (S:=fun a w'=>∃ mb b14,(∃ f,a=⟨kH (.int .i64 err) (ptr b6) (ptr p) (ptr b8) (.int .i64 (fM k s err i).1) (.int .i64 (fM k s err i).2) (.int .i64 i) (.int .i64 0) (.map (some mb)) (ptr b14) (.int .i64 ((aO k s i).1 - err)) (.int .i64 k.n) (.int .i64 i) f,[dC b6]⟩) ∧
    Kp w w'∧jk w' mb 0 []∧w.heap.size≤mb∧w.heap.size≤b14∧w'.heap[b14]? = some (.cells #[.int .i64 (aO k s i).1,.int .i64 (aO k s i).2] 27 (0,0)))
   (fun a w' τ d ⟨mb,b14,h1,h2,h3,h4⟩=>⟨mb,b14,h1,adC h2 τ d,yJ h3 τ d,h4⟩) (fun τ d=>?_) ?_
  ·refine (GK (w:=w.re τ d) hX hs err he0 he9 i hlt (ptr b6) _ _ v11 v12 v13 v14 v15 f hN.vin).mono ?_
   rintro a w' ⟨mb,b14,h1,h2,h3,h4⟩
   exact ⟨mb,b14,h1,uq h2,h3,h4⟩
  ·rintro a w1 ⟨mb,b14,⟨f1,rfl⟩,hk1,hm1,lm,l14,h14⟩ hh1
   have hN1:=hN.step hk1
   have h6lt:=lt_of_heap hN.e6
   have hVn:∀ {j:Nat},w.heap.size≤j→V j=none:=fun {j} hj=>by
    cases hv:V j with
    | none=>rfl
    | some o =>
     have:=lt_of_heap (hN.vin j o hv)
     omega
   have hne:mb≠b14:=by
    rintro rfl
    obtain ⟨es,cl,ho⟩:=hm1.obj
    rw [h14] at ho
    cases ho
   obtain ⟨V2,hVV,hV14,hVo,hN2⟩:=hN1.more h14 (by omega) (hVn l14)
   have hr14:V2.Range b14 0 [.int .i64 (aO k s i).1,.int .i64 (aO k s i).2]:=fun j v hj=>⟨_,_,_,hV14,by rw [Nat.zero_add];simpa using hj⟩
   have hin:=inner (b:=b) (cs:=cs) (Q:=Q) (w0:=w0) (b6:=b6) (hX.mono hVV) hok hs hlo hhi err he0 he9 i hlt b14 mb hbf hbk (.int .i64 (fM k s err i).1) (.int .i64 (fM k s err i).2) (fun w2 f2 sh hN3 hr3 hsh hh2=>?_) (Ia (aO k s i) err) 0 (by omega) w1 f1
    ⟨hN2,hr14,⟨0,Nat.le_refl _,hm1⟩,Nat.le_trans hN.kp.size lm,(hVo mb hne).trans (hVn lm),by omega⟩ hh1
   ·have e0:(aO k s i).1 - err+((0:Nat):Int)=(aO k s i).1 - err:=by omega
    rw [e0] at hin
    exact hin
   ·have hback:N1 w0 V b6 w2→N1 w0 V b6 w2:=id
    have hN4:N1 w0 V b6 w2:=⟨hN3.kp,fun j u hj=>hN3.vin j u (hVV j u hj),hN3.e6,hN3.n6,hN.off⟩
    by_cases hlt':qK k s i err < (fM k s err i).2
    ·rw [if_pos hlt'] at hB
     rw [hB] at ihc
     refine vI (tgt:=jO) hbf hbk Az (CB b6 rfl) hh2 (S:=fun a w'=>(∃ f,a=⟨kH (.int .i64 err) (ptr b6) (ptr p) (ptr b8) (.int .i64 i) (.int .i64 (qK k s i err)) (.int .i64 i) (.int .i64 (qK k s i err)) (.map (some mb)) (ptr b14) (.int .i64 sh) (.int .i64 k.n) (.int .i64 ((i:Int)+1)) f,[dC b6]⟩)∧Kp w2 w')
      (fun a w' τ d h=>⟨h.1,adC h.2 τ d⟩) (fun τ d=>?_) ?_
     ·refine (YP (w:=w2.re τ d) err _ _ _ sh i k.n b14 _ hr3 hwb.2.2.1 hwb.2.2.2 he0 he9 hsh hlt hn6 hlt' _ _ _ _ f2 hN3.vin).mono ?_
      rintro a w' ⟨h1,h2⟩
      exact ⟨h1,uq h2⟩
     ·rintro a w3 ⟨⟨f3,rfl⟩,hk3⟩ hh3
      exact ihc w3 f3 _ _ _ _ _ (hN4.step hk3) hh3
    ·rw [if_neg hlt'] at hB
     rw [hB] at ihc
     refine vI (tgt:=jO) hbf hbk Az (CB b6 rfl) hh2 (S:=fun a w'=>(∃ f,a=⟨kH (.int .i64 err) (ptr b6) (ptr p) (ptr b8) (.int .i64 (fM k s err i).1) (.int .i64 (fM k s err i).2) (.int .i64 i) (.int .i64 (qK k s i err)) (.map (some mb)) (ptr b14) (.int .i64 sh) (.int .i64 k.n) (.int .i64 ((i:Int)+1)) f,[dC b6]⟩)∧Kp w2 w')
      (fun a w' τ d h=>⟨h.1,adC h.2 τ d⟩) (fun τ d=>?_) ?_
     ·refine (ZK (w:=w2.re τ d) err _ _ _ sh i k.n b14 _ hr3 hwb.2.2.1 hwb.2.2.2 he0 he9 hsh hlt hn6 hlt' _ _ _ _ f2 hN3.vin).mono ?_
      rintro a w' ⟨h1,h2⟩
      exact ⟨h1,uq h2⟩
     ·rintro a w3 ⟨⟨f3,rfl⟩,hk3⟩ hh3
      exact ihc w3 f3 _ _ _ _ _ (hN4.step hk3) hh3
theorem KU {a:Act} {x y e:Int} {k0:List Item} (hk0:k0.all qy=true) (hbf:b.fn=43) (hbk:b.kind=.normal) (hh:ay OC w) (h4:a.tmps[4]? = some (.int .i64 x)) (h5:a.tmps[5]? = some (.int .i64 y)) (h6:a.tmps[6]? = some (ptr b6)) (hd:a.defers=[dC b6])
  (hS:St w0 [] V [.blk b6 38 [.int .i64 e]] w) :
  kU Tryd.prog (G (b.at a (.code .ret :: k0)) cs) w (fun a' w'=>∃ e' fr,a'=G fr cs∧(e'=.returned (.tuple #[.int .i64 x,.int .i64 y,.int .i64 e])∧Kp w0 w')∧fr.fn=43∧fr.leaving Tryd.prog w' e'∧e'≠.outgrown∧ay OC w'):=by
 obtain ⟨tm,df⟩:=a
 simp only at h4 h5 h6 hd
 subst hd
 refine CV ?_
 refine Bq (fr:={ b.at ⟨tm,[dC b6]⟩ (.code .ret :: k0) with mode:=.returning }) (R:=fun e' w'=>e'=.returned (.tuple #[.int .i64 x,.int .i64 y,.int .i64 e])∧Kp w0 w') lT xM (fun w h=>nomatch h.1) (fn:=Tryd.f43) ⟨⟨fun z hz=>?_,CB b6 (a:=⟨tm,[dC b6]⟩) rfl,.inl hbk⟩,rfl,hbk,hbf⟩ Tryd.func43 hh rfl (fun τ d=>?_) cs
 ·rcases List.mem_cons.1 (show z∈Item.code .ret :: k0 from hz) with rfl | hz
  ·exact (show bY true .ret=true from rfl)
  ·exact Gz hk0 z hz
 ·have g:∀ {j:Nat} {v:Value},tm[j]? = some v→tm.getD j undef=v:=fun h=>by
   rw [Array.getD_eq_getD_getElem?,h]
   rfl
  exact iF (R:=fun e' w'=>e'=.returned (.tuple #[.int .i64 x,.int .i64 y,.int .i64 e])∧Kp w0 w') (hS.re1 τ d) fun w3 hS3=>⟨_,results3 (r1:=.tmp 4) (r2:=.tmp 5) (r3:=.cell 6 38) (by kernel_rfl) (yS (g h4)) (yS (g h5)) (AO hS3 0 (g h6) rfl (by kernel_rfl) rfl),rfl,hS3.bM⟩
end
variable {w:World} {V:View}
theorem Vu (vv rv:Value) (k:Wk) (hk:iJ V vv rv k) (hG:GV V) (hV:V.In w) (err:Int) (hbs:¬ (aS k []=0∧fQ err 0 9=false∧Go.Wg.settle k (aN k aC)=none)) :
  Calls Tryd.prog 43 #[.agg #[vv,rv],.int .i64 err] w fun r w'=>r=.returned (.tuple #[.int .i64 (oW k err).1.1,.int .i64 (oW k err).1.2,.int .i64 (oW k err).2])∧Kp w w':=by
 have hk0:=hk
 obtain ⟨va,vcap,rfl,hvc,hvm,hve⟩:=hk0.ves.is
 obtain ⟨ra,rcap,rfl,hrc,hrm,hre⟩:=hk0.rdg.is
 have hS:=St.start w V hV
 clear hk0 hve hre
 by_cases hb:aS k []=0
 ·have hok:=dP hb
  cases ho:fQ err 0 9 with
  | true =>
   have hC:oW k err=((0,0),1):=by
    unfold oW
    rw [if_neg (by simp [hb]),ho]
    rfl
   rw [hC]
   simp only
   replace hC:=aj hC;replace hb:=aj hb
   clear hbs
   go_enter_defers Tryd.func43,Tryd.ntmps43
   go_wp2_with (first | (first | ((first | ((with_reducible refine gL ?_);first | refine gY hS rfl rfl rfl ?_ | refine lW hS rfl rfl rfl ?_) | ((with_reducible refine gS ?_);refine pX hS rfl rfl rfl ?_));refine ⟨_,zd,?_⟩;clear hS;(try clear w');refine zF ?_;intro w' hS;(try simp only [sE] at hS)) | ((with_reducible refine gA ?_);refine aT 6 rfl hS rfl rfl ?_;clear hS;(try clear w');intro b6;refine zF ?_;intro w' hS) | (((with_reducible refine gB ?_);refine jQ hS rfl rfl rfl ?_;refine ⟨_,za,?_⟩);clear hS;(try clear w');intro _;refine zF ?_;intro w' hS)) |
    (go_at_call 77;refine eG hS hk pG (by simp) hb.out ?_;clear hS;(try clear w');intro p V' w' hVV hcel hS;have hG':GV V':=hG.mono hVV) |
    (go_at_call 88;refine aH hS ⟨_,fB _ _ _ _,?_⟩;rw [ho];clear hS;(try clear w');intro w' hS))
   (refine iF hS ?_;clear hS;(try clear w');intro w' hS;(try simp only [sE] at hS);refine ⟨_,by exact results3 (r1:=.tmp 4) (r2:=.tmp 5) (r3:=.cell 6 38) (by kernel_rfl) (by exact bD rfl) (by exact bD rfl) (by exact zA hS rfl zd),?_⟩)
   exact ⟨rfl,hS.bM⟩
  | false =>
   cases hst:Go.Wg.settle k (aN k aC) with
   | none=>exact (hbs ⟨hb,ho,hst⟩).elim
   | some i =>
    have hC:oW k err=((0,0),9):=by
     unfold oW
     rw [if_neg (by simp [hb]),ho,hst]
     rfl
    rw [hC]
    simp only
    replace hC:=aj hC;replace hst:=aj hst;replace hb:=aj hb
    clear hbs
    go_enter_defers Tryd.func43,Tryd.ntmps43
    go_wp2_with (first | (first | ((first | ((with_reducible refine gL ?_);first | refine gY hS rfl rfl rfl ?_ | refine lW hS rfl rfl rfl ?_) | ((with_reducible refine gS ?_);refine pX hS rfl rfl rfl ?_));refine ⟨_,zd,?_⟩;clear hS;(try clear w');refine zF ?_;intro w' hS;(try simp only [sE] at hS)) | ((with_reducible refine gA ?_);refine aT 6 rfl hS rfl rfl ?_;clear hS;(try clear w');intro b6;refine zF ?_;intro w' hS) | (((with_reducible refine gB ?_);refine jQ hS rfl rfl rfl ?_;refine ⟨_,za,?_⟩);clear hS;(try clear w');intro _;refine zF ?_;intro w' hS)) |
     (go_at_call 77;refine eG hS hk pG (by simp) hb.out ?_;clear hS;(try clear w');intro p V' w' hVV hcel hS;have hG':GV V':=hG.mono hVV) |
     (go_at_call 88;refine aH hS ⟨_,fB _ _ _ _,?_⟩;rw [ho];clear hS;(try clear w');intro w' hS) |
     (go_at_call 83;refine nH hS (zN V' p k hcel hok i hst.out _ (St.view hS)) ?_;clear hS;(try clear w');intro w' hS))
    (refine vJ hS ?_;clear hS;(try clear w');intro w' hS;(try simp only [sE] at hS);refine ⟨_,by exact results3 (r1:=.tmp 4) (r2:=.tmp 5) (r3:=.cell 6 38) (by kernel_rfl) (by exact bD rfl) (by exact bD rfl) (by exact zA hS rfl zd),?_⟩)
    exact ⟨rfl,hS.bM⟩
 ·clear hbs
  have hC:oW k err=((0,0),aS k []):=by unfold oW;rw [if_pos hb]
  rw [hC]
  simp only
  have hb':(aS k [] == 0)=false:=by rw [beq_eq_false_iff_ne];exact hb
  have hE:Go.RowKit.Hid (∃ e,aS k []=e):=aj ⟨_,rfl⟩
  obtain ⟨e,he⟩:=hE.out
  rw [he] at hb' ⊢
  replace hC:=aj hC;replace he:=aj he
  go_enter_defers Tryd.func43,Tryd.ntmps43
  go_wp2_with (first | (first | ((first | ((with_reducible refine gL ?_);first | refine gY hS rfl rfl rfl ?_ | refine lW hS rfl rfl rfl ?_) | ((with_reducible refine gS ?_);refine pX hS rfl rfl rfl ?_));refine ⟨_,zd,?_⟩;clear hS;(try clear w');refine zF ?_;intro w' hS;(try simp only [sE] at hS)) | ((with_reducible refine gA ?_);refine aT 6 rfl hS rfl rfl ?_;clear hS;(try clear w');intro b6;refine zF ?_;intro w' hS) | (((with_reducible refine gB ?_);refine jQ hS rfl rfl rfl ?_;refine ⟨_,za,?_⟩);clear hS;(try clear w');intro _;refine zF ?_;intro w' hS)) |
   (go_at_call 77;refine fF hS hk pG (by simp) hb ?_;rw [he.out];clear hS;(try clear w');intro w' hS))
  (refine bF (S:=(St w [] V [.blk b6 38 [.int .i64 e]])) [false,false,false,false] rfl (by kernel_rfl) ?_;replace hS:=St.eY hS;(refine hxa 0 rfl ?_;refine zH ?_);(refine C9 1 (by kernel_rfl) rfl rfl (St.aG hS) ?_;refine ⟨_,zp,?_⟩;refine zH ?_);(refine C9 2 (by kernel_rfl) rfl rfl (St.aG hS) ?_;refine ⟨_,zp,?_⟩;refine zH ?_);((refine jl 3 (by kernel_rfl) rfl hS rfl  rfl rfl ?_;refine ⟨_,zd,?_⟩);clear hS;(try clear w');refine zH ?_;intro w' hS;(try simp only [sE] at hS);refine ⟨(St.aG hS),?_⟩);refine wpAnyH_done (by kernel_rfl) ?_ _)
  go_wp2_with (fail)
  (refine iF hS ?_;clear hS;(try clear w');intro w' hS;(try simp only [sE] at hS);refine ⟨_,by exact results3 (r1:=.tmp 4) (r2:=.tmp 5) (r3:=.cell 6 38) (by kernel_rfl) (by exact bD rfl) (by exact bD rfl) (by exact zA hS rfl zd),?_⟩)
  exact ⟨by rfl,(hS.bM)⟩
theorem Zn (vv rv:Value) (k:Wk) (hk:iJ V vv rv k) (hG:GV V) (hV:V.In w) (hh:ay OC w) (err:Int) :
  kL Tryd.prog 43 #[.agg #[vv,rv],.int .i64 err] w fun r w'=>r=.returned (.tuple #[.int .i64 (oW k err).1.1,.int .i64 (oW k err).1.2,.int .i64 (oW k err).2])∧Kp w w':=by
 by_cases hbs:aS k []=0∧fQ err 0 9=false∧Go.Wg.settle k (aN k aC)=none
 ·obtain ⟨hb,ho,hst⟩:=hbs
  have hC:oW k err=if (fM k (aN k aC) err k.n).1 < 0 then ((0,0),11) else (fM k (aN k aC) err k.n,0):=by
   unfold oW
   rw [if_neg (by simp [hb]),ho,hst]
   rfl
  have hok:=dP hb
  have he:0≤err∧err≤9:=by
   unfold fQ at ho
   simp only [Bool.or_eq_false_iff,decide_eq_false_iff_not] at ho
   omega
  have hs:=gG k aC
  have hlo:=QU k hok aC
  have hhi:∀ i,((aN k aC).aP i).2≤1000:=fun i=>Int.le_trans (Jy k hok aC i) (by decide)
  refine jD Tryd.func43 (show Tryd.f43.body=some B43 from rfl) fun cs b hbf hbk hbr=>?_
  have e104:Tryd.f43.ntmps - (#[.agg #[vv,rv],.int .i64 err]:Array Value).size=104:=by kernel_rfl
  rw [e104]
  obtain ⟨tm0,htm⟩:∃ tm0,#[Value.agg #[vv,rv],.int .i64 err] ++ Array.replicate 104 undef=tm0:=⟨_,rfl⟩
  rw [htm]
  refine vI (tgt:=TT [2,3,4,5]) hbf hbk (show [Item.code B43].all qy=true by kernel_rfl) (fun d hd=>nomatch hd) hh
   (S:=fun a w'=>∃ p V' D b6 b8,((∃ f,a=⟨kH (.int .i64 err) (ptr b6) (ptr p) (ptr b8) undef undef undef undef undef undef undef undef undef f,[dC b6]⟩)∧a.tmps[29]? = some (ptr p)∧a.tmps[30]? = some (.agg (dJ (aN k aC)).toArray)) ∧
    NX V' p k D b8 (aN k aC)∧St w [] V' [.blk b6 38 [.int .i64 0]] w')
   (fun a w' τ d ⟨p,V',D,b6,b8,h1,h2,h3⟩=>⟨p,V',D,b6,b8,h1,h2,h3.re1 τ d⟩) (fun τ d=>?_) ?_
  ·rw [← htm]
   refine (PX (w:=w.re τ d) vv rv k hk hG hV err hb ho hst).mono ?_
   rintro a w' ⟨p,V',D,b6,b8,h1,h2,h3⟩
   exact ⟨p,V',D,b6,b8,h1,h2,h3.re0⟩
  ·rintro a w1 ⟨p,V',D,b6,b8,⟨⟨f1,rfl⟩,h29,h30⟩,hX,hS1⟩ hh1
   have e29:f1 29=ptr p:=Option.some.inj h29
   have e30:f1 30=.agg (dJ (aN k aC)).toArray:=Option.some.inj h30
   refine Qn hX hok hs hlo hhi hS1.view hh1 hbk (o:=ops8[2]!) (y:=.tmp 29) (z:=.tmp 30) (d:=31) rfl rfl rfl rfl rfl e29 e30 fun w2 hk2 hh2=>?_
   have hN2:=(N1.aaO hS1).step hk2
   have hbd:=GH k hok.le (aN k aC) false hlo
   have hB0:fM k (aN k aC) err 0=(-1,oQ (dW k (aN k aC) false)):=rfl
   obtain ⟨tt,htt⟩:∃ tt,dW k (aN k aC) false=tt:=⟨_,rfl⟩
   rw [htt] at hbd hB0 ⊢
   have hout:=fun Q h=>outer (w0:=w) (b6:=b6) (b:=b) (cs:=cs) (Q:=Q) hX hok hs hlo hhi err he.1 he.2 hbf hbk h k.n 0 (Nat.zero_add _)
   rw [hB0] at hout
   have eA:(Act.put ⟨kH (.int .i64 err) (ptr b6) (ptr p) (ptr b8) undef undef undef undef undef undef undef undef undef f1,[dC b6]⟩ (some 31) (aJ tt)) =
     ⟨kH (.int .i64 err) (ptr b6) (ptr p) (ptr b8) undef undef undef undef undef undef undef undef undef (fun j=>if j=31 then aJ tt else f1 j),[dC b6]⟩:=rfl
   rw [eA]
   refine vI (tgt:=jO) hbf hbk (Yl [3,4,5]) (CB b6 rfl) hh2 (S:=fun a w'=>(∃ f,a=⟨kH (.int .i64 err) (ptr b6) (ptr p) (ptr b8) (.int .i64 (-1)) (.int .i64 (oQ tt)) undef undef undef undef undef (.int .i64 k.n) (.int .i64 0) f,[dC b6]⟩)∧Kp w2 w')
    (fun a w' τ d h=>⟨h.1,adC h.2 τ d⟩) (fun τ d=>?_) ?_
   ·refine (aas (w:=w2.re τ d) hX _ _ _ _ _ _ _ _ _ _ _ _ (fun j=>if j=31 then aJ tt else f1 j) tt (hbd.mono (by omega)) (by simp) hN2.vin).mono ?_
    rintro a w' ⟨h1,h2⟩
    exact ⟨h1,uq h2⟩
   ·rintro a w3 ⟨⟨f3,rfl⟩,hk3⟩ hh3
    refine hout _ (fun w f v11 v12 v13 v14 v15 hN hh=>?_) w3 f3 undef undef undef undef undef (hN2.step hk3) hh3
    by_cases hneg:(fM k (aN k aC) err k.n).1 < 0
    ·rw [if_pos hneg] at hC
     rw [hC]
     refine vI (tgt:=[.code .ret,.code N28]) hbf hbk Ah (CB b6 rfl) hh (S:=fun a w'=>(a.tmps[4]? = some (.int .i64 0)∧a.tmps[5]? = some (.int .i64 0)∧a.tmps[6]? = some (ptr b6)∧a.defers=[dC b6])∧St _ [] V' [.blk b6 38 [.int .i64 11]] w')
      (fun a w' τ d h=>⟨h.1,h.2.re1 τ d⟩) (fun τ d=>Zb _ _ k.n b6 hok.le hneg _ _ _ _ _ _ _ _ f (hN.st.re1 τ d)) ?_
     rintro a w4 ⟨⟨h4,h5,h6,hd⟩,hS4⟩ hh4
     exact KU (k0:=[.code N28]) (by kernel_rfl) hbf hbk hh4 h4 h5 h6 hd hS4
    ·rw [if_neg hneg] at hC
     rw [hC]
     refine vI (tgt:=[.code .ret]) hbf hbk Ah (CB b6 rfl) hh (S:=fun a w'=>(a.tmps[4]? = some (.int .i64 (fM k (aN k aC) err k.n).1)∧a.tmps[5]? = some (.int .i64 (fM k (aN k aC) err k.n).2)∧a.tmps[6]? = some (ptr b6)∧a.defers=[dC b6])∧St _ [] V' [.blk b6 38 [.int .i64 0]] w')
      (fun a w' τ d h=>⟨h.1,h.2.re1 τ d⟩) (fun τ d=>YQ _ _ k.n b6 hok.le hneg _ _ _ _ _ _ _ _ f (hN.st.re1 τ d)) ?_
     rintro a w4 ⟨⟨h4,h5,h6,hd⟩,hS4⟩ hh4
     exact KU (k0:=[]) rfl hbf hbk hh4 h4 h5 h6 hd hS4
 ·refine uF lT xM (fun w h=>nomatch h.1) hh fun τ d=>?_
  exact (Vu (w:=w.re τ d) vv rv k hk hG hV err hbs).mono fun e w' h=>⟨h.1,⟨h.2.os,h.2.output,h.2.size,h.2.old⟩⟩
end Go.Proofs.YtjjmefieegcddaaDoor
namespace Go.Proofs.YtjjmefieegcddaaDoor
open Go.RowKit Go.Wg Go.Mm
theorem SK:qN (nJ [])=([29,15,11,15],0):=by kernel_rfl
theorem JR:iw (nJ []) 1=((15,17),0):=by kernel_rfl
theorem Vg:vX (nJ [])=((1,5),0):=by kernel_rfl
theorem SE:qQ (nJ [⟨1,0,20,1⟩])=([1],0):=by kernel_rfl
theorem Xa:oW (nJ []) 0=((0,3),0):=by kernel_rfl
theorem NZ:qx (nJ [⟨1,0,20,1⟩]) 1=(2,0):=by kernel_rfl
open Go.Wk
open Go Go.Sr Go.Ph Go.Tm Go.Conc
variable {w:World} {V:View} {w0:World} {X:List Nat} {L:List dF}
theorem Bz {k:Wk} {args:Array Value} {R:Ending→World→Prop} (hS:St w0 X V L w) (hm:Calls Tryd.prog 75 args w (U5 V w k)) (h:∀ (V':View) (vv rv:Value) (w':World),(∀ j o,V j=some o→V' j=some o)→iJ V' vv rv k→St w0 X V' L w'→R (.returned (.agg #[vv,rv])) w'):Calls Tryd.prog 75 args w R:=by
 refine hm.mono ?_
 rintro e w' ⟨V',vv,rv,rfl,hk,hn,hin,hwk⟩
 exact h V' vv rv w' (fun j o hj=>by rw [hn j (lt_of_heap (hS.view j o hj))];exact hj) hwk (hS.call hk hin hn)
theorem tZ {R:Ending→World→Prop} (hS:St w0 X V L w) (hB:Bs V) (h:∀ (V':View) (vv rv:Value) (w':World),(∀ j o,V j=some o→V' j=some o)→iJ V' vv rv (nJ [])→St w0 X V' L w'→R (.returned (.agg #[vv,rv])) w'):Calls Tryd.prog 75 #[.slice none 0 0] w R:=Bz hS (UM hB hS.view) h
theorem Ba {R:Ending→World→Prop} (hS:St w0 X V L w) (hB:Bs V) {bm:Nat} {r:je} (hm:∀ i v,(fH [r])[i]? = some v→V.Cell bm i v) (h:∀ (V':View) (vv rv:Value) (w':World),(∀ j o,V j=some o→V' j=some o)→iJ V' vv rv (nJ [r])→St w0 X V' L w'→R (.returned (.agg #[vv,rv])) w') :
  Calls Tryd.prog 75 #[.slice (some ⟨bm,0,none⟩) 1 1] w R:=Bz hS (Va hB hS.view r fun j v hj=>by rw [Nat.zero_add];exact hm j v hj) h
theorem xZ {f:FuncId} {args:Array Value} {R:Ending→World→Prop} {u:Value} {l:List Int} (hS:St w0 X V L w) (hc:Calls Tryd.prog f args w fun r w'=>∃ v,r=.returned (.tuple #[v,u])∧Kp w w'∧tY w w' v l)
  (h:∀ (V':View) (v:Value) (w':World),(∀ j o,V j=some o→V' j=some o)→VI V' v l→v.oneCell'=true→St w0 X V' L w'→R (.returned (.tuple #[v,u])) w'):Calls Tryd.prog f args w R:=by
 refine hc.mono ?_
 rintro e w' ⟨v,rfl,hk,ho⟩
 obtain ⟨V',h1,h2,h3⟩:=Um hS hk ho
 refine h V' v w' h1 h3 ?_ h2
 obtain ⟨a,cap,rfl,_⟩:=h3.is
 rfl
theorem Ls {vv rv:Value} {k:Wk} {R:Ending→World→Prop} {l:List Int} {e:Int} (hS:St w0 X V L w) (hB:Bs V) (hk:iJ V vv rv k) (hv:qN k=(l,e))
  (h:∀ (V':View) (v:Value) (w':World),(∀ j o,V j=some o→V' j=some o)→VI V' v l→v.oneCell'=true→St w0 X V' L w'→R (.returned (.tuple #[v,.int .i64 e])) w'):Calls Tryd.prog 27 #[.agg #[vv,rv]] w R:=by
 have hc:=Vh vv rv k hk hB.gv hS.view
 rw [hv] at hc
 exact xZ hS hc h
theorem MV {vv rv:Value} {k:Wk} {R:Ending→World→Prop} {l:List Int} {e:Int} (hS:St w0 X V L w) (hB:Bs V) (hk:iJ V vv rv k) (hv:qQ k=(l,e))
  (h:∀ (V':View) (v:Value) (w':World),(∀ j o,V j=some o→V' j=some o)→VI V' v l→v.oneCell'=true→St w0 X V' L w'→R (.returned (.tuple #[v,.int .i64 e])) w'):Calls Tryd.prog 34 #[.agg #[vv,rv]] w R:=by
 have hc:=VK vv rv k hk hB.gv hS.view
 rw [hv] at hc
 exact xZ hS hc h
theorem oq {vv rv:Value} {k:Wk} {R:Ending→World→Prop} {v a b e:Int} (hS:St w0 X V L w) (hB:Bs V) (hk:iJ V vv rv k) (hv:iw k v=((a,b),e))
  (h:∀ w',St w0 X V L w'→R (.returned (.tuple #[.agg #[.int .i64 a,.int .i64 b],.int .i64 e])) w'):Calls Tryd.prog 54 #[.agg #[vv,rv],.int .i64 v] w R:=by
 have hc:=RY vv rv k hk hB.gv hS.view v
 rw [hv] at hc
 exact aH hS ⟨_,hc,h⟩
theorem JC {vv rv:Value} {k:Wk} {R:Ending→World→Prop} {v a e:Int} (hS:St w0 X V L w) (hB:Bs V) (hk:iJ V vv rv k) (hv:qx k v=(a,e))
  (h:∀ w',St w0 X V L w'→R (.returned (.tuple #[.int .i64 a,.int .i64 e])) w'):Calls Tryd.prog 51 #[.agg #[vv,rv],.int .i64 v] w R:=by
 have hc:=RS vv rv k hk hB.gv hS.view v
 rw [hv] at hc
 exact aH hS ⟨_,hc,h⟩
theorem zu {l1 l2:List Int} {a b:Value} {R:Ending→World→Prop} (hS:St w0 X V L w) (h1:VI V a l1) (h2:VI V b l2) (n1:l1.length≤100) (n2:l2.length≤100) (he:l1=l2) (h:∀ w',St w0 X V L w'→R (.returned (.bool true)) w'):Calls Tryd.prog 31 #[a,b] w R:=by
 have hc:=SI l1 l2 a b h1 h2 n1 n2 hS.view
 rw [decide_eq_true he] at hc
 exact aH hS ⟨_,hc,h⟩
theorem YD {V:View} {b:Nat} {l:List Int} (hl:l.length≤100) (h:∀ i x,(aV l)[i]? = some x→V.Cell b i x):VI V (.slice (some ⟨b,0,none⟩) l.length l.length) l:=by
 refine ⟨⟨some ⟨b,0,none⟩,l.length,rfl,Nat.le_refl _,by unfold maxLen;omega,fun _=>⟨b,0,rfl,fun i hi j x hj=>?_⟩⟩⟩
 cases j with
 | succ j=>simp at hj
 | zero =>
  simp at hj
  subst hj
  have:=h i (.int .i64 (l.getD i 0)) (by simp [aV,List.getD_eq_getElem?_getD,List.getElem?_eq_getElem hi])
  simpa using this
noncomputable def B21:Code:=match Tryd.f21.body with | some c=>c | none=>.skip
noncomputable def Yz:Code:=match B21 with | .seq _ (.seq _ (.seq _ (.seq _ r)))=>r | _=>.skip
noncomputable def Zq:Code:=match Yz with | .seq _ (.seq _ r)=>r | _=>.skip
noncomputable def Gv:Array Oper:=match B21 with | .seq _ (.seq _ (.seq _ (.seq (.region _ o _) _)))=>o | _=>#[]
noncomputable def qm:Array Oper:=match Yz with | .seq _ (.seq (.region _ o _) _)=>o | _=>#[]
def Wd1 (w:World) (V:View) (a:Act) (w':World):Prop :=
 ∃ (V':View) (vv rv v1:Value) (b3:Nat),(∃ f:Nat→Value,a=⟨#[.bool false,v1,.int .i64 0,.pointer (some ⟨b3,0,none⟩),.int .i64 0,f 5,f 6,f 7,f 8,f 9,f 10,f 11,f 12,f 13,f 14,f 15,f 16,f 17,f 18,f 19,f 20,f 21,f 22,f 23,f 24,.agg #[vv,rv],f 26,f 27,f 28,f 29,f 30,f 31,f 32,f 33,f 34,f 35,f 36,f 37,f 38,f 39,f 40,f 41,f 42,f 43,f 44,f 45,f 46,f 47,f 48,f 49,f 50,f 51,f 52,f 53,f 54,f 55,f 56,f 57,f 58,f 59,f 60,f 61,f 62,f 63,f 64,f 65,f 66,f 67,f 68,f 69,f 70,f 71,f 72,f 73,f 74,f 75,f 76,f 77,f 78,f 79,f 80,f 81,f 82,f 83,f 84,f 85,f 86,f 87,f 88,f 89,f 90,f 91,f 92,f 93,f 94,f 95,f 96,f 97,f 98,f 99,f 100,f 101,f 102],[]⟩)∧(∀ j o,V j=some o→V' j=some o)∧iJ V' vv rv (nJ [])∧VI V' v1 [29,15,11,15]∧v1.oneCell'=true∧(∀ i v,[Value.int .i64 15,.int .i64 17][i]? = some v→V'.Cell b3 i v)∧St w [] V' [] w'
theorem U2 (hB:Bs V) (hV:V.In w):fA Tryd.prog [.inRegion Gv [1,2,3,4,5,6,7],.code Yz] (Wd1 w V) [.code B21] { tmps:=#[] ++ Array.replicate 103 undef,defers:=[] } w:=by
 have hS:=St.start w V hV
 simp only [Array.replicate_succ,Array.replicate_zero,List.push_toArray,List.append_toArray,List.nil_append,List.cons_append]
 refine au (aA ?_)
 go_wp2_with (fail)
 refine au (aA ?_)
 go_wp2_with (first | (go_at_call 75;refine tZ hS hB ?_;clear hS;(try clear w');intro V1 vv1 rv1 w' hV1 hk1 hS) | (go_at_call 27;refine Ls hS (hB.mono hV1) hk1 SK ?_;clear hS;(try clear w');intro V2 v1 w' hV2 hv1 hone hS))
 have hB2:Bs V2:=hB.mono fun j o h=>hV2 j o (hV1 j o h)
 refine au (aA ?_)
 go_wp2_with (first | (first | (((with_reducible refine gS ?_);refine bQ hS rfl rfl rfl ?_);refine ⟨_,zd,?_⟩;clear hS;(try clear w');refine zF ?_;intro w' hS;(try simp only [sE] at hS)) | ((with_reducible refine gA ?_);refine aT 3 rfl hS rfl rfl ?_;clear hS;(try clear w');intro b3;refine zF ?_;intro w' hS)) | (go_at_call 75;refine tZ hS hB2 ?_;clear hS;(try clear w');intro V3 vv3 rv3 w' hV3 hk3 hS) | (go_at_call 54;refine oq hS (hB2.mono hV3) hk3 JR ?_;clear hS;(try clear w');intro w' hS))
 obtain ⟨V4,hV4,hc4,hS4⟩:=pin hS
 clear hS
 have hS:=hS4
 clear hS4
 have hB4:Bs V4:=hB2.mono fun j o h=>hV4 j o (hV3 j o h)
 refine au (ig ?_)
 refine rZ (i:=0) rfl rfl (run_call_body rfl Tryd.func75 (by kernel_rfl) rfl) ?_
 simp only [List.map_toArray,List.map_cons,List.map_nil]
 show Calls Tryd.prog 75 #[.slice none 0 0] _ _
 refine tZ hS hB4 ?_
 clear hS
 intro V5 vv rv w' hV5 hk5 hS
 refine ⟨_,rfl,?_⟩
 have key:∀ a:Act,a=⟨#[.bool false,v1,.int .i64 0,.pointer (some ⟨b3,0,none⟩),.int .i64 0,a.tmps.getD 5 undef,a.tmps.getD 6 undef,a.tmps.getD 7 undef,a.tmps.getD 8 undef,a.tmps.getD 9 undef,a.tmps.getD 10 undef,a.tmps.getD 11 undef,a.tmps.getD 12 undef,a.tmps.getD 13 undef,a.tmps.getD 14 undef,a.tmps.getD 15 undef,a.tmps.getD 16 undef,a.tmps.getD 17 undef,a.tmps.getD 18 undef,a.tmps.getD 19 undef,a.tmps.getD 20 undef,a.tmps.getD 21 undef,a.tmps.getD 22 undef,a.tmps.getD 23 undef,a.tmps.getD 24 undef,.agg #[vv,rv],a.tmps.getD 26 undef,a.tmps.getD 27 undef,a.tmps.getD 28 undef,a.tmps.getD 29 undef,a.tmps.getD 30 undef,a.tmps.getD 31 undef,a.tmps.getD 32 undef,a.tmps.getD 33 undef,a.tmps.getD 34 undef,a.tmps.getD 35 undef,a.tmps.getD 36 undef,a.tmps.getD 37 undef,a.tmps.getD 38 undef,a.tmps.getD 39 undef,a.tmps.getD 40 undef,a.tmps.getD 41 undef,a.tmps.getD 42 undef,a.tmps.getD 43 undef,a.tmps.getD 44 undef,a.tmps.getD 45 undef,a.tmps.getD 46 undef,a.tmps.getD 47 undef,a.tmps.getD 48 undef,a.tmps.getD 49 undef,a.tmps.getD 50 undef,a.tmps.getD 51 undef,a.tmps.getD 52 undef,a.tmps.getD 53 undef,a.tmps.getD 54 undef,a.tmps.getD 55 undef,a.tmps.getD 56 undef,a.tmps.getD 57 undef,a.tmps.getD 58 undef,a.tmps.getD 59 undef,a.tmps.getD 60 undef,a.tmps.getD 61 undef,a.tmps.getD 62 undef,a.tmps.getD 63 undef,a.tmps.getD 64 undef,a.tmps.getD 65 undef,a.tmps.getD 66 undef,a.tmps.getD 67 undef,a.tmps.getD 68 undef,a.tmps.getD 69 undef,a.tmps.getD 70 undef,a.tmps.getD 71 undef,a.tmps.getD 72 undef,a.tmps.getD 73 undef,a.tmps.getD 74 undef,a.tmps.getD 75 undef,a.tmps.getD 76 undef,a.tmps.getD 77 undef,a.tmps.getD 78 undef,a.tmps.getD 79 undef,a.tmps.getD 80 undef,a.tmps.getD 81 undef,a.tmps.getD 82 undef,a.tmps.getD 83 undef,a.tmps.getD 84 undef,a.tmps.getD 85 undef,a.tmps.getD 86 undef,a.tmps.getD 87 undef,a.tmps.getD 88 undef,a.tmps.getD 89 undef,a.tmps.getD 90 undef,a.tmps.getD 91 undef,a.tmps.getD 92 undef,a.tmps.getD 93 undef,a.tmps.getD 94 undef,a.tmps.getD 95 undef,a.tmps.getD 96 undef,a.tmps.getD 97 undef,a.tmps.getD 98 undef,a.tmps.getD 99 undef,a.tmps.getD 100 undef,a.tmps.getD 101 undef,a.tmps.getD 102 undef],[]⟩→Wd1 w V a w':=fun a ha =>
  ⟨V5,vv,rv,v1,b3,⟨fun j=>a.tmps.getD j undef,ha⟩,fun j o h=>hV5 j o (hV4 j o (hV3 j o (hV2 j o (hV1 j o h)))),hk5,pW.mono (pW.mono (pW.mono hv1 hV3) hV4) hV5,hone,fun i v h=>(hc4 i v h).mono hV5,hS⟩
 exact bG (tgt:=[.inRegion Gv [1,2,3,4,5,6,7],.code Yz]) (key _ rfl)
def Wd2 (w:World) (V:View) (v1:Value) (b3:Nat) (a:Act) (w':World):Prop :=
 ∃ (V':View) (vv rv v7:Value) (b5:Nat),(∃ f:Nat→Value,a=⟨#[.bool false,v1,.int .i64 0,.pointer (some ⟨b3,0,none⟩),.int .i64 0,.pointer (some ⟨b5,0,none⟩),.int .i64 0,v7,.int .i64 0,f 9,f 10,f 11,f 12,f 13,f 14,f 15,f 16,f 17,f 18,f 19,f 20,f 21,f 22,f 23,f 24,f 25,f 26,f 27,f 28,f 29,f 30,f 31,f 32,f 33,f 34,f 35,f 36,.agg #[vv,rv],f 38,f 39,f 40,f 41,f 42,f 43,f 44,f 45,f 46,f 47,f 48,f 49,f 50,f 51,f 52,f 53,f 54,f 55,f 56,f 57,f 58,f 59,f 60,f 61,f 62,f 63,f 64,f 65,f 66,f 67,f 68,f 69,f 70,f 71,f 72,f 73,f 74,f 75,f 76,f 77,f 78,f 79,f 80,f 81,f 82,f 83,f 84,f 85,f 86,f 87,f 88,f 89,f 90,f 91,f 92,f 93,f 94,f 95,f 96,f 97,f 98,f 99,f 100,f 101,f 102],[]⟩)∧(∀ j o,V j=some o→V' j=some o)∧iJ V' vv rv (nJ [])∧VI V' v7 [1]∧v7.oneCell'=true∧(∀ i v,[Value.int .i64 1,.int .i64 5][i]? = some v→V'.Cell b5 i v)∧St w [] V' [] w'
theorem Vp (hB:Bs V) (hV:V.In w) (v1:Value) (b3:Nat) (f:Nat→Value):fA Tryd.prog [.inRegion qm [1,2,3,4,5,6,7,8],.code Zq] (Wd2 w V v1 b3) [.inRegion Gv [2,3,4,5,6,7],.code Yz] ⟨#[.bool false,v1,.int .i64 0,.pointer (some ⟨b3,0,none⟩),.int .i64 0,f 5,f 6,f 7,f 8,f 9,f 10,f 11,f 12,f 13,f 14,f 15,f 16,f 17,f 18,f 19,f 20,f 21,f 22,f 23,f 24,f 25,.tuple #[.agg #[.int .i64 1,.int .i64 5],.int .i64 0],f 27,f 28,f 29,f 30,f 31,f 32,f 33,f 34,f 35,f 36,f 37,f 38,f 39,f 40,f 41,f 42,f 43,f 44,f 45,f 46,f 47,f 48,f 49,f 50,f 51,f 52,f 53,f 54,f 55,f 56,f 57,f 58,f 59,f 60,f 61,f 62,f 63,f 64,f 65,f 66,f 67,f 68,f 69,f 70,f 71,f 72,f 73,f 74,f 75,f 76,f 77,f 78,f 79,f 80,f 81,f 82,f 83,f 84,f 85,f 86,f 87,f 88,f 89,f 90,f 91,f 92,f 93,f 94,f 95,f 96,f 97,f 98,f 99,f 100,f 101,f 102],[]⟩ w:=by
 have hS:=St.start w V hV
 refine cO (i:=2) (v:=.tuple #[.agg #[.int .i64 1,.int .i64 5],.int .i64 0]) (w':=w) rfl rfl rfl ?_
 refine cO (i:=3) (v:=.agg #[.int .i64 1,.int .i64 5]) (w':=w) rfl rfl rfl ?_
 refine cO (i:=4) (v:=.int .i64 0) (w':=w) rfl rfl rfl ?_
 refine cO (i:=5) rfl rfl (Aq (P:=Tryd.prog) hS (cs:=[.int .i64 0,.int .i64 0]) rfl (by kernel_rfl) (by kernel_rfl)).1 ?_
 replace hS:=hS.alloc 27 [.int .i64 0,.int .i64 0]
 generalize w.alloc (.cells [Value.int .i64 0,.int .i64 0].toArray 27)=w1 at hS ⊢
 obtain ⟨b5,hb5⟩:∃ b5,w.heap.size=b5:=⟨_,rfl⟩
 rw [hb5] at hS ⊢
 refine xK hS (i:=6) (vs:=[.int .i64 1,.int .i64 5]) rfl rfl rfl (j:=0) (i':=0) (n:=2) rfl rfl rfl (by simp [Value.oneCell']) (by kernel_rfl) rfl (by simp) ?_
 clear hS
 intro w2 hS
 simp only [List.set_cons_zero,splice,List.take_zero,List.nil_append,List.length_cons,List.length_nil,Nat.zero_add,List.append_nil,List.drop_nil,Nat.reduceAdd,List.drop_succ_cons,List.drop_zero] at hS
 refine cO (i:=7) (v:=.int .i64 0) (w':=w2) rfl rfl rfl ?_
 refine dH ?_
 show fA Tryd.prog [.inRegion qm [1,2,3,4,5,6,7,8],.code Zq] (Wd2 w V v1 b3) [.code Yz] ⟨#[.bool false,v1,.int .i64 0,.pointer (some ⟨b3,0,none⟩),.int .i64 0,.pointer (some ⟨b5,0,none⟩),.int .i64 0,f 7,f 8,f 9,f 10,f 11,f 12,f 13,f 14,f 15,f 16,f 17,f 18,f 19,f 20,f 21,f 22,f 23,.tuple #[.agg #[.int .i64 1,.int .i64 5],.int .i64 0],f 25,.tuple #[.agg #[.int .i64 1,.int .i64 5],.int .i64 0],.agg #[.int .i64 1,.int .i64 5],.int .i64 0,f 29,f 30,f 31,f 32,f 33,f 34,f 35,f 36,f 37,f 38,f 39,f 40,f 41,f 42,f 43,f 44,f 45,f 46,f 47,f 48,f 49,f 50,f 51,f 52,f 53,f 54,f 55,f 56,f 57,f 58,f 59,f 60,f 61,f 62,f 63,f 64,f 65,f 66,f 67,f 68,f 69,f 70,f 71,f 72,f 73,f 74,f 75,f 76,f 77,f 78,f 79,f 80,f 81,f 82,f 83,f 84,f 85,f 86,f 87,f 88,f 89,f 90,f 91,f 92,f 93,f 94,f 95,f 96,f 97,f 98,f 99,f 100,f 101,f 102],[]⟩ w2
 obtain ⟨V1,hV1,hc1,hS1⟩:=pin hS
 clear hS
 have hS:=hS1
 clear hS1
 have hB1:=hB.mono hV1
 refine au (aA ?_)
 go_wp2_with (first | (fail) | (go_at_call 42;refine aH hS ⟨_,y9 _ _ _ _ _,?_⟩;clear hS;(try clear w');intro w' hS) |
  ((with_reducible refine uP ?_);refine zU hS rfl (oP (a:=⟨1,0,20,1⟩) rfl rfl) ?_;clear hS;(try clear w');intro bm a' hp;(try simp only [fr] at hp);subst hp;intro w' hS;obtain ⟨V2,hV2,hc2,hS2⟩:=pin hS;clear hS;have hS:=hS2;clear hS2) |
  (go_at_call 75;refine Ba hS (hB1.mono hV2) hc2 ?_;clear hS;(try clear w');intro V3 vv3 rv3 w' hV3 hk3 hS) |
  (go_at_call 34;refine MV hS ((hB1.mono hV2).mono hV3) hk3 SE ?_;clear hS;(try clear w');intro V4 v7 w' hV4 hv7 hone hS))
 have hB4:Bs V4:=((hB1.mono hV2).mono hV3).mono hV4
 refine au (ig ?_)
 refine rZ (i:=0) rfl rfl (run_call_body rfl Tryd.func75 (by kernel_rfl) rfl) ?_
 simp only [List.map_toArray,List.map_cons,List.map_nil]
 show Calls Tryd.prog 75 #[.slice none 0 0] _ _
 refine tZ hS hB4 ?_
 clear hS
 intro V5 vv rv w' hV5 hk5 hS
 refine ⟨_,rfl,?_⟩
 have key:∀ a:Act,a=⟨#[.bool false,v1,.int .i64 0,.pointer (some ⟨b3,0,none⟩),.int .i64 0,.pointer (some ⟨b5,0,none⟩),.int .i64 0,v7,.int .i64 0,a.tmps.getD 9 undef,a.tmps.getD 10 undef,a.tmps.getD 11 undef,a.tmps.getD 12 undef,a.tmps.getD 13 undef,a.tmps.getD 14 undef,a.tmps.getD 15 undef,a.tmps.getD 16 undef,a.tmps.getD 17 undef,a.tmps.getD 18 undef,a.tmps.getD 19 undef,a.tmps.getD 20 undef,a.tmps.getD 21 undef,a.tmps.getD 22 undef,a.tmps.getD 23 undef,a.tmps.getD 24 undef,a.tmps.getD 25 undef,a.tmps.getD 26 undef,a.tmps.getD 27 undef,a.tmps.getD 28 undef,a.tmps.getD 29 undef,a.tmps.getD 30 undef,a.tmps.getD 31 undef,a.tmps.getD 32 undef,a.tmps.getD 33 undef,a.tmps.getD 34 undef,a.tmps.getD 35 undef,a.tmps.getD 36 undef,.agg #[vv,rv],a.tmps.getD 38 undef,a.tmps.getD 39 undef,a.tmps.getD 40 undef,a.tmps.getD 41 undef,a.tmps.getD 42 undef,a.tmps.getD 43 undef,a.tmps.getD 44 undef,a.tmps.getD 45 undef,a.tmps.getD 46 undef,a.tmps.getD 47 undef,a.tmps.getD 48 undef,a.tmps.getD 49 undef,a.tmps.getD 50 undef,a.tmps.getD 51 undef,a.tmps.getD 52 undef,a.tmps.getD 53 undef,a.tmps.getD 54 undef,a.tmps.getD 55 undef,a.tmps.getD 56 undef,a.tmps.getD 57 undef,a.tmps.getD 58 undef,a.tmps.getD 59 undef,a.tmps.getD 60 undef,a.tmps.getD 61 undef,a.tmps.getD 62 undef,a.tmps.getD 63 undef,a.tmps.getD 64 undef,a.tmps.getD 65 undef,a.tmps.getD 66 undef,a.tmps.getD 67 undef,a.tmps.getD 68 undef,a.tmps.getD 69 undef,a.tmps.getD 70 undef,a.tmps.getD 71 undef,a.tmps.getD 72 undef,a.tmps.getD 73 undef,a.tmps.getD 74 undef,a.tmps.getD 75 undef,a.tmps.getD 76 undef,a.tmps.getD 77 undef,a.tmps.getD 78 undef,a.tmps.getD 79 undef,a.tmps.getD 80 undef,a.tmps.getD 81 undef,a.tmps.getD 82 undef,a.tmps.getD 83 undef,a.tmps.getD 84 undef,a.tmps.getD 85 undef,a.tmps.getD 86 undef,a.tmps.getD 87 undef,a.tmps.getD 88 undef,a.tmps.getD 89 undef,a.tmps.getD 90 undef,a.tmps.getD 91 undef,a.tmps.getD 92 undef,a.tmps.getD 93 undef,a.tmps.getD 94 undef,a.tmps.getD 95 undef,a.tmps.getD 96 undef,a.tmps.getD 97 undef,a.tmps.getD 98 undef,a.tmps.getD 99 undef,a.tmps.getD 100 undef,a.tmps.getD 101 undef,a.tmps.getD 102 undef],[]⟩→Wd2 w V v1 b3 a w':=fun a ha =>
  ⟨V5,vv,rv,v7,b5,⟨fun j=>a.tmps.getD j undef,ha⟩,fun j o h=>hV5 j o (hV4 j o (hV3 j o (hV2 j o (hV1 j o h)))),hk5,pW.mono hv7 hV5,hone,fun i v h=>(((hc1 i v h).mono hV2).mono hV3 |>.mono hV4).mono hV5,hS⟩
 exact bG (tgt:=[.inRegion qm [1,2,3,4,5,6,7,8],.code Zq]) (key _ rfl)
theorem TD {o:Oper} {ρ:Operand→Value} {x y:Operand} (ho:o.op=.binOp .eql 27 x y 27) (hx:ρ x=.agg #[.int .i64 15,.int .i64 17]) (hy:ρ y=.agg #[.int .i64 15,.int .i64 17]) (w:World):(execOp ρ o).run Tryd.prog w=.ok (.value (.bool true)) w:=by
 unfold execOp
 simp only [ho,hx,hy]
 kernel_rfl
theorem Sm {o:Oper} {ρ:Operand→Value} {x y:Operand} (ho:o.op=.binOp .eql 27 x y 27) (hx:ρ x=.agg #[.int .i64 1,.int .i64 5]) (hy:ρ y=.agg #[.int .i64 1,.int .i64 5]) (w:World):(execOp ρ o).run Tryd.prog w=.ok (.value (.bool true)) w:=by
 unfold execOp
 simp only [ho,hx,hy]
 kernel_rfl
theorem aaX {ops:Array Oper} {Q:Exit→Act→World→Prop} {d:Option Tmp} {x y:Operand} {t:TypeId} {p:String} {af:Array Edge} {g:Option (Nat × Bool)} {rest:List Oper} {a:Act} (h:wpList Tryd.prog ops Q (⟨d,.binOp .eql 27 x y 27,t,p,af,g⟩ :: rest) a w):wpList Tryd.prog ops Q (⟨d,.binOp .eql 27 x y 27,t,p,af,g⟩ :: rest) a w:=h
theorem UN (hB:Bs V) (hV:V.In w) (v1 v7:Value) (b3 b5:Nat) (o1:v1.oneCell'=true) (o7:v7.oneCell'=true) (h1:VI V v1 [29,15,11,15]) (h7:VI V v7 [1]) (h3:∀ i v,[Value.int .i64 15,.int .i64 17][i]? = some v→V.Cell b3 i v) (h5:∀ i v,[Value.int .i64 1,.int .i64 5][i]? = some v→V.Cell b5 i v) (f:Nat→Value) :
  fA Tryd.prog [.code .ret] (fun a w'=>a.tmps[0]? = some (.bool true)∧a.defers=[]∧Kp w w') [.inRegion qm [2,3,4,5,6,7,8],.code Zq] ⟨#[.bool false,v1,.int .i64 0,.pointer (some ⟨b3,0,none⟩),.int .i64 0,.pointer (some ⟨b5,0,none⟩),.int .i64 0,v7,.int .i64 0,f 9,f 10,f 11,f 12,f 13,f 14,f 15,f 16,f 17,f 18,f 19,f 20,f 21,f 22,f 23,f 24,f 25,f 26,f 27,f 28,f 29,f 30,f 31,f 32,f 33,f 34,f 35,f 36,f 37,.tuple #[.int .i64 0,.int .i64 3,.int .i64 0],f 39,f 40,f 41,f 42,f 43,f 44,f 45,f 46,f 47,f 48,f 49,f 50,f 51,f 52,f 53,f 54,f 55,f 56,f 57,f 58,f 59,f 60,f 61,f 62,f 63,f 64,f 65,f 66,f 67,f 68,f 69,f 70,f 71,f 72,f 73,f 74,f 75,f 76,f 77,f 78,f 79,f 80,f 81,f 82,f 83,f 84,f 85,f 86,f 87,f 88,f 89,f 90,f 91,f 92,f 93,f 94,f 95,f 96,f 97,f 98,f 99,f 100,f 101,f 102],[]⟩ w:=by
 have hS:=St.start w V hV
 refine cO (i:=2) (v:=.tuple #[.int .i64 0,.int .i64 3,.int .i64 0]) (w':=w) rfl rfl rfl ?_
 show fA Tryd.prog [.code .ret] _ (.inRegion qm [3,4,5,6,7,8] :: _) ⟨#[.bool false,v1,.int .i64 0,.pointer (some ⟨b3,0,none⟩),.int .i64 0,.pointer (some ⟨b5,0,none⟩),.int .i64 0,v7,.int .i64 0,f 9,f 10,f 11,f 12,f 13,f 14,f 15,f 16,f 17,f 18,f 19,f 20,f 21,f 22,f 23,f 24,f 25,f 26,f 27,f 28,f 29,f 30,f 31,f 32,f 33,f 34,f 35,.tuple #[.int .i64 0,.int .i64 3,.int .i64 0],f 37,.tuple #[.int .i64 0,.int .i64 3,.int .i64 0],f 39,f 40,f 41,f 42,f 43,f 44,f 45,f 46,f 47,f 48,f 49,f 50,f 51,f 52,f 53,f 54,f 55,f 56,f 57,f 58,f 59,f 60,f 61,f 62,f 63,f 64,f 65,f 66,f 67,f 68,f 69,f 70,f 71,f 72,f 73,f 74,f 75,f 76,f 77,f 78,f 79,f 80,f 81,f 82,f 83,f 84,f 85,f 86,f 87,f 88,f 89,f 90,f 91,f 92,f 93,f 94,f 95,f 96,f 97,f 98,f 99,f 100,f 101,f 102],[]⟩ w
 refine cO (i:=3) (v:=.int .i64 0) (w':=w) rfl rfl rfl ?_
 show fA Tryd.prog [.code .ret] _ (.inRegion qm [4,5,6,7,8] :: _) ⟨#[.bool false,v1,.int .i64 0,.pointer (some ⟨b3,0,none⟩),.int .i64 0,.pointer (some ⟨b5,0,none⟩),.int .i64 0,v7,.int .i64 0,f 9,f 10,f 11,f 12,f 13,f 14,f 15,f 16,f 17,f 18,f 19,f 20,f 21,f 22,f 23,f 24,f 25,f 26,f 27,f 28,f 29,f 30,f 31,f 32,f 33,f 34,f 35,.tuple #[.int .i64 0,.int .i64 3,.int .i64 0],f 37,.tuple #[.int .i64 0,.int .i64 3,.int .i64 0],.int .i64 0,f 40,f 41,f 42,f 43,f 44,f 45,f 46,f 47,f 48,f 49,f 50,f 51,f 52,f 53,f 54,f 55,f 56,f 57,f 58,f 59,f 60,f 61,f 62,f 63,f 64,f 65,f 66,f 67,f 68,f 69,f 70,f 71,f 72,f 73,f 74,f 75,f 76,f 77,f 78,f 79,f 80,f 81,f 82,f 83,f 84,f 85,f 86,f 87,f 88,f 89,f 90,f 91,f 92,f 93,f 94,f 95,f 96,f 97,f 98,f 99,f 100,f 101,f 102],[]⟩ w
 refine cO (i:=4) (v:=.int .i64 3) (w':=w) rfl rfl rfl ?_
 show fA Tryd.prog [.code .ret] _ (.inRegion qm [5,6,7,8] :: _) ⟨#[.bool false,v1,.int .i64 0,.pointer (some ⟨b3,0,none⟩),.int .i64 0,.pointer (some ⟨b5,0,none⟩),.int .i64 0,v7,.int .i64 0,f 9,f 10,f 11,f 12,f 13,f 14,f 15,f 16,f 17,f 18,f 19,f 20,f 21,f 22,f 23,f 24,f 25,f 26,f 27,f 28,f 29,f 30,f 31,f 32,f 33,f 34,f 35,.tuple #[.int .i64 0,.int .i64 3,.int .i64 0],f 37,.tuple #[.int .i64 0,.int .i64 3,.int .i64 0],.int .i64 0,.int .i64 3,f 41,f 42,f 43,f 44,f 45,f 46,f 47,f 48,f 49,f 50,f 51,f 52,f 53,f 54,f 55,f 56,f 57,f 58,f 59,f 60,f 61,f 62,f 63,f 64,f 65,f 66,f 67,f 68,f 69,f 70,f 71,f 72,f 73,f 74,f 75,f 76,f 77,f 78,f 79,f 80,f 81,f 82,f 83,f 84,f 85,f 86,f 87,f 88,f 89,f 90,f 91,f 92,f 93,f 94,f 95,f 96,f 97,f 98,f 99,f 100,f 101,f 102],[]⟩ w
 refine cO (i:=5) (v:=.int .i64 0) (w':=w) rfl rfl rfl ?_
 show fA Tryd.prog [.code .ret] _ (.inRegion qm [6,7,8] :: _) ⟨#[.bool false,v1,.int .i64 0,.pointer (some ⟨b3,0,none⟩),.int .i64 0,.pointer (some ⟨b5,0,none⟩),.int .i64 0,v7,.int .i64 0,f 9,f 10,f 11,f 12,f 13,f 14,f 15,f 16,f 17,f 18,f 19,f 20,f 21,f 22,f 23,f 24,f 25,f 26,f 27,f 28,f 29,f 30,f 31,f 32,f 33,f 34,f 35,.tuple #[.int .i64 0,.int .i64 3,.int .i64 0],f 37,.tuple #[.int .i64 0,.int .i64 3,.int .i64 0],.int .i64 0,.int .i64 3,.int .i64 0,f 42,f 43,f 44,f 45,f 46,f 47,f 48,f 49,f 50,f 51,f 52,f 53,f 54,f 55,f 56,f 57,f 58,f 59,f 60,f 61,f 62,f 63,f 64,f 65,f 66,f 67,f 68,f 69,f 70,f 71,f 72,f 73,f 74,f 75,f 76,f 77,f 78,f 79,f 80,f 81,f 82,f 83,f 84,f 85,f 86,f 87,f 88,f 89,f 90,f 91,f 92,f 93,f 94,f 95,f 96,f 97,f 98,f 99,f 100,f 101,f 102],[]⟩ w
 refine cO (i:=6) (v:=.int .i64 0) (w':=w) rfl rfl rfl ?_
 show fA Tryd.prog [.code .ret] _ (.inRegion qm [7,8] :: _) ⟨#[.bool false,v1,.int .i64 0,.pointer (some ⟨b3,0,none⟩),.int .i64 0,.pointer (some ⟨b5,0,none⟩),.int .i64 0,v7,.int .i64 0,.int .i64 0,f 10,f 11,f 12,f 13,f 14,f 15,f 16,f 17,f 18,f 19,f 20,f 21,f 22,f 23,f 24,f 25,f 26,f 27,f 28,f 29,f 30,f 31,f 32,f 33,f 34,f 35,.tuple #[.int .i64 0,.int .i64 3,.int .i64 0],f 37,.tuple #[.int .i64 0,.int .i64 3,.int .i64 0],.int .i64 0,.int .i64 3,.int .i64 0,f 42,f 43,f 44,f 45,f 46,f 47,f 48,f 49,f 50,f 51,f 52,f 53,f 54,f 55,f 56,f 57,f 58,f 59,f 60,f 61,f 62,f 63,f 64,f 65,f 66,f 67,f 68,f 69,f 70,f 71,f 72,f 73,f 74,f 75,f 76,f 77,f 78,f 79,f 80,f 81,f 82,f 83,f 84,f 85,f 86,f 87,f 88,f 89,f 90,f 91,f 92,f 93,f 94,f 95,f 96,f 97,f 98,f 99,f 100,f 101,f 102],[]⟩ w
 refine cO (i:=7) (v:=.int .i64 3) (w':=w) rfl rfl rfl ?_
 show fA Tryd.prog [.code .ret] _ (.inRegion qm [8] :: _) ⟨#[.bool false,v1,.int .i64 0,.pointer (some ⟨b3,0,none⟩),.int .i64 0,.pointer (some ⟨b5,0,none⟩),.int .i64 0,v7,.int .i64 0,.int .i64 0,.int .i64 3,f 11,f 12,f 13,f 14,f 15,f 16,f 17,f 18,f 19,f 20,f 21,f 22,f 23,f 24,f 25,f 26,f 27,f 28,f 29,f 30,f 31,f 32,f 33,f 34,f 35,.tuple #[.int .i64 0,.int .i64 3,.int .i64 0],f 37,.tuple #[.int .i64 0,.int .i64 3,.int .i64 0],.int .i64 0,.int .i64 3,.int .i64 0,f 42,f 43,f 44,f 45,f 46,f 47,f 48,f 49,f 50,f 51,f 52,f 53,f 54,f 55,f 56,f 57,f 58,f 59,f 60,f 61,f 62,f 63,f 64,f 65,f 66,f 67,f 68,f 69,f 70,f 71,f 72,f 73,f 74,f 75,f 76,f 77,f 78,f 79,f 80,f 81,f 82,f 83,f 84,f 85,f 86,f 87,f 88,f 89,f 90,f 91,f 92,f 93,f 94,f 95,f 96,f 97,f 98,f 99,f 100,f 101,f 102],[]⟩ w
 refine cO (i:=8) (v:=.int .i64 0) (w':=w) rfl rfl rfl ?_
 show fA Tryd.prog [.code .ret] _ (.inRegion qm [] :: _) ⟨#[.bool false,v1,.int .i64 0,.pointer (some ⟨b3,0,none⟩),.int .i64 0,.pointer (some ⟨b5,0,none⟩),.int .i64 0,v7,.int .i64 0,.int .i64 0,.int .i64 3,.int .i64 0,f 12,f 13,f 14,f 15,f 16,f 17,f 18,f 19,f 20,f 21,f 22,f 23,f 24,f 25,f 26,f 27,f 28,f 29,f 30,f 31,f 32,f 33,f 34,f 35,.tuple #[.int .i64 0,.int .i64 3,.int .i64 0],f 37,.tuple #[.int .i64 0,.int .i64 3,.int .i64 0],.int .i64 0,.int .i64 3,.int .i64 0,f 42,f 43,f 44,f 45,f 46,f 47,f 48,f 49,f 50,f 51,f 52,f 53,f 54,f 55,f 56,f 57,f 58,f 59,f 60,f 61,f 62,f 63,f 64,f 65,f 66,f 67,f 68,f 69,f 70,f 71,f 72,f 73,f 74,f 75,f 76,f 77,f 78,f 79,f 80,f 81,f 82,f 83,f 84,f 85,f 86,f 87,f 88,f 89,f 90,f 91,f 92,f 93,f 94,f 95,f 96,f 97,f 98,f 99,f 100,f 101,f 102],[]⟩ w
 refine dH ?_
 show fA Tryd.prog [.code .ret] _ [.code Zq] ⟨#[.bool false,v1,.int .i64 0,.pointer (some ⟨b3,0,none⟩),.int .i64 0,.pointer (some ⟨b5,0,none⟩),.int .i64 0,v7,.int .i64 0,.int .i64 0,.int .i64 3,.int .i64 0,f 12,f 13,f 14,f 15,f 16,f 17,f 18,f 19,f 20,f 21,f 22,f 23,f 24,f 25,f 26,f 27,f 28,f 29,f 30,f 31,f 32,f 33,f 34,f 35,.tuple #[.int .i64 0,.int .i64 3,.int .i64 0],f 37,.tuple #[.int .i64 0,.int .i64 3,.int .i64 0],.int .i64 0,.int .i64 3,.int .i64 0,f 42,f 43,f 44,f 45,f 46,f 47,f 48,f 49,f 50,f 51,f 52,f 53,f 54,f 55,f 56,f 57,f 58,f 59,f 60,f 61,f 62,f 63,f 64,f 65,f 66,f 67,f 68,f 69,f 70,f 71,f 72,f 73,f 74,f 75,f 76,f 77,f 78,f 79,f 80,f 81,f 82,f 83,f 84,f 85,f 86,f 87,f 88,f 89,f 90,f 91,f 92,f 93,f 94,f 95,f 96,f 97,f 98,f 99,f 100,f 101,f 102],[]⟩ w
 refine au (aA ?_)
 go_wp2_with (first | (fail) | (go_at_call 42;refine aH hS ⟨_,y9 _ _ _ _ _,?_⟩;clear hS;(try clear w');intro w' hS) |
  ((with_reducible refine uP ?_);refine zU hS rfl (oP (a:=⟨1,0,20,1⟩) rfl rfl) ?_;clear hS;(try clear w');intro bm a' hp;(try simp only [fr] at hp);subst hp;intro w' hS;obtain ⟨V2,hV2,hc2,hS2⟩:=pin hS;clear hS;have hS:=hS2;clear hS2) |
  (go_at_call 75;refine Ba hS (hB.mono hV2) hc2 ?_;clear hS;(try clear w');intro V3 vv3 rv3 w' hV3 hk3 hS) |
  (go_at_call 51;refine JC hS ((hB.mono hV2).mono hV3) hk3 NZ ?_;clear hS;(try clear w');intro w' hS))
 have hB3:Bs V3:=(hB.mono hV2).mono hV3
 have h1':VI V3 v1 [29,15,11,15]:=pW.mono (pW.mono h1 hV2) hV3
 have h7':VI V3 v7 [1]:=pW.mono (pW.mono h7 hV2) hV3
 have hr3:V3.Range b3 0 [.int .i64 15,.int .i64 17]:=fun j v hj=>by rw [Nat.zero_add];exact ((h3 j v hj).mono hV2).mono hV3
 have hr5:V3.Range b5 0 [.int .i64 1,.int .i64 5]:=fun j v hj=>by rw [Nat.zero_add];exact ((h5 j v hj).mono hV2).mono hV3
 clear h1 h7 h3 h5 hc2
 refine au (aA ?_)
 go_wp2_with (first | (((with_reducible refine gL ?_);refine zQ hS rfl rfl rfl ?_);refine ⟨_,zd,?_⟩;clear hS;(try clear w');refine zF ?_;intro w' hS) | ((with_reducible refine aaX ?_);first | (refine Gx rfl (TD rfl rfl rfl) ?_;refine zF ?_) | (refine Gx rfl (Sm rfl rfl rfl) ?_;refine zF ?_)) |
  (((with_reducible refine uP ?_);refine rE hS rfl rfl ?_;refine ⟨_,zq,zd,?_⟩;clear hS;(try clear w');intro _;refine zF ?_;intro w' hS);obtain ⟨V4,hV4,hc4,hS4⟩:=pin hS;clear hS;have hS:=hS4;clear hS4) |
  (go_at_call 31;first | (refine zu hS (pW.mono h1' hV4) (YD (l:=[29,15,11,15]) (by decide) hc4) (by decide) (by decide) rfl ?_;clear hS;(try clear w');clear h1';intro w' hS;replace h7':=pW.mono h7' hV4;clear hc4 hV4) | (refine zu hS (pW.mono h7' hV4) (YD (l:=[1]) (by decide) hc4) (by decide) (by decide) rfl ?_;clear hS;(try clear w');intro w' hS)))
 exact bG (tgt:=[.code .ret]) ⟨rfl,rfl,hS.bM⟩
theorem Oh {b:Frame} {cs:List Frame} {Q:Goroutine→World→Prop} {a:Act} {N:FuncId} {args:Array Value} {R:Ending→World→Prop} {ops:Array Oper} {l:List Nat} {k0:List Item} {i:Nat} {o:Oper} (hc:kL Tryd.prog N args w R) (hh:ay OC w) (hbk:b.kind=.normal)
  (ho:ops[i]? = some o) (hw:Region.wanted o (yielded ops a.tmps)=true) (hok':qj true o.op=true) (hr:∀ w,(execOp a.eval o).run Tryd.prog w=.ok (.enter N args) w) (hpan:∀ ch w,¬ R (.panicked ch) w)
  (hk:∀ v w',R (.returned v) w'→ay OC w'→kU Tryd.prog (G (b.at (a.put o.dst v) (.inRegion ops l :: k0)) cs) w' Q):kU Tryd.prog (G (b.at a (.inRegion ops (i :: l) :: k0)) cs) w Q:=by
 refine Ou lT ho hw (by rw [hbk];decide) hok' hh (fun _ _ _=>trivial) fun d=>?_
 rw [hr]
 intro hhd
 have hat:∀ {Q:Goroutine→World→Prop} {g:Goroutine},kU Tryd.prog g w Q→kU Tryd.prog g (w.at d) Q:=fun h=>h.at
 exact hat (xI ho hc (fun v w1 hv hh1=>hk v w1 hv hh1) fun ch w1 hv _=>(hpan ch w1 hv).elim)
theorem Vo {P:Program} {b:Frame} {cs:List Frame} {a:Act} {f:FuncId} {fn:Func} {v:Value} {R:Ending→World→Prop} {k0:List Item} (hb:b.fn=f) (hbk:b.kind=.normal) (hd:a.defers=[]) (hf:P.funcs[f]? = some fn) (hw:ay OC w) (hr:(results fn a.tmps).run P w=.ok v w) (hR:R (.returned v) w) (hins:Ins R) :
  kU P (G (b.at a (.code .ret :: k0)) cs) w (fun a' w'=>∃ e fr,a'=G fr cs∧R e w'∧fr.fn=f∧fr.leaving P w' e∧e≠.outgrown∧ay OC w') :=
 CV (Hz hb hbk hd hf hw hr hR hins)
theorem TB (hB:Bs V) (hV:V.In w) (hh:ay OC w):kL Tryd.prog 21 #[] w fun r w'=>r=.returned (.bool true)∧Kp w w':=by
 refine jD Tryd.func21 (show Tryd.f21.body=some B21 from rfl) fun cs b hbf hbk hbr=>?_
 have e103:Tryd.f21.ntmps - (#[]:Array Value).size=103:=by kernel_rfl
 rw [e103]
 obtain ⟨tm0,htm⟩:∃ tm0,(#[]:Array Value) ++ Array.replicate 103 undef=tm0:=⟨_,rfl⟩
 rw [htm]
 refine vI (tgt:=[.inRegion Gv [1,2,3,4,5,6,7],.code Yz]) hbf hbk (show [Item.code B21].all qy=true by kernel_rfl) (fun d hd=>nomatch hd) hh (S:=Wd1 w V)
  (fun a w' τ d ⟨V',vv,rv,v1,b3,h1,h2,h3,h4,h5,h6,h7⟩=>⟨V',vv,rv,v1,b3,h1,h2,h3,h4,h5,h6,h7.re1 τ d⟩) (fun τ d=>?_) ?_
 ·rw [← htm]
  refine (U2 (w:=w.re τ d) hB hV).mono ?_
  rintro a w' ⟨V',vv,rv,v1,b3,h1,h2,h3,h4,h5,h6,h7⟩
  exact ⟨V',vv,rv,v1,b3,h1,h2,h3,h4,h5,h6,h7.re0⟩
 rintro a w1 ⟨V1,vv,rv,v1,b3,⟨f,rfl⟩,hV1,hk1,hv1,ho1,hc3,hS1⟩ hh1
 have hB1:=hB.mono hV1
 have hL:=ZB vv rv (nJ []) hk1 hB1.gv hS1.view hh1
 rw [Vg] at hL
 refine Oh (i:=1) (o:=Gv[1]!) hL hh1 hbk rfl rfl rfl (fun w=>?_) (fun ch w h=>nomatch h.1) ?_
 ·rw [run_call_body rfl Tryd.func40 (by kernel_rfl) rfl]
  simp only [List.map_toArray,List.map_cons,List.map_nil]
  rfl
 rintro v w2 ⟨hv,hk2⟩ hh2
 cases hv
 have hS2:=hS1.kp hk2
 obtain ⟨a2,ha2⟩:∃ a2:Act,a2=⟨#[.bool false,v1,.int .i64 0,.pointer (some ⟨b3,0,none⟩),.int .i64 0,f 5,f 6,f 7,f 8,f 9,f 10,f 11,f 12,f 13,f 14,f 15,f 16,f 17,f 18,f 19,f 20,f 21,f 22,f 23,f 24,.agg #[vv,rv],.tuple #[.agg #[.int .i64 1,.int .i64 5],.int .i64 0],f 27,f 28,f 29,f 30,f 31,f 32,f 33,f 34,f 35,f 36,f 37,f 38,f 39,f 40,f 41,f 42,f 43,f 44,f 45,f 46,f 47,f 48,f 49,f 50,f 51,f 52,f 53,f 54,f 55,f 56,f 57,f 58,f 59,f 60,f 61,f 62,f 63,f 64,f 65,f 66,f 67,f 68,f 69,f 70,f 71,f 72,f 73,f 74,f 75,f 76,f 77,f 78,f 79,f 80,f 81,f 82,f 83,f 84,f 85,f 86,f 87,f 88,f 89,f 90,f 91,f 92,f 93,f 94,f 95,f 96,f 97,f 98,f 99,f 100,f 101,f 102],[]⟩:=⟨_,rfl⟩
 have eA:(Act.put ⟨#[.bool false,v1,.int .i64 0,.pointer (some ⟨b3,0,none⟩),.int .i64 0,f 5,f 6,f 7,f 8,f 9,f 10,f 11,f 12,f 13,f 14,f 15,f 16,f 17,f 18,f 19,f 20,f 21,f 22,f 23,f 24,.agg #[vv,rv],f 26,f 27,f 28,f 29,f 30,f 31,f 32,f 33,f 34,f 35,f 36,f 37,f 38,f 39,f 40,f 41,f 42,f 43,f 44,f 45,f 46,f 47,f 48,f 49,f 50,f 51,f 52,f 53,f 54,f 55,f 56,f 57,f 58,f 59,f 60,f 61,f 62,f 63,f 64,f 65,f 66,f 67,f 68,f 69,f 70,f 71,f 72,f 73,f 74,f 75,f 76,f 77,f 78,f 79,f 80,f 81,f 82,f 83,f 84,f 85,f 86,f 87,f 88,f 89,f 90,f 91,f 92,f 93,f 94,f 95,f 96,f 97,f 98,f 99,f 100,f 101,f 102],[]⟩ (some 26) (.tuple #[aJ (1,5),.int .i64 0]))=a2:=by rw [ha2];rfl
 show kU Tryd.prog (G (b.at (Act.put ⟨#[.bool false,v1,.int .i64 0,.pointer (some ⟨b3,0,none⟩),.int .i64 0,f 5,f 6,f 7,f 8,f 9,f 10,f 11,f 12,f 13,f 14,f 15,f 16,f 17,f 18,f 19,f 20,f 21,f 22,f 23,f 24,.agg #[vv,rv],f 26,f 27,f 28,f 29,f 30,f 31,f 32,f 33,f 34,f 35,f 36,f 37,f 38,f 39,f 40,f 41,f 42,f 43,f 44,f 45,f 46,f 47,f 48,f 49,f 50,f 51,f 52,f 53,f 54,f 55,f 56,f 57,f 58,f 59,f 60,f 61,f 62,f 63,f 64,f 65,f 66,f 67,f 68,f 69,f 70,f 71,f 72,f 73,f 74,f 75,f 76,f 77,f 78,f 79,f 80,f 81,f 82,f 83,f 84,f 85,f 86,f 87,f 88,f 89,f 90,f 91,f 92,f 93,f 94,f 95,f 96,f 97,f 98,f 99,f 100,f 101,f 102],[]⟩ (some 26) (.tuple #[aJ (1,5),.int .i64 0])) (.inRegion Gv [2,3,4,5,6,7] :: [.code Yz])) cs) w2 _
 rw [eA,ha2]
 refine vI (tgt:=[.inRegion qm [1,2,3,4,5,6,7,8],.code Zq]) hbf hbk (by kernel_rfl) (fun d hd=>nomatch hd) hh2 (S:=Wd2 w2 V1 v1 b3)
  (fun a w' τ d ⟨V',vv,rv,v1,b3,h1,h2,h3,h4,h5,h6,h7⟩=>⟨V',vv,rv,v1,b3,h1,h2,h3,h4,h5,h6,h7.re1 τ d⟩) (fun τ d=>?_) ?_
 ·refine (Vp (w:=w2.re τ d) hB1 hS2.view v1 b3 (fun j=>if j=25 then .agg #[vv,rv] else f j)).mono ?_
  rintro a w' ⟨V',vv,rv,v1,b3,h1,h2,h3,h4,h5,h6,h7⟩
  exact ⟨V',vv,rv,v1,b3,h1,h2,h3,h4,h5,h6,h7.re0⟩
 clear eA ha2
 rintro a w3 ⟨V3,vv3,rv3,v7,b5,⟨f3,rfl⟩,hV3,hk3,hv7,ho7,hc5,hS3⟩ hh3
 have hB3:=hB1.mono hV3
 have hN:=Zn vv3 rv3 (nJ []) hk3 hB3.gv hS3.view hh3 0
 rw [Xa] at hN
 refine Oh (i:=1) (o:=qm[1]!) hN hh3 hbk rfl rfl rfl (fun w=>?_) (fun ch w h=>nomatch h.1) ?_
 ·rw [run_call_body rfl Tryd.func43 (by kernel_rfl) rfl]
  simp only [List.map_toArray,List.map_cons,List.map_nil]
  rfl
 rintro v w4 ⟨hv,hk4⟩ hh4
 cases hv
 have hS4:=hS3.kp hk4
 have hkp:=((hS1.bM.trans hk2).trans hS3.bM).trans hk4
 obtain ⟨a4,ha4⟩:∃ a4:Act,a4=⟨#[.bool false,v1,.int .i64 0,.pointer (some ⟨b3,0,none⟩),.int .i64 0,.pointer (some ⟨b5,0,none⟩),.int .i64 0,v7,.int .i64 0,f3 9,f3 10,f3 11,f3 12,f3 13,f3 14,f3 15,f3 16,f3 17,f3 18,f3 19,f3 20,f3 21,f3 22,f3 23,f3 24,f3 25,f3 26,f3 27,f3 28,f3 29,f3 30,f3 31,f3 32,f3 33,f3 34,f3 35,f3 36,.agg #[vv3,rv3],.tuple #[.int .i64 0,.int .i64 3,.int .i64 0],f3 39,f3 40,f3 41,f3 42,f3 43,f3 44,f3 45,f3 46,f3 47,f3 48,f3 49,f3 50,f3 51,f3 52,f3 53,f3 54,f3 55,f3 56,f3 57,f3 58,f3 59,f3 60,f3 61,f3 62,f3 63,f3 64,f3 65,f3 66,f3 67,f3 68,f3 69,f3 70,f3 71,f3 72,f3 73,f3 74,f3 75,f3 76,f3 77,f3 78,f3 79,f3 80,f3 81,f3 82,f3 83,f3 84,f3 85,f3 86,f3 87,f3 88,f3 89,f3 90,f3 91,f3 92,f3 93,f3 94,f3 95,f3 96,f3 97,f3 98,f3 99,f3 100,f3 101,f3 102],[]⟩:=⟨_,rfl⟩
 have eA:(Act.put ⟨#[.bool false,v1,.int .i64 0,.pointer (some ⟨b3,0,none⟩),.int .i64 0,.pointer (some ⟨b5,0,none⟩),.int .i64 0,v7,.int .i64 0,f3 9,f3 10,f3 11,f3 12,f3 13,f3 14,f3 15,f3 16,f3 17,f3 18,f3 19,f3 20,f3 21,f3 22,f3 23,f3 24,f3 25,f3 26,f3 27,f3 28,f3 29,f3 30,f3 31,f3 32,f3 33,f3 34,f3 35,f3 36,.agg #[vv3,rv3],f3 38,f3 39,f3 40,f3 41,f3 42,f3 43,f3 44,f3 45,f3 46,f3 47,f3 48,f3 49,f3 50,f3 51,f3 52,f3 53,f3 54,f3 55,f3 56,f3 57,f3 58,f3 59,f3 60,f3 61,f3 62,f3 63,f3 64,f3 65,f3 66,f3 67,f3 68,f3 69,f3 70,f3 71,f3 72,f3 73,f3 74,f3 75,f3 76,f3 77,f3 78,f3 79,f3 80,f3 81,f3 82,f3 83,f3 84,f3 85,f3 86,f3 87,f3 88,f3 89,f3 90,f3 91,f3 92,f3 93,f3 94,f3 95,f3 96,f3 97,f3 98,f3 99,f3 100,f3 101,f3 102],[]⟩ (some 38) (.tuple #[.int .i64 0,.int .i64 3,.int .i64 0]))=a4:=by rw [ha4];rfl
 show kU Tryd.prog (G (b.at (Act.put ⟨#[.bool false,v1,.int .i64 0,.pointer (some ⟨b3,0,none⟩),.int .i64 0,.pointer (some ⟨b5,0,none⟩),.int .i64 0,v7,.int .i64 0,f3 9,f3 10,f3 11,f3 12,f3 13,f3 14,f3 15,f3 16,f3 17,f3 18,f3 19,f3 20,f3 21,f3 22,f3 23,f3 24,f3 25,f3 26,f3 27,f3 28,f3 29,f3 30,f3 31,f3 32,f3 33,f3 34,f3 35,f3 36,.agg #[vv3,rv3],f3 38,f3 39,f3 40,f3 41,f3 42,f3 43,f3 44,f3 45,f3 46,f3 47,f3 48,f3 49,f3 50,f3 51,f3 52,f3 53,f3 54,f3 55,f3 56,f3 57,f3 58,f3 59,f3 60,f3 61,f3 62,f3 63,f3 64,f3 65,f3 66,f3 67,f3 68,f3 69,f3 70,f3 71,f3 72,f3 73,f3 74,f3 75,f3 76,f3 77,f3 78,f3 79,f3 80,f3 81,f3 82,f3 83,f3 84,f3 85,f3 86,f3 87,f3 88,f3 89,f3 90,f3 91,f3 92,f3 93,f3 94,f3 95,f3 96,f3 97,f3 98,f3 99,f3 100,f3 101,f3 102],[]⟩ (some 38) (.tuple #[.int .i64 0,.int .i64 3,.int .i64 0])) (.inRegion qm [2,3,4,5,6,7,8] :: [.code Zq])) cs) w4 _
 rw [eA,ha4]
 refine vI (tgt:=[.code .ret]) hbf hbk (by kernel_rfl) (fun d hd=>nomatch hd) hh4 (S:=fun a w'=>a.tmps[0]? = some (.bool true)∧a.defers=[]∧Kp w4 w')
  (fun a w' τ d h=>⟨h.1,h.2.1,adC h.2.2 τ d⟩) (fun τ d=>?_) ?_
 ·refine (UN (w:=w4.re τ d) hB3 hS4.view v1 v7 b3 b5 ho1 ho7 (pW.mono hv1 hV3) hv7 (fun i v h=>(hc3 i v h).mono hV3) hc5 (fun j=>if j=37 then .agg #[vv3,rv3] else f3 j)).mono ?_
  rintro a w' ⟨h1,h2,h3⟩
  exact ⟨h1,h2,uq h3⟩
 rintro a w5 ⟨h0,hd,hk5⟩ hh5
 have g:a.tmps.getD 0 undef=.bool true:=by
  rw [Array.getD_eq_getD_getElem?,h0]
  rfl
 refine Vo (v:=.bool true) hbf hbk hd Tryd.func21 hh5 ?_ ⟨rfl,hkp.trans hk5⟩ xM
 have h:=results_tmp (fn:=Tryd.f21) (t:=0) (by kernel_rfl) a.tmps Tryd.prog w5
 rw [g] at h
 exact h
theorem oZ {P:Program} {l:List Oper} {md:Region.Mode} {o:Oper} {a:Act} {Q:Exit→Act→World→Prop} {S:World→Prop} {fuel:Nat} {listed:Array Bool} (i:Nat) (hr:Region.ready md l.toArray listed=[i]) (hi₀:l[i]? = some o) (hw:Region.wanted o (yielded l.toArray a.tmps)=true)
  (h:∃ f args,(execOp a.eval o).run P w=.ok (.enter f args) w∧Calls P f args w fun e w'=>∃ v,e=.returned v∧∀ a' l',a.put o.dst v=a'→listed.setIfInBounds i true=l'→S w'∧wpAnyH P md l.toArray Q S fuel l' a' w'):wpAnyH P md l.toArray Q S (fuel+1) listed a w:=by
 obtain ⟨f,args,hr',hc⟩:=h
 exact mG hr (yB (R:=fun v w'=>∀ a' l',a.put o.dst v=a'→listed.setIfInBounds i true=l'→S w'∧wpAnyH P md l.toArray Q S fuel l' a' w') (jV hi₀) hw hr' hc fun v w' h=>h _ _ rfl rfl)
theorem adD {w0:World} {X:List Nat} {L:List dF} {f:FuncId} {args:Array Value} {R:Ending→World→Prop} {l:List Int} (hS:St w0 X V L w) (hc:Calls Tryd.prog f args w fun r w'=>∃ u,r=.returned u∧Kp w w'∧tY w w' u l)
  (h:∀ (V':View) (v:Value) (w':World),(∀ j o,V j=some o→V' j=some o)→VI V' v l→v.oneCell'=true→St w0 X V' L w'→R (.returned v) w'):Calls Tryd.prog f args w R :=
 hc.mono fun r w' ⟨v,he,hk,ho⟩=>by
  obtain ⟨V',hV',hS',hv⟩:=Um hS hk ho
  subst he
  obtain ⟨a,cap,hi,_⟩:=hv.is
  exact h V' v w' hV' ⟨⟨a,cap,hi,‹_›⟩⟩ (by rw [hi];rfl) hS'
theorem wO {v:Value} {n sz:Nat} {get:Nat→List Value} (h:pW V v n sz get):v.oneCell'=true:=by
 obtain ⟨a,cap,rfl,_⟩:=h.is
 rfl
theorem IU {V V':View} {v:Value} {l:List Int} (h:VI V v l) (hV:∀ j o,V j=some o→V' j=some o):VI V' v l:=pW.mono h hV
end Go.Proofs.YtjjmefieegcddaaDoor
namespace Go.Wg
open Go Go.Mm Go.Proofs.YtjjmefieegcddaaDoor
structure Holds (g:Gr) (P:Nat→Int→Prop):Prop where
 wf:g.WF
 has:∀ n,g.has.testBit n=true↔∃ y,P n y
 lo:∀ n,g.has.testBit n=true→P n (g.get n).1
 hi:∀ n,g.has.testBit n=true→P n (g.get n).2
 all:∀ n y,P n y→(g.get n).1≤y∧y≤(g.get n).2
theorem acM {x n:Nat} (h1:x < 2199023255552) (h:x.testBit n=true):n≤40:=by
 rcases Nat.lt_or_ge n 41 with h2 | h2
 ·omega
 ·have:x.testBit n=false:=Nat.testBit_lt_two_pow (Nat.lt_of_lt_of_le h1 (by
   rw [show (2199023255552:Nat)=2 ^ 41 by decide]
   exact Nat.pow_le_pow_right (by decide) h2))
  rw [this] at h;cases h
theorem Holds.small {g:Gr} {P:Nat→Int→Prop} (h:Holds g P) {n:Nat} {y:Int} (hp:P n y):n≤40:=acM h.wf.small ((h.has n).2 ⟨y,hp⟩)
theorem Holds.congr {g:Gr} {P Q:Nat→Int→Prop} (h:Holds g P) (e:∀ n y,P n y↔Q n y):Holds g Q:=by
 have:P=Q:=funext fun n=>funext fun y=>propext (e n y)
 rwa [← this]
theorem aaM:Holds Gr.empty fun _ _=>False :=
 ⟨Gr.uQ,fun n=>⟨fun h=>by simp [Gr.empty] at h,fun ⟨_,h⟩=>h.elim⟩,fun n h=>by simp [Gr.empty] at h,fun n h=>by simp [Gr.empty] at h,fun n y h=>h.elim⟩
theorem abS (g:Gr) (n:Nat) (v:Int × Int) (m:Nat):(g.add n v).has.testBit m=(g.has.testBit m || decide (n=m)):=by
 show (g.has ||| 2 ^ n).testBit m=_
 rw [Nat.testBit_or,Nat.testBit_two_pow]
theorem add_get (g:Gr) (hg:g.WF) {n:Nat} (hn:n < 41) (v:Int × Int) (m:Nat):(g.add n v).get m=if n=m then (if g.has.testBit n then sO (g.get n) v else v) else g.get m:=by
 have hl:=hg.len
 show (g.at_.set n _).getD m (0,0)=_
 rw [fC _ _ _ _ _ (by omega)]
 rfl
theorem Holds.add {g:Gr} {P:Nat→Int→Prop} (h:Holds g P) {n:Nat} (hn:n < 41) {Q:Int→Prop} {v:Int × Int} (h1:Q v.1) (h2:Q v.2) (ha:∀ y,Q y→v.1≤y∧y≤v.2):Holds (g.add n v) fun m y=>P m y∨(m=n∧Q y):=by
 have hv:=ha _ h1
 refine ⟨h.wf.add hn v,fun m=>?_,fun m hm=>?_,fun m hm=>?_,fun m y hy=>?_⟩
 ·rw [abS,Bool.or_eq_true,decide_eq_true_eq,h.has]
  constructor
  ·rintro (⟨y,hy⟩ | rfl)
   ·exact ⟨y,.inl hy⟩
   ·exact ⟨_,.inr ⟨rfl,h1⟩⟩
  ·rintro ⟨y,hy | ⟨rfl,_⟩⟩
   ·exact .inl ⟨y,hy⟩
   ·exact .inr rfl
 ·rw [abS,Bool.or_eq_true,decide_eq_true_eq] at hm
  rw [add_get g h.wf hn]
  by_cases e:n=m
  ·subst e
   rw [if_pos rfl]
   split
   ·rename_i hb
    show P n (min (g.get n).1 v.1)∨(n=n∧Q (min (g.get n).1 v.1))
    rcases Int.le_total (g.get n).1 v.1 with h3 | h3
    ·rw [Int.min_eq_left h3];exact .inl (h.lo n hb)
    ·rw [Int.min_eq_right h3];exact .inr ⟨rfl,h1⟩
   ·exact .inr ⟨rfl,h1⟩
  ·rw [if_neg e]
   exact .inl (h.lo m (hm.resolve_right e))
 ·rw [abS,Bool.or_eq_true,decide_eq_true_eq] at hm
  rw [add_get g h.wf hn]
  by_cases e:n=m
  ·subst e
   rw [if_pos rfl]
   split
   ·rename_i hb
    show P n (max (g.get n).2 v.2)∨(n=n∧Q (max (g.get n).2 v.2))
    rcases Int.le_total (g.get n).2 v.2 with h3 | h3
    ·rw [Int.max_eq_right h3];exact .inr ⟨rfl,h2⟩
    ·rw [Int.max_eq_left h3];exact .inl (h.hi n hb)
   ·exact .inr ⟨rfl,h2⟩
  ·rw [if_neg e]
   exact .inl (h.hi m (hm.resolve_right e))
 ·rw [add_get g h.wf hn]
  by_cases e:n=m
  ·subst e
   rw [if_pos rfl]
   split
   ·show min _ _≤y∧y≤max _ _
    rcases hy with hy | ⟨_,hy⟩
    ·have:=h.all n y hy;omega
    ·have:=ha y hy;omega
   ·rename_i hb
    rcases hy with hy | ⟨_,hy⟩
    ·exact absurd ((h.has n).2 ⟨y,hy⟩) hb
    ·exact ha y hy
  ·rw [if_neg e]
   rcases hy with hy | ⟨rfl,_⟩
   ·exact h.all m y hy
   ·exact absurd rfl e
theorem acn (s:SS) (st:Bool) (i:Nat) (m:Nat) (hm:m≤41):Holds (lY s st i m) fun n y=>n < m∧(s.aK i).testBit n=true∧y=if st then (n:Int) else 0:=by
 induction m with
 | zero=>exact aaM.congr fun n y=>⟨fun h=>h.elim,fun h=>absurd h.1 (by omega)⟩
 | succ m ih =>
  rw [lY]
  have h:=ih (by omega)
  split
  ·rename_i hb
   refine (h.add (n:=m) (by omega) (Q:=fun y=>y=if st then (m:Int) else 0) (by cases st <;> rfl) (by cases st <;> rfl) (by rintro y rfl;cases st <;> simp)).congr fun n y=>?_
   constructor
   ·rintro (⟨h1,h2⟩ | ⟨rfl,h2⟩)
    ·exact ⟨by omega,h2⟩
    ·exact ⟨by omega,hb,h2⟩
   ·rintro ⟨h1,h2,h3⟩
    by_cases e:n=m
    ·subst e;exact .inr ⟨rfl,h3⟩
    ·exact .inl ⟨by omega,h2,h3⟩
  ·rename_i hb
   refine h.congr fun n y=>⟨fun ⟨h1,h2⟩=>⟨by omega,h2⟩,fun ⟨h1,h2,h3⟩=>⟨?_,h2,h3⟩⟩
   by_cases e:n=m
   ·subst e;exact absurd h2 hb
   ·omega
theorem acQ {a b g:Gr} {P Q R:Nat→Int→Prop} (ha:Holds a P) (hb:Holds b Q) (hg:Holds g R) (x:Nat) (m:Nat) (hm:x+m≤41) :
  Holds (rM a b x g m) fun n y=>R n y∨∃ q y1 y2,q < m∧n=x+q∧P x y1∧Q q y2∧y=y1+y2:=by
 induction m with
 | zero=>exact hg.congr fun n y=>⟨.inl,fun h=>h.elim id fun ⟨q,_,_,h,_⟩=>absurd h (by omega)⟩
 | succ m ih =>
  rw [rM]
  have h:=ih (by omega)
  split
  ·rename_i hc
   rw [Bool.and_eq_true] at hc
   refine (h.add (n:=x+m) (by omega) (Q:=fun y=>∃ y1 y2,P x y1∧Q m y2∧y=y1+y2) ⟨_,_,ha.lo x hc.1,hb.lo m hc.2,rfl⟩ ⟨_,_,ha.hi x hc.1,hb.hi m hc.2,rfl⟩ ?_).congr fun n y=>?_
   ·rintro y ⟨y1,y2,h1,h2,rfl⟩
    have:=ha.all _ _ h1
    have:=hb.all _ _ h2
    show (a.get x).1+(b.get m).1≤_∧_≤(a.get x).2+(b.get m).2
    omega
   ·constructor
    ·rintro ((h1 | ⟨q,y1,y2,h1,h2⟩) | ⟨rfl,y1,y2,h2⟩)
     ·exact .inl h1
     ·exact .inr ⟨q,y1,y2,by omega,h2⟩
     ·exact .inr ⟨m,y1,y2,by omega,rfl,h2⟩
    ·rintro (h1 | ⟨q,y1,y2,h1,h2,h3⟩)
     ·exact .inl (.inl h1)
     ·by_cases e:q=m
      ·subst e;exact .inr ⟨h2,y1,y2,h3⟩
      ·exact .inl (.inr ⟨q,y1,y2,by omega,h2,h3⟩)
  ·rename_i hc
   refine h.congr fun n y=>⟨fun h1=>h1.imp_right fun ⟨q,y1,y2,h1,h2⟩=>⟨q,y1,y2,by omega,h2⟩,fun h1=>h1.imp_right fun ⟨q,y1,y2,h1,h2,h3,h4,h5⟩=>⟨q,y1,y2,?_,h2,h3,h4,h5⟩⟩
   by_cases e:q=m
   ·subst e
    exact absurd (by rw [(ha.has x).2 ⟨y1,h3⟩,(hb.has q).2 ⟨y2,h4⟩];rfl) hc
   ·omega
theorem ab2 {a b:Gr} {P Q:Nat→Int→Prop} (ha:Holds a P) (hb:Holds b Q) (x:Nat) (hx:x≤41) :
  Holds (ku a b x) fun n y=>∃ p q y1 y2,p < x∧n=p+q∧n≤40∧P p y1∧Q q y2∧y=y1+y2:=by
 induction x with
 | zero=>exact aaM.congr fun n y=>⟨fun h=>h.elim,fun ⟨_,_,_,_,h,_⟩=>absurd h (by omega)⟩
 | succ x ih =>
  rw [ku]
  refine (acQ ha hb (ih (by omega)) x (41 - x) (by omega)).congr fun n y=>?_
  constructor
  ·rintro (⟨p,q,y1,y2,h1,h2⟩ | ⟨q,y1,y2,h1,h2,h3⟩)
   ·exact ⟨p,q,y1,y2,by omega,h2⟩
   ·exact ⟨x,q,y1,y2,by omega,h2,by omega,h3⟩
  ·rintro ⟨p,q,y1,y2,h1,h2,h3,h4⟩
   by_cases e:p=x
   ·subst e;exact .inr ⟨q,y1,y2,by omega,h2,h4⟩
   ·exact .inl ⟨p,q,y1,y2,by omega,h2,h3,h4⟩
theorem acu {a b:Gr} {P Q:Nat→Int→Prop} (ha:Holds a P) (hb:Holds b Q):Holds (pR a b) fun n y=>∃ p q y1 y2,n=p+q∧n≤40∧P p y1∧Q q y2∧y=y1+y2 :=
 (ab2 ha hb 41 (by omega)).congr fun n y=>⟨fun ⟨p,q,y1,y2,_,h⟩=>⟨p,q,y1,y2,h⟩,fun ⟨p,q,y1,y2,h1,h2,h3⟩=>⟨p,q,y1,y2,by omega,h1,h2,h3⟩⟩
theorem abG {F:Nat→Gr} {Px:Nat→Nat→Int→Prop}:∀ (l:List Nat),l.Nodup→(∀ x∈l,Holds (F x) (Px x))→∀ {g:Gr} {R:Nat→Int→Prop},Holds g R →
  Holds (l.foldl (fun sm x=>pR sm (F x)) g) fun n y=>n≤40∧∃ n0 y0,∃ (c:Nat→Nat) (z:Nat→Int),R n0 y0∧(∀ x∈l,Px x (c x) (z x))∧n=n0+(l.map c).sum∧y=y0+(l.map z).sum
 | [],_,_,g,R,hg=>hg.congr fun n y=>by
  constructor
  ·exact fun h=>⟨hg.small h,n,y,fun _=>0,fun _=>0,h,(fun x hx=>nomatch hx),by simp,by simp⟩
  ·rintro ⟨_,n0,y0,c,z,h,_,h2,h3⟩
   simp at h2 h3
   rw [h2,h3];exact h
 | x :: l,hd,hF,g,R,hg=>by
  obtain ⟨hx,hl⟩:=List.nodup_cons.1 hd
  rw [List.foldl_cons]
  refine (abG l hl (fun y hy=>hF y (List.mem_cons_of_mem _ hy)) (acu hg (hF x (List.mem_cons_self ..)))).congr fun n y=>?_
  constructor
  ·rintro ⟨h40,n0,y0,c,z,⟨p,q,y1,y2,h1,h2,h3,h4,h5⟩,h6,h7,h8⟩
   have e:∀ {β:Type} [Inhabited β] (c:Nat→β) (q:β),l.map (fun y=>if y=x then q else c y)=l.map c:=fun c q=>List.map_congr_left fun y hy=>by
    have:y≠x:=fun e=>hx (e ▸ hy)
    simp [this]
   refine ⟨h40,p,y1,fun y=>if y=x then q else c y,fun y=>if y=x then y2 else z y,h3,fun y hy=>?_,?_,?_⟩
   ·rcases List.mem_cons.1 hy with rfl | hy
    ·simpa using h4
    ·have:y≠x:=fun e=>hx (e ▸ hy)
     simpa [this] using h6 y hy
   ·rw [List.map_cons,List.sum_cons,e,if_pos rfl];omega
   ·rw [List.map_cons,List.sum_cons,e,if_pos rfl];omega
  ·rintro ⟨h40,n0,y0,c,z,h1,h2,h3,h4⟩
   rw [List.map_cons,List.sum_cons] at h3 h4
   exact ⟨h40,n0+c x,y0+z x,c,z,⟨n0,c x,y0,z x,rfl,by omega,h1,h2 x (List.mem_cons_self ..),rfl⟩,fun y hy=>h2 y (List.mem_cons_of_mem _ hy),by omega,by omega⟩
theorem abJ {sums g:Gr} {P R:Nat→Int→Prop} (hs:Holds sums P) (hg:Holds g R) (lim:Nat) (st:Bool) {lo:Int} (hlo:0≤lo) (x:Nat) (m:Nat) (hm:∀ j:Nat,j < m→x+(lo+j).toNat < 41) :
  Holds (iO sums lim st lo x g m) fun n y=>R n y∨∃ (j:Nat) (y1:Int),j < m∧n=x+(lo+j).toNat∧lim.testBit n=true∧P x y1∧y=if st then y1 else y1+(lo+j):=by
 induction m with
 | zero=>exact hg.congr fun n y=>⟨.inl,fun h=>h.elim id fun ⟨q,_,h,_⟩=>absurd h (by omega)⟩
 | succ m ih =>
  rw [iO]
  have h:=ih fun j hj=>hm j (by omega)
  split
  ·rename_i hc
   rw [Bool.and_eq_true] at hc
   refine (h.add (n:=x+(lo+m).toNat) (hm m (by omega)) (Q:=fun y=>∃ y1,P x y1∧y=if st then y1 else y1+(lo+m)) ⟨(sums.get x).1,hs.lo x hc.1,by cases st <;> rfl⟩ ⟨(sums.get x).2,hs.hi x hc.1,by cases st <;> rfl⟩ ?_).congr fun n y=>?_
   ·rintro y ⟨y1,h1,rfl⟩
    have:=hs.all _ _ h1
    cases st
    ·show (sums.get x).1+(lo+m)≤y1+(lo+m)∧y1+(lo+m)≤(sums.get x).2+(lo+m)
     omega
    ·exact this
   ·constructor
    ·rintro ((h1 | ⟨q,y1,h1,h2⟩) | ⟨rfl,y1,h2,h3⟩)
     ·exact .inl h1
     ·exact .inr ⟨q,y1,by omega,h2⟩
     ·exact .inr ⟨m,y1,by omega,rfl,hc.2,h2,h3⟩
    ·rintro (h1 | ⟨q,y1,h1,h2,h3,h4⟩)
     ·exact .inl (.inl h1)
     ·by_cases e:q=m
      ·subst e;exact .inr ⟨h2,y1,h4⟩
      ·exact .inl (.inr ⟨q,y1,by omega,h2,h3,h4⟩)
  ·rename_i hc
   refine h.congr fun n y=>⟨fun h1=>h1.imp_right fun ⟨q,y1,h1,h2⟩=>⟨q,y1,by omega,h2⟩,fun h1=>h1.imp_right fun ⟨q,y1,h1,h2,h3,h4,h5⟩=>⟨q,y1,?_,h2,h3,h4,h5⟩⟩
   by_cases e:q=m
   ·subst e
    rw [h2] at h3
    exact absurd (by rw [(hs.has x).2 ⟨y1,h4⟩,h3];rfl) hc
   ·omega
theorem abW {sums:Gr} {P:Nat→Int→Prop} (hs:Holds sums P) (lim:Nat) (st:Bool) {lo hi:Int} (hlo:0≤lo) (X:Nat) (hX:X≤41) :
  Holds (jY sums lim st lo hi X) fun n y=>∃ (x d:Nat) (y1:Int),x < X∧lo≤d∧(d:Int)≤hi∧n=x+d∧n≤40∧lim.testBit n=true∧P x y1∧y=if st then y1 else y1+d:=by
 induction X with
 | zero=>exact aaM.congr fun n y=>⟨fun h=>h.elim,fun ⟨_,_,_,h,_⟩=>absurd h (by omega)⟩
 | succ x ih =>
  rw [jY]
  have hN:∀ j:Nat,j < qY lo hi x→lo+j≤hi∧x+(lo+j).toNat < 41:=fun j hj=>by
   unfold qY at hj
   omega
  refine (abJ hs (ih (by omega)) lim st hlo x (qY lo hi x) fun j hj=>(hN j hj).2).congr fun n y=>?_
  constructor
  ·rintro (⟨p,d,y1,h1,h2⟩ | ⟨j,y1,h1,h2,h3,h4,h5⟩)
   ·exact ⟨p,d,y1,by omega,h2⟩
   ·have:=hN j h1
    refine ⟨x,(lo+j).toNat,y1,by omega,by omega,by omega,h2,by omega,h3,h4,?_⟩
    rw [h5,show ((lo+j).toNat:Int)=lo+j by omega]
  ·rintro ⟨p,d,y1,h1,h2,h3,h4,h5,h6,h7,h8⟩
   by_cases e:p=x
   ·subst e
    refine .inr ⟨(d - lo).toNat,y1,by unfold qY;omega,by omega,h6,h7,?_⟩
    rw [h8,show lo+((d - lo).toNat:Int)=d by omega]
   ·exact .inl ⟨p,d,y1,by omega,h2,h3,h4,h5,h6,h7,h8⟩
theorem aaU {α:Type} (p:α→Bool) (o:α→Int) (l:List α):((l.filter p).map o).sum=(l.map fun j=>if p j then o j else 0).sum:=by
 induction l with
 | nil=>rfl
 | cons a l ih =>
  by_cases h:p a=true
  ·rw [List.filter_cons_of_pos h];simp [ih,h]
  ·rw [List.filter_cons_of_neg h];simp [ih,h]
theorem sum_add {α:Type} (f g:α→Int) (l:List α):(l.map fun j=>f j+g j).sum=(l.map f).sum+(l.map g).sum:=by
 induction l with
 | nil=>rfl
 | cons a l ih=>simp only [List.map_cons,List.sum_cons,ih];omega
theorem abd {α:Type} {f:α→Int} {l:List α} (h:∀ x∈l,f x=0):(l.map f).sum=0:=by
 induction l with
 | nil=>rfl
 | cons a l ih=>rw [List.map_cons,List.sum_cons,h a (by simp),ih fun x hx=>h x (by simp [hx])];rfl
theorem abH {α:Type} {f:α→Int} {l:List α} {x:α} (hl:l.Nodup) (hx:x∈l) (h:∀ y∈l,y≠x→f y=0):(l.map f).sum=f x:=by
 induction l with
 | nil=>cases hx
 | cons a l ih =>
  obtain ⟨ha,hl⟩:=List.nodup_cons.1 hl
  rw [List.map_cons,List.sum_cons]
  rcases List.mem_cons.1 hx with rfl | hx
  ·rw [abd fun y hy=>h y (by simp [hy]) fun e=>ha (e ▸ hy)];omega
  ·rw [h a (by simp) fun e=>ha (e ▸ hx),ih hl hx fun y hy=>h y (by simp [hy])];omega
theorem ab8 {α β:Type} (g:α→β→Int) (f:List α) (l:List β):(f.map fun x=>(l.map fun j=>g x j).sum).sum=(l.map fun j=>(f.map fun x=>g x j).sum).sum:=by
 induction f with
 | nil=>simp only [List.map_nil,List.sum_nil];exact (abd fun _ _=>rfl).symm
 | cons a f ih =>
  simp only [List.map_cons,List.sum_cons]
  rw [ih,sum_add (fun j=>g a j) fun j=>(f.map fun x=>g x j).sum]
theorem acX {α:Type} {f g:α→Int} {l:List α} (h:∀ x∈l,f x≤g x):(l.map f).sum≤(l.map g).sum:=by
 induction l with
 | nil=>exact Int.le_refl _
 | cons a l ih =>
  have:=h a (by simp)
  have:=ih fun x hx=>h x (by simp [hx])
  simp only [List.map_cons,List.sum_cons]
  omega
def V6 (k:Wk) (o:Nat→Int) (i:Nat):Int:=(((List.range k.n).filter (inB k i)).map o).sum
theorem ace {k:Wk} {o o':Nat→Int} {i:Nat} (h:∀ j,j < k.n→inB k i j=true→o j=o' j):V6 k o i=V6 k o' i:=by
 unfold V6
 congr 1
 exact List.map_congr_left fun j hj=>by
  obtain ⟨h1,h2⟩:=List.mem_filter.1 hj
  exact h j (List.mem_range.1 h1) h2
theorem abB {k:Wk} (hok:k.Ok) (o:Nat→Int) {i:Nat} (hi:i < k.n):V6 k o i=o i+((k.fills i).map (V6 k o)).sum:=by
 have e1:((k.fills i).map (V6 k o)).sum=((List.range k.n).map fun j=>((k.fills i).map fun x=>if inB k x j then o j else 0).sum).sum:=by
  rw [← ab8]
  congr 1
  exact List.map_congr_left fun x _=>aaU _ _ _
 have e2:o i=((List.range k.n).map fun j=>if j=i then o j else 0).sum:=by
  rw [abH (x:=i) List.nodup_range (List.mem_range.2 hi) fun y _ hy=>if_neg hy,if_pos rfl]
 unfold V6
 rw [aaU]
 conv=>rhs;rw [e2]
 rw [show ((k.fills i).map fun i=>(((List.range k.n).filter (inB k i)).map o).sum).sum=((k.fills i).map (V6 k o)).sum from rfl,e1,← sum_add]
 congr 1
 refine List.map_congr_left fun j hj=>?_
 have hj':=List.mem_range.1 hj
 by_cases e:j=i
 ·subst e
  rw [if_pos rfl,if_pos (gq k j),abd fun x hx=>?_]
  ·omega
  ·rw [if_neg]
   intro h
   have h1:=DN hok x j hj' h
   have h2:=(rV hok hx).1
   omega
 ·rw [if_neg e]
  by_cases hb:inB k i j=true
  ·rw [if_pos hb]
   rcases Ie hok i j hj' hb with h | ⟨x,hx,hxb⟩
   ·exact absurd h e
   ·rw [abH (Bg k i) hx fun y hy hyx=>if_neg fun h=>hyx ?_,if_pos hxb]
    ·omega
    ·exact Qz hok (gK.1 hy).1 (gK.1 hx).1 (gK.1 hy).2 (gK.1 hx).2 j hj' h hxb
  ·rw [if_neg hb,abd fun x hx=>if_neg fun h=>hb (Rz hok hx j hj' h)]
   rfl
theorem aah {k:Wk} (hok:k.Ok) {r:Nat}:r∈k.sources↔r < k.n∧(k.v r).from_=-1:=by
 unfold Wk.sources
 rw [List.mem_filter,List.mem_range,decide_eq_true_eq]
 constructor
 ·rintro ⟨h1,h2⟩
  have:=(hok.ves r h1).1
  exact ⟨h1,by omega⟩
 ·rintro ⟨h1,h2⟩
  exact ⟨h1,by omega⟩
theorem abI (k:Wk):k.sources.Nodup:=List.nodup_range.filter _
theorem acz {k:Wk} (hok:k.Ok) (o:Nat→Int):((List.range k.n).map o).sum=(k.sources.map (V6 k o)).sum:=by
 have e1:(k.sources.map (V6 k o)).sum=((List.range k.n).map fun j=>(k.sources.map fun x=>if inB k x j then o j else 0).sum).sum:=by
  rw [← ab8]
  congr 1
  exact List.map_congr_left fun x _=>aaU _ _ _
 rw [e1]
 congr 1
 refine List.map_congr_left fun j hj=>?_
 have hj':=List.mem_range.1 hj
 obtain ⟨r,h1,h2,h3⟩:=Yf hok j hj'
 rw [abH (abI k) ((aah hok).2 ⟨h1,h2⟩) fun y hy hyx=>if_neg fun h=>hyx ?_,if_pos h3]
 have hy':=(aah hok).1 hy
 exact Qz hok hy'.1 h1 hy'.2 h2 j hj' h h3
def ac5 (k:Wk) (w:Nat→Nat) (st:Bool) (j:Nat):Int :=
 if k.fills j=[] then (if st then (w j:Int) else 0) else (if st then 0 else (w j:Int) - (((k.fills j).map w).sum:Nat))
theorem ab1 {k:Wk} {w w':Nat→Nat} (st:Bool) {j:Nat} (h1:w j=w' j) (h2:∀ x∈k.fills j,w x=w' x):ac5 k w st j=ac5 k w' st j:=by
 unfold ac5
 rw [h1,List.map_congr_left h2]
theorem aaZ {k:Wk} (hok:k.Ok) {w w':Nat→Nat} (st:Bool) {i:Nat} (h:∀ j,j < k.n→inB k i j=true→w j=w' j):V6 k (ac5 k w st) i=V6 k (ac5 k w' st) i :=
 ace fun j hj hb=>ab1 st (h j hj hb) fun x hx=>h x (gK.1 hx).1 (Hf hok hb hx)
theorem ab7 {k:Wk} (hok:k.Ok) {s:SS} {f:List Nat} {fr:Int} (hf:∀ x∈f,x < k.n∧(k.v x).from_=fr) {Wp:Nat→(Nat→Nat)→Prop} (hW:∀ x∈f,∃ w:Nat→Nat,Wp x w∧∀ j,j < k.n→inB k x j=true→Fit k s w j) (w0:Nat→Nat) :
  ∃ w:Nat→Nat,(∀ j,(∀ x∈f,inB k x j=false)→w j=w0 j)∧∀ x∈f,∃ wx:Nat→Nat,Wp x wx∧(∀ j,j < k.n→inB k x j=true→w j=wx j∧Fit k s w j):=by
 have hW':∀ x,∃ w:Nat→Nat,x∈f→Wp x w∧∀ j,j < k.n→inB k x j=true→Fit k s w j:=fun x=>by
  by_cases hx:x∈f
  ·obtain ⟨w,h⟩:=hW x hx
   exact ⟨w,fun _=>h⟩
  ·exact ⟨fun _=>0,fun h=>absurd h hx⟩
 let W:Nat→Nat→Nat:=fun x=>Classical.choose (hW' x)
 have hWs:∀ x∈f,Wp x (W x)∧∀ j,j < k.n→inB k x j=true→Fit k s (W x) j:=fun x hx=>Classical.choose_spec (hW' x) hx
 have gin:∀ {x j},x∈f→j < k.n→inB k x j=true→glue k f W w0 j=W x j:=fun {x j} hx hj hb=>Qh hx hb fun y hy hb'=>Qz hok (hf y hy).1 (hf x hx).1 (hf y hy).2 (hf x hx).2 j hj hb' hb
 refine ⟨glue k f W w0,fun j h=>Ve h,fun x hx=>⟨W x,(hWs x hx).1,fun j hj hb=>⟨gin hx hj hb,?_⟩⟩⟩
 exact ((hWs x hx).2 j hj hb).congr (gin hx hj hb) fun y hy=>gin hx (gK.1 hy).1 (Hf hok hb hy)
theorem abX {k:Wk} (hok:k.Ok) {s:SS} (hs:s.WF) (hlo:∀ i,0≤(s.aP i).1) (st:Bool):∀ (f i:Nat),i < k.n→k.n - i≤f →
  Holds (jm k s st f i) fun n y=>∃ w:Nat→Nat,w i=n∧(∀ j,j < k.n→inB k i j=true→Fit k s w j)∧y=V6 k (ac5 k w st) i:=fun f=>by
 induction f with
 | zero=>exact fun i h1 h2=>by omega
 | succ f ih =>
  intro i hi hf
  rw [jm]
  by_cases hn:k.fills i=[]
  ·rw [if_pos hn]
   refine (acn s st i 41 (by omega)).congr fun n y=>?_
   have hbr:∀ w,V6 k (ac5 k w st) i=if st then (w i:Int) else 0:=fun w=>by
    rw [abB hok _ hi,hn]
    simp [ac5,hn]
   constructor
   ·rintro ⟨h1,h2,h3⟩
    refine ⟨fun _=>n,rfl,fun j hj hb=>?_,by rw [hbr,h3]⟩
    rcases Ie hok i j hj hb with rfl | ⟨x,hx,_⟩
    ·exact ⟨h2,fun h=>absurd hn h⟩
    ·rw [hn] at hx;cases hx
   ·rintro ⟨w,rfl,h1,h2⟩
    have hl:=(h1 i hi (gq k i)).1
    have:=GU hs hl
    exact ⟨by omega,hl,by rw [h2,hbr]⟩
  ·rw [if_neg hn]
   have hfg:=fun x hx=>rV hok (i:=i) (x:=x) hx
   have hH:=abG (k.fills i) (Bg k i) (fun x hx=>ih x (hfg x hx).2 (by have:=hfg x hx;omega)) (aaM.add (n:=0) (by decide) (Q:=fun y=>y=0) (v:=(0,0)) rfl rfl (by rintro y rfl;simp))
   refine (abW hH (s.aK i) st (hlo i) (hi:=(s.aP i).2) 41 (by omega)).congr fun n y=>?_
   constructor
   ·rintro ⟨x,d,y1,h1,h2,h3,rfl,h5,h6,⟨h7,n0,y0,c,z,h8,h9,rfl,rfl⟩,h10⟩
    obtain ⟨rfl,rfl⟩:n0=0∧y0=0:=h8.resolve_left id
    obtain ⟨w,hw1,hw2⟩:=ab7 hok (f:=k.fills i) (fr:=(i:Int)) (fun x hx=>gK.1 hx) (Wp:=fun x w=>w x=c x∧z x=V6 k (ac5 k w st) x) (fun x hx=>by
     obtain ⟨w,g1,g2,g3⟩:=h9 x hx
     exact ⟨w,⟨g1,g3⟩,g2⟩) (fun _=>0+((k.fills i).map c).sum+d)
    have hwi:w i=0+((k.fills i).map c).sum+d:=hw1 i fun x hx=>by
     cases hh:inB k x i
     ·rfl
     ·have:=DN hok x i hi hh
      have:=hfg x hx
      omega
    have hwc:(k.fills i).map w=(k.fills i).map c:=List.map_congr_left fun x hx=>by
     obtain ⟨wx,⟨g1,_⟩,g2⟩:=hw2 x hx
     rw [(g2 x (hfg x hx).2 (gq k x)).1,g1]
    have hwz:(k.fills i).map (V6 k (ac5 k w st))=(k.fills i).map z:=List.map_congr_left fun x hx=>by
     obtain ⟨wx,⟨_,g1⟩,g2⟩:=hw2 x hx
     rw [g1]
     exact aaZ hok st fun j hj hb=>(g2 j hj hb).1
    refine ⟨w,hwi,fun j hj hb=>?_,?_⟩
    ·rcases Ie hok i j hj hb with rfl | ⟨x,hx,hbx⟩
     ·refine ⟨by rw [hwi];exact h6,fun _=>⟨d,?_,by rw [hwi,hwc];omega⟩⟩
      rw [wI]
      simp only [Bool.and_eq_true,decide_eq_true_eq]
      omega
     ·obtain ⟨wx,_,g2⟩:=hw2 x hx
      exact (g2 j hj hbx).2
    ·rw [abB hok _ hi,hwz,h10]
     unfold ac5
     rw [if_neg hn,hwc,hwi]
     cases st
     ·simp only [Bool.false_eq_true,if_false];omega
     ·simp only [if_true]
   ·rintro ⟨w,rfl,h1,h2⟩
    obtain ⟨hl,hd⟩:=h1 i hi (gq k i)
    obtain ⟨d,hd1,hd2⟩:=hd hn
    have h40:=GU hs hl
    rw [wI] at hd1
    simp only [Bool.and_eq_true,decide_eq_true_eq] at hd1
    refine ⟨((k.fills i).map w).sum,d,((k.fills i).map (V6 k (ac5 k w st))).sum,by omega,by omega,by omega,hd2,h40,hl,⟨by omega,0,0,w,V6 k (ac5 k w st),.inr ⟨rfl,rfl⟩,fun x hx=>?_,by omega,by omega⟩,?_⟩
    ·exact ⟨w,rfl,fun j hj hb=>h1 j hj (Rz hok hx j hj hb),rfl⟩
    ·rw [h2,abB hok _ hi]
     unfold ac5
     rw [if_neg hn,hd2]
     cases st
     ·simp only [Bool.false_eq_true,if_false];omega
     ·simp only [if_true];omega
theorem acj {g:Gr} {P:Nat→Int→Prop} (h:Holds g P) (m:Nat) :
  match gy g m with
  | none=>∀ n y,n < m→¬ P n y
  | some r=>(∃ n,n < m∧P n r.1)∧(∃ n,n < m∧P n r.2)∧∀ n y,n < m→P n y→r.1≤y∧y≤r.2:=by
 induction m with
 | zero=>exact fun n y hn=>absurd hn (by omega)
 | succ m ih =>
  rw [gy]
  by_cases hb:g.has.testBit m=true
  ·rw [if_pos hb]
   have h1:=h.lo m hb
   have h2:=h.hi m hb
   cases hf:gy g m with
   | none =>
    rw [hf] at ih
    refine ⟨⟨m,by omega,h1⟩,⟨m,by omega,h2⟩,fun n y hn hp=>?_⟩
    by_cases e:n=m
    ·subst e;exact h.all n y hp
    ·exact absurd hp (ih n y (by omega))
   | some r =>
    rw [hf] at ih
    obtain ⟨⟨n1,g1,g2⟩,⟨n2,g3,g4⟩,g5⟩:=ih
    refine ⟨?_,?_,fun n y hn hp=>?_⟩
    ·show ∃ n,n < m+1∧P n (min r.1 (g.get m).1)
     rcases Int.le_total r.1 (g.get m).1 with h3 | h3
     ·rw [Int.min_eq_left h3];exact ⟨n1,by omega,g2⟩
     ·rw [Int.min_eq_right h3];exact ⟨m,by omega,h1⟩
    ·show ∃ n,n < m+1∧P n (max r.2 (g.get m).2)
     rcases Int.le_total r.2 (g.get m).2 with h3 | h3
     ·rw [Int.max_eq_right h3];exact ⟨m,by omega,h2⟩
     ·rw [Int.max_eq_left h3];exact ⟨n2,by omega,g4⟩
    ·show min r.1 (g.get m).1≤y∧y≤max r.2 (g.get m).2
     by_cases e:n=m
     ·subst e;have:=h.all n y hp;omega
     ·have:=g5 n y (by omega) hp;omega
  ·rw [if_neg hb]
   have hno:∀ y,¬ P m y:=fun y hp=>hb ((h.has m).2 ⟨y,hp⟩)
   cases hf:gy g m with
   | none =>
    rw [hf] at ih
    intro n y hn hp
    by_cases e:n=m
    ·subst e;exact hno y hp
    ·exact ih n y (by omega) hp
   | some r =>
    rw [hf] at ih
    obtain ⟨⟨n1,g1,g2⟩,⟨n2,g3,g4⟩,g5⟩:=ih
    refine ⟨⟨n1,by omega,g2⟩,⟨n2,by omega,g4⟩,fun n y hn hp=>?_⟩
    by_cases e:n=m
    ·subst e;exact absurd hp (hno y)
    ·exact g5 n y (by omega) hp
theorem ab9 {k:Wk} (hok:k.Ok) {s:SS} (hs:s.WF) (hlo:∀ i,0≤(s.aP i).1) (st:Bool) {i:Nat} (hi:i < k.n) {w0:Nat→Nat} (h0:∀ j,j < k.n→inB k i j=true→Fit k s w0 j) :
  (∃ w:Nat→Nat,(∀ j,j < k.n→inB k i j=true→Fit k s w j)∧V6 k (ac5 k w st) i=(kX k s st i).1)∧(∃ w:Nat→Nat,(∀ j,j < k.n→inB k i j=true→Fit k s w j)∧V6 k (ac5 k w st) i=(kX k s st i).2) ∧
   ∀ w:Nat→Nat,(∀ j,j < k.n→inB k i j=true→Fit k s w j)→(kX k s st i).1≤V6 k (ac5 k w st) i∧V6 k (ac5 k w st) i≤(kX k s st i).2:=by
 have hH:=abX hok hs hlo st (k.n - i) i hi (Nat.le_refl _)
 have hf:=acj hH 41
 unfold kX Qg
 cases e:gy (jm k s st (k.n - i) i) 41 with
 | none =>
  rw [e] at hf
  have hp:∃ w:Nat→Nat,w i=w0 i∧(∀ j,j < k.n→inB k i j=true→Fit k s w j)∧V6 k (ac5 k w0 st) i=V6 k (ac5 k w st) i:=⟨w0,rfl,h0,rfl⟩
  have:=hH.small hp
  exact absurd hp (hf _ _ (by omega))
 | some r =>
  rw [e] at hf
  obtain ⟨⟨n1,_,w1,_,g1,g2⟩,⟨n2,_,w2,_,g3,g4⟩,g5⟩:=hf
  refine ⟨⟨w1,g1,g2.symm⟩,⟨w2,g3,g4.symm⟩,fun w hw=>?_⟩
  have hp:∃ w':Nat→Nat,w' i=w i∧(∀ j,j < k.n→inB k i j=true→Fit k s w' j)∧V6 k (ac5 k w st) i=V6 k (ac5 k w' st) i:=⟨w,rfl,hw,rfl⟩
  have:=hH.small hp
  exact g5 _ _ (by omega) hp
def aaw (k:Wk) (w:Nat→Nat) (st:Bool):Int:=((List.range k.n).map (ac5 k w st)).sum
theorem acO (k:Wk) (s:SS) (st:Bool):dW k s st=((k.sources.map fun i=>(kX k s st i).1).sum,(k.sources.map fun i=>(kX k s st i).2).sum):=by
 have key:∀ (l:List Nat) (t:Int × Int),l.foldl (fun t i=>dX t (kX k s st i)) t=(t.1+(l.map fun i=>(kX k s st i).1).sum,t.2+(l.map fun i=>(kX k s st i).2).sum):=fun l=>by
  induction l with
  | nil=>intro t;simp
  | cons a l ih =>
   intro t
   rw [List.foldl_cons,ih]
   simp only [dX,List.map_cons,List.sum_cons,Prod.mk.injEq]
   omega
 unfold dW
 rw [key]
 simp
theorem acr {k:Wk} (hok:k.Ok) {s:SS} (hs:s.WF) (hlo:∀ i,0≤(s.aP i).1) (st:Bool) {w0:Nat→Nat} (h0:Hu k s w0) :
  (∃ w,Hu k s w∧aaw k w st=(dW k s st).1)∧(∃ w,Hu k s w∧aaw k w st=(dW k s st).2)∧∀ w,Hu k s w→(dW k s st).1≤aaw k w st∧aaw k w st≤(dW k s st).2:=by
 have hF:=fun {i} (hi:i < k.n)=>ab9 hok hs hlo st hi fun j hj _=>h0 j hj
 have key:∀ g:Nat→Int,(∀ r∈k.sources,∃ w:Nat→Nat,V6 k (ac5 k w st) r=g r∧∀ j,j < k.n→inB k r j=true→Fit k s w j)→∃ w,Hu k s w∧aaw k w st=(k.sources.map g).sum:=fun g hg=>by
  obtain ⟨w,_,hw⟩:=ab7 hok (f:=k.sources) (fr:=-1) (fun x hx=>(aah hok).1 hx) (Wp:=fun x w=>V6 k (ac5 k w st) x=g x) hg fun _=>0
  refine ⟨w,fun j hj=>?_,?_⟩
  ·obtain ⟨r,h1,h2,h3⟩:=Yf hok j hj
   obtain ⟨wx,_,g2⟩:=hw r ((aah hok).2 ⟨h1,h2⟩)
   exact (g2 j hj h3).2
  ·unfold aaw
   rw [acz hok]
   congr 1
   refine List.map_congr_left fun x hx=>?_
   obtain ⟨wx,g1,g2⟩:=hw x hx
   rw [← g1]
   exact aaZ hok st fun j hj hb=>(g2 j hj hb).1
 rw [acO]
 refine ⟨key _ fun r hr=>?_,key _ fun r hr=>?_,fun w hw=>?_⟩
 ·obtain ⟨⟨w,h1,h2⟩,_⟩:=hF ((aah hok).1 hr).1
  exact ⟨w,h2,h1⟩
 ·obtain ⟨_,⟨w,h1,h2⟩,_⟩:=hF ((aah hok).1 hr).1
  exact ⟨w,h2,h1⟩
 ·unfold aaw
  rw [acz hok]
  refine ⟨acX fun r hr=>?_,acX fun r hr=>?_⟩
  ·obtain ⟨_,_,h⟩:=hF ((aah hok).1 hr).1
   exact (h w fun j hj _=>hw j hj).1
  ·obtain ⟨_,_,h⟩:=hF ((aah hok).1 hr).1
   exact (h w fun j hj _=>hw j hj).2
structure Least (S:Int→Prop) (r:Int × Int):Prop where
 lo:S r.1
 hi:S r.2
 all:∀ y,S y→r.1≤y∧y≤r.2
theorem Least.sub {S S':Int→Prop} {r r':Int × Int} (h:Least S r) (h':Least S' r') (e:∀ y,S y→S' y):r'.1≤r.1∧r.2≤r'.2 :=
 ⟨(h'.all _ (e _ h.lo)).1,(h'.all _ (e _ h.hi)).2⟩
theorem ab3 {k:Wk} (hok:k.Ok) {s:SS} (hs:s.WF) (hlo:∀ i,0≤(s.aP i).1) (st:Bool) {w0:Nat→Nat} (h0:Hu k s w0):Least (fun y=>∃ w,Hu k s w∧y=aaw k w st) (dW k s st):=by
 obtain ⟨⟨w1,a1,a2⟩,⟨w2,b1,b2⟩,h⟩:=acr hok hs hlo st h0
 exact ⟨⟨w1,a1,a2.symm⟩,⟨w2,b1,b2.symm⟩,by rintro y ⟨w,hw,rfl⟩;exact h w hw⟩
theorem abL {k:Wk} (hok:k.Ok) (st:Bool) {w0:Nat→Nat} (h0:Hu k (aN k aC) w0):Least (fun y=>∃ w,Hu k (aN k aC) w∧y=aaw k w st) (dW k (aN k aC) st):=ab3 hok (gG _ _) (QU k hok aC) st h0
def listOf (k:Wk) (w:Nat→Nat):List Int:=(List.range k.n).map fun i=>(w i:Int)
theorem adB (k:Wk) (w:Nat→Nat):(listOf k w).length=k.n:=by simp [listOf]
theorem listOf_at {k:Wk} (w:Nat→Nat) {i:Nat} (hi:i < k.n):(listOf k w).getD i 0=(w i:Int):=by
 simp [listOf,List.getD_eq_getElem?_getD,hi]
theorem adP (k:Wk) (w:Nat→Nat) (i:Nat):((k.fills i).map fun x=>((listOf k w).getD x 0).toNat).sum=((k.fills i).map w).sum:=by
 congr 1
 refine List.map_congr_left fun x hx=>?_
 rw [listOf_at w (gK.1 hx).1,Int.toNat_natCast]
theorem aeD {k:Wk} (hok:k.Ok) {w:Nat→Nat} (h:Hu k (aN k aC) w):Truth k (listOf k w):=by
 have hlim:∀ i,i < k.n→(w i:Int)≤(k.v i).room∧∀ r∈k.rdg,r.vessel.toNat=i→r.shown - r.err≤(w i:Int)∧(w i:Int)≤r.shown+r.err:=fun i hi=>by
  have h1:=(h i hi).1
  rw [Dh hok.le (yF hok) aC hi,TQ,wI] at h1
  obtain ⟨h2,h3⟩:=h1
  simp only [Bool.and_eq_true,decide_eq_true_eq] at h2
  refine ⟨h2.1.2,fun r hr he=>?_⟩
  have h4:=h3 r (List.mem_filter.2 ⟨hr,by simp [aC,he]⟩)
  rw [wI] at h4
  simp only [Bool.and_eq_true,decide_eq_true_eq] at h4
  exact h4.1
 refine ⟨adB k w,fun i hi=>?_,fun i hi hex=>?_,fun r hr=>?_⟩
 ·rw [listOf_at w hi]
  exact ⟨by omega,(hlim i hi).1⟩
 ·rw [OJ k _ (fun x hx=>by rw [listOf_at w hx];omega),adP,listOf_at w hi]
  obtain ⟨x,hx1,hx2⟩:=hex
  have hf:k.fills i≠[]:=List.ne_nil_of_mem (gK.2 ⟨hx1,hx2⟩)
  obtain ⟨d,hd,he⟩:=(h i hi).2 hf
  rw [rW k hok,if_pos hi,wI] at hd
  simp only [Bool.and_eq_true,decide_eq_true_eq] at hd
  generalize ((k.fills i).map w).sum=S at he ⊢
  omega
 ·have hv:=yF hok r hr
  rw [listOf_at w (by omega)]
  exact (hlim _ (by omega)).2 r hr rfl
def adx (k:Wk) (l:List Int) (i:Nat):Int:=if k.fills i=[] then 0 else l.getD i 0 - ((k.fills i).map fun x=>l.getD x 0).sum
def ads (k:Wk) (l:List Int):List Int:=(List.range k.n).map (adx k l)
theorem adA (k:Wk) (l:List Int):(ads k l).length=k.n:=by simp [ads]
def okV (k:Wk) (l:List Int) (i:Nat):Prop:=(0≤l.getD i 0∧l.getD i 0≤(k.v i).room)∧(k.fills i≠[]→(k.v i).lo≤adx k l i∧adx k l i≤(k.v i).hi)
def okR (l:List Int) (r:je):Prop:=-r.err≤l.getD r.vessel.toNat 0 - r.shown∧l.getD r.vessel.toNat 0 - r.shown≤r.err
theorem adS (l:List Int) (f:List Nat) (h:∀ x∈f,0≤l.getD x 0):(((f.map fun x=>(l.getD x 0).toNat).sum:Nat):Int)=(f.map fun x=>l.getD x 0).sum:=by
 induction f with
 | nil=>rfl
 | cons a f ih =>
  have h1:=h a (by simp)
  have h2:=ih fun x hx=>h x (by simp [hx])
  simp only [List.map_cons,List.sum_cons]
  omega
theorem ad2 {k:Wk} {l:List Int} (hl:l.length=k.n):Truth k l↔(∀ i,i < k.n→okV k l i)∧∀ r∈k.rdg,okR l r:=by
 have hs:(∀ x,x < k.n→0≤l.getD x 0)→∀ i,sumF (fun j=>(k.v j).from_) k.n l i=((k.fills i).map fun x=>l.getD x 0).sum:=fun h i=>by
  rw [OJ k l h,adS l _ fun x hx=>h x (gK.1 hx).1]
 constructor
 ·intro h
  have h0:∀ x,x < k.n→0≤l.getD x 0:=fun x hx=>(h.room x hx).1
  refine ⟨fun i hi=>⟨h.room i hi,fun hf=>?_⟩,fun r hr=>?_⟩
  ·obtain ⟨x,hx⟩:=List.exists_mem_of_ne_nil _ hf
   have:=h.loss i hi ⟨x,(gK.1 hx).1,(gK.1 hx).2⟩
   rw [hs h0] at this
   unfold adx
   rw [if_neg hf]
   exact this
  ·have:=h.rdg r hr
   unfold okR
   omega
 ·rintro ⟨h1,h2⟩
  have h0:∀ x,x < k.n→0≤l.getD x 0:=fun x hx=>(h1 x hx).1.1
  refine ⟨hl,fun i hi=>(h1 i hi).1,fun i hi ⟨x,hx1,hx2⟩=>?_,fun r hr=>?_⟩
  ·have hf:k.fills i≠[]:=List.ne_nil_of_mem (gK.2 ⟨hx1,hx2⟩)
   have:=(h1 i hi).2 hf
   unfold adx at this
   rw [if_neg hf] at this
   rw [hs h0]
   exact this
  ·have:=h2 r hr
   unfold okR at this
   omega
theorem aec {k:Wk} (w:Nat→Nat) {i:Nat} (hi:i < k.n):adx k (listOf k w) i=ac5 k w false i:=by
 unfold adx ac5
 by_cases hf:k.fills i=[]
 ·rw [if_pos hf,if_pos hf];rfl
 ·rw [if_neg hf,if_neg hf,← adS (listOf k w) _ fun x hx=>by rw [listOf_at w (gK.1 hx).1];omega,adP,listOf_at w hi]
  rfl
def adu (k:Wk) (l:List Int) (m:Nat):Int:=((List.range m).map fun i=>if k.fills i=[] then l.getD i 0 else 0).sum
theorem ad4 (k:Wk) (l:List Int) (m:Nat):adu k l (m+1)=adu k l m+if k.fills m=[] then l.getD m 0 else 0:=by
 unfold adu
 rw [List.range_succ,List.map_append,List.sum_append]
 simp
theorem aee {k:Wk} (w:Nat→Nat):adu k (listOf k w) k.n=aaw k w true:=by
 unfold adu aaw
 congr 1
 refine List.map_congr_left fun i hi=>?_
 have hi':=List.mem_range.1 hi
 unfold ac5
 rw [listOf_at w hi']
 rfl
theorem aem {k:Wk} (w:Nat→Nat):(ads k (listOf k w)).sum=aaw k w false:=by
 unfold ads aaw
 congr 1
 exact List.map_congr_left fun i hi=>aec w (List.mem_range.1 hi)
def adO (k:Wk) (l:List Int) (m:Nat):Int:=((List.range m).map fun i=>if (k.v i).from_ < 0 then l.getD i 0 else 0).sum
theorem aeu (k:Wk) (l:List Int) (m:Nat):adO k l (m+1)=adO k l m+if (k.v m).from_ < 0 then l.getD m 0 else 0:=by
 unfold adO
 rw [List.range_succ,List.map_append,List.sum_append]
 simp
theorem sum_neg {α:Type} (F:α→Int) (l:List α):(l.map fun i=>-F i).sum=-(l.map F).sum:=by
 induction l with
 | nil=>rfl
 | cons a t ih=>simp only [List.map_cons,List.sum_cons];omega
theorem aeI {k:Wk} (hok:k.Ok) (l:List Int):adO k l k.n=(ads k l).sum+adu k l k.n:=by
 unfold adO ads adu
 rw [← sum_add]
 have e1:∀ i∈List.range k.n,adx k l i+(if k.fills i=[] then l.getD i 0 else 0)=l.getD i 0 + -((List.range k.n).map fun j=>if (k.v j).from_=(i:Int) then l.getD j 0 else 0).sum:=fun i hi=>by
  have e2:((k.fills i).map fun x=>l.getD x 0).sum=((List.range k.n).map fun j=>if (k.v j).from_=(i:Int) then l.getD j 0 else 0).sum:=by
   unfold Wk.fills
   rw [aaU]
   congr 1
   refine List.map_congr_left fun j _=>?_
   by_cases c:(k.v j).from_=(i:Int)
   ·simp [c]
   ·simp [c]
  rw [← e2]
  unfold adx
  by_cases hf:k.fills i=[]
  ·rw [if_pos hf,if_pos hf,hf];simp
  ·rw [if_neg hf,if_neg hf];omega
 rw [List.map_congr_left e1,sum_add]
 have e3:((List.range k.n).map fun i:Nat=>-((List.range k.n).map fun j=>if (k.v j).from_=(i:Int) then l.getD j 0 else 0).sum).sum=-((List.range k.n).map fun i:Nat=>((List.range k.n).map fun j=>if (k.v j).from_=(i:Int) then l.getD j 0 else 0).sum).sum :=
  sum_neg _ _
 rw [e3,ab8 (fun (i:Nat) j=>if (k.v j).from_=(i:Int) then l.getD j 0 else 0)]
 have e4:∀ j∈List.range k.n,((List.range k.n).map fun i:Nat=>if (k.v j).from_=(i:Int) then l.getD j 0 else 0).sum=if (k.v j).from_ < 0 then 0 else l.getD j 0:=fun j hj=>by
  have hj':=List.mem_range.1 hj
  have hv:=(hok.ves j hj').2.1
  by_cases c:(k.v j).from_ < 0
  ·rw [if_pos c]
   exact abd fun i _=>if_neg (by omega)
  ·rw [if_neg c,abH (x:=(k.v j).from_.toNat) List.nodup_range (List.mem_range.2 (by omega)) fun y _ hy=>if_neg fun e=>hy (by omega),if_pos (by omega)]
 rw [List.map_congr_left e4]
 have e5:∀ j∈List.range k.n,(if (k.v j).from_ < 0 then l.getD j 0 else 0)=l.getD j 0 + -(if (k.v j).from_ < 0 then 0 else l.getD j 0):=fun j _=>by
  split <;> omega
 rw [List.map_congr_left e5,sum_add]
 rw [sum_neg]
theorem adU {k:Wk} (hok:k.Ok) {w0:Nat→Nat} (h0:Hu k (aN k aC) w0):∀ i,i≤k.n→(dQ k i).2.length=i∧(∃ w,Hu k (dQ k i).1 w)∧(∀ w,Hu k (dQ k i).1 w↔Hu k (aN k aC) w∧∀ j,j < i→(dQ k i).2.getD j 0=(w j:Int)) ∧
  ∀ w,Hu k (aN k aC) w→∀ j,j < i→(∀ j',j' < j→(dQ k i).2.getD j' 0=(w j':Int))→(dQ k i).2.getD j 0≤(w j:Int):=fun i=>by
 induction i with
 | zero=>exact fun _=>⟨rfl,⟨w0,h0⟩,fun w=>⟨fun h=>⟨h,fun j hj=>absurd hj (by omega)⟩,fun h=>h.1⟩,fun w _ j hj=>absurd hj (by omega)⟩
 | succ i ih =>
  intro hi
  obtain ⟨g1,⟨w1,g2⟩,g3,g4⟩:=ih (by omega)
  have hs:=Py k i
  have hc:∀ n,n≤40→(can k ((dQ k i).1.weighed i (n:Nat))=true↔∃ w,Hu k (dQ k i).1 w∧w i=n):=fun n hn=>vZ hok hs (by omega) hn
  have h40:∀ w,Hu k (dQ k i).1 w→w i≤40:=fun w hw=>GU hs (hw i (by omega)).1
  cases hf:su k (dQ k i).1 i with
  | none =>
   unfold su at hf
   rw [List.find?_eq_none] at hf
   exact absurd ((hc _ (h40 w1 g2)).2 ⟨w1,g2,rfl⟩) (hf (w1 i) (List.mem_range.2 (by have:=h40 w1 g2;omega)))
  | some n =>
   have hf':=hf
   unfold su at hf'
   rw [List.find?_range_eq_some] at hf'
   obtain ⟨hn1,hn2,hn3⟩:=hf'
   have hn2':=List.mem_range.1 hn2
   have hE:dQ k (i+1)=((dQ k i).1.weighed i n,(dQ k i).2 ++ [(n:Int)]):=by
    rw [dQ,hf]
   have gA:∀ j,j < i→((dQ k i).2 ++ [(n:Int)]).getD j 0=(dQ k i).2.getD j 0:=fun j hj=>by
    rw [List.getD_eq_getElem?_getD,List.getElem?_append_left (by omega),← List.getD_eq_getElem?_getD]
   have gB:((dQ k i).2 ++ [(n:Int)]).getD i 0=n:=by
    rw [List.getD_eq_getElem?_getD,List.getElem?_append_right (by omega),g1,Nat.sub_self]
    rfl
   have gT:∀ w,Hu k ((dQ k i).1.weighed i n) w↔Hu k (dQ k i).1 w∧w i=n:=fun w=>AV hs hok.le (by omega) (by omega) w
   rw [hE]
   refine ⟨by simp [g1],?_,fun w=>?_,fun w hw j hj hq=>?_⟩
   ·obtain ⟨w,hw⟩:=(hc n (by omega)).1 hn1
    exact ⟨w,(gT w).2 hw⟩
   ·simp only
    rw [gT,g3]
    constructor
    ·rintro ⟨⟨a,b⟩,c⟩
     refine ⟨a,fun j hj=>?_⟩
     by_cases e:j=i
     ·subst e;rw [gB,c]
     ·rw [gA j (by omega)];exact b j (by omega)
    ·rintro ⟨a,b⟩
     refine ⟨⟨a,fun j hj=>by rw [← gA j hj];exact b j (by omega)⟩,?_⟩
     have:=b i (by omega)
     rw [gB] at this
     omega
   ·simp only at hq ⊢
    by_cases e:j=i
    ·subst e
     rw [gB]
     have hw':Hu k (dQ k j).1 w:=(g3 w).2 ⟨hw,fun j' hj'=>by rw [← gA j' hj'];exact hq j' hj'⟩
     have h4:=h40 w hw'
     rcases Nat.lt_or_ge (w j) n with h5 | h5
     ·have h6:=hn3 (w j) h5
      rw [(hc (w j) h4).2 ⟨w,hw',rfl⟩] at h6
      cases h6
     ·omega
    ·rw [gA j (by omega)]
     exact g4 w hw j (by omega) fun j' hj'=>by rw [← gA j' (by omega)];exact hq j' hj'
theorem ad3 {k:Wk} (hok:k.Ok) {w0:Nat→Nat} (h0:Hu k (aN k aC) w0):∃ w,Hu k (aN k aC) w∧qN k=(listOf k w,0)∧∀ l,Truth k l→∀ i,i < k.n→(∀ j,j < i→l.getD j 0=(listOf k w).getD j 0)→(listOf k w).getD i 0≤l.getD i 0:=by
 obtain ⟨g1,⟨w,g2⟩,g3,g4⟩:=adU hok h0 k.n (Nat.le_refl _)
 obtain ⟨g5,g6⟩:=(g3 w).1 g2
 have hL:(dQ k k.n).2=listOf k w:=by
  refine List.ext_getElem (by rw [g1,adB]) fun j h1 h2=>?_
  have h3:=g6 j (by omega)
  rw [List.getD_eq_getElem?_getD,List.getElem?_eq_getElem h1,Option.getD_some] at h3
  have h4:=listOf_at (k:=k) w (i:=j) (by omega)
  rw [List.getD_eq_getElem?_getD,List.getElem?_eq_getElem h2,Option.getD_some] at h4
  rw [h3,h4]
 refine ⟨w,g5,?_,fun l hl i hi hj=>?_⟩
 ·unfold qN
  rw [if_pos (G7 hok [] (fun n hn=>nomatch hn)),if_pos (Qu hok h0),hL]
 ·have h5:=g4 _ (adq hok hl) i hi fun j' hj'=>by
   rw [hL,← hj j' hj']
   have:=(hl.room j' (by omega)).1
   omega
  rw [hL] at h5
  have:=(hl.room i hi).1
  omega
end Go.Wg
namespace Go.Proofs.YtjjmefieegcddaaDoor
open Go.RowKit Go.Wg Go.Mm
variable {w:World} {V:View}
def sumTo (l:List Int) (m:Nat):Int:=(l.take m).sum
theorem adJ (l:List Int) {m:Nat} (hm:m < l.length):sumTo l (m+1)=sumTo l m+l.getD m 0:=by
 unfold sumTo
 rw [List.take_add_one,List.getElem?_eq_getElem hm,List.sum_append]
 simp [List.getD_eq_getElem?_getD,List.getElem?_eq_getElem hm]
theorem aeE (l:List Int) (h:∀ i,i < l.length→-1000≤l.getD i 0∧l.getD i 0≤1000) (m:Nat) (hm:m≤l.length):-(1000 * (m:Int))≤sumTo l m∧sumTo l m≤1000 * (m:Int):=by
 induction m with
 | zero=>simp [sumTo]
 | succ m ih =>
  rw [adJ l (by omega)]
  have h1:=ih (by omega)
  have h2:=h m (by omega)
  omega
theorem adZ {lv:Value} {l:List Int} (hl:VI V lv l) (hn:l.length≤100) (hb:∀ i,i < l.length→-1000≤l.getD i 0∧l.getD i 0≤1000) (hV:V.In w) :
  Calls Tryd.prog 47 #[lv] w fun e w'=>e=.returned (.int .i64 l.sum)∧Kp w w':=by
 obtain ⟨la,lcap,rfl,hlc,hlm,hle⟩:=hl.is
 have hS:=St.start w V hV
 have hsb:=aeE l hb
 have hss:=fun m hm=>adJ l (m:=m) hm
 have hs0:sumTo l 0=0:=by simp [sumTo]
 have hsl:sumTo l l.length=l.sum:=by simp [sumTo]
 generalize sumTo l=F at hsb hss hs0 hsl
 clear hl hb
 replace hsb:=aj hsb;replace hss:=aj hss;replace hsl:=aj hsl
 go_enter Tryd.func47,Tryd.ntmps47
 go_wp2_with (fail)
 go_loopw [3,4] (fun nv iv wr=>∃ i:Nat,i≤l.length∧iv=.int .i64 (i:Int)∧nv=.int .i64 (F i)∧St w [] V [] wr) (fun _ iv _=>l.length - (intOf iv).toNat)
 case atStart=>exact ⟨0,by omega,rfl,by rw [hs0],hS⟩
 case round =>
  clear hS
  obtain ⟨i,hi,rfl,rfl,hS⟩:=hrel
  have h0:(0:Int)≤i:=by omega
  by_cases hlt:i < l.length
  ·have hlt':(i:Int) < l.length:=by omega
   obtain ⟨lg,lo,rfl,hlr⟩:=hle (by omega)
   have hcell:=hlr i hlt 0 _ rfl
   simp only [Nat.mul_one,Nat.add_zero] at hcell
   have h1:=hss.out i hlt
   obtain ⟨b1,b2⟩:=hsb.out i (by omega)
   obtain ⟨b3,b4⟩:=hsb.out (i+1) (by omega)
   rw [h1] at b3 b4
   generalize l.getD i 0=y at hcell h1 b3 b4
   generalize hz:F (i+1)=z at h1
   generalize F i=x at h1 b1 b2 b3 b4
   clear hle hlr
   subst h1
   replace hz:=aj hz
   go_wp2_with (((with_reducible refine gL ?_);refine nC hS rfl rfl rfl ?_);refine ⟨_,zd,?_⟩;clear hS;(try clear w');refine zF ?_;intro w' hS)
   go_roundw
   case rel=>exact ⟨i+1,by omega,by go_num,by rw [hz.out],hS⟩
   case measure=>simp only [intOf];omega
  ·obtain rfl:i=l.length:=by omega
   go_wp2_with (fail)
   ((try simp only [Exit.inBlock,Exit.then]);(try refine aB ?_);refine bK ⟨_,by exact bH (r1:=.tmp 2) (by kernel_rfl) (by exact bD rfl),?_⟩ rfl)
   exact ⟨by rw [hsl.out],hS.bM⟩
theorem aen {av bv:Value} {a b:List Int} (ha:VI V av a) (hb:VI V bv b) (hn:a.length=b.length) (hn2:b.length≤100) (h:∀ i,i < b.length→(∀ j,j < i→a.getD j 0=b.getD j 0)→b.getD i 0≤a.getD i 0) (hV:V.In w) :
  Calls Tryd.prog 46 #[av,bv] w fun e w'=>e=.returned (.bool false)∧Kp w w':=by
 obtain ⟨la,lcap,rfl,hlc,hlm,hle⟩:=ha.is
 obtain ⟨ma,mcap,rfl,hmc,hmm,hme⟩:=hb.is
 have hS:=St.start w V hV
 clear ha hb
 rw [hn] at hlc hle ⊢
 replace h:=aj h
 go_enter Tryd.func46,Tryd.ntmps46
 go_wp2_with (fail)
 go_loopw [5] (fun iv wr=>∃ i:Nat,i≤b.length∧iv=.int .i64 (i:Int)∧(∀ j,j < i→a.getD j 0=b.getD j 0)∧St w [] V [] wr) (fun iv _=>b.length - (intOf iv).toNat)
 case atStart=>exact ⟨0,by omega,rfl,(fun j hj=>absurd hj (by omega)),hS⟩
 case round =>
  clear hS
  obtain ⟨i,hi,rfl,hal,hS⟩:=hrel
  have h0:(0:Int)≤i:=by omega
  by_cases hlt:i < b.length
  ·have hlt':(i:Int) < b.length:=by omega
   have hne:¬ (i:Int)=b.length:=by omega
   obtain ⟨lg,lo,rfl,hlr⟩:=hle (by omega)
   obtain ⟨mg,mo,rfl,hmr⟩:=hme (by omega)
   have hcell:=hlr i hlt 0 _ rfl
   have hcelm:=hmr i hlt 0 _ rfl
   simp only [Nat.mul_one,Nat.add_zero] at hcell hcelm
   have h1:=h.out i hlt hal
   have h2:a.getD i 0=b.getD i 0→∀ j,j < i+1→a.getD j 0=b.getD j 0:=fun e j hj=>by
    rcases Nat.lt_succ_iff_lt_or_eq.1 hj with hj | rfl
    ·exact hal j hj
    ·exact e
   generalize a.getD i 0=x at hcell h1 h2
   generalize b.getD i 0=y at hcelm h1 h2
   clear hle hlr hme hmr hal
   by_cases he:x=y
   ·subst he
    have h2':=h2 rfl
    clear h2 h1
    replace h2':=aj h2'
    go_wp2_with (fail)
    (refine bF (S:=(St w [] V [])) [false,false,false,false,false,false,false,false,false] rfl (by kernel_rfl) ?_;replace hS:=St.eY hS;(iterate 9 ((first | refine hxm 0 rfl ?_ | refine hxm 1 rfl ?_ | refine hxp 2 rfl ?_ | refine hxc 3 rfl ?_ | refine hxm 4 rfl ?_ | refine hxm 5 rfl ?_ | refine hxp 6 rfl ?_ | refine hxc 7 rfl ?_ | refine hxp 8 rfl ?_);refine zH ?_));refine wpAnyH_done (by kernel_rfl) ?_ _)
    go_wp2_with (fail)
    go_roundw
    case rel=>exact ⟨i+1,by omega,by go_num,h2'.out,hS⟩
    case measure=>simp only [intOf];omega
   ·have hlt2:decide (x < y)=false:=decide_eq_false (by omega)
    clear h2 h1
    go_wp2_with (fail)
    (refine bF (S:=(St w [] V [])) [false,false,false,false,false,false,false,false,false] rfl (by kernel_rfl) ?_;replace hS:=St.eY hS;(iterate 9 ((first | refine hxm 0 rfl ?_ | refine hxm 1 rfl ?_ | refine hxp 2 rfl ?_ | refine hxc 3 rfl ?_ | refine hxm 4 rfl ?_ | refine hxm 5 rfl ?_ | refine hxp 6 rfl ?_ | refine hxc 7 rfl ?_ | refine hxp 8 rfl ?_);refine zH ?_));refine wpAnyH_done (by kernel_rfl) ?_ _)
    go_wp2_with (fail)
    (refine bF (S:=(St w [] V [])) [false,false,false,false,false,false,false,false,false,false] rfl (by kernel_rfl) ?_;replace hS:=St.eY hS;(iterate 10 ((first | refine hxm 0 rfl ?_ | refine hxm 1 rfl ?_ | refine hxp 2 rfl ?_ | refine hxc 3 rfl ?_ | refine hxm 4 rfl ?_ | refine hxm 5 rfl ?_ | refine hxp 6 rfl ?_ | refine hxc 7 rfl ?_ | refine hxp 8 rfl ?_ | refine hxp 9 rfl ?_);refine zH ?_));refine wpAnyH_done (by kernel_rfl) ?_ _)
    go_wp2_with (fail)
    ((try simp only [Exit.inBlock,Exit.then]);(try refine aB ?_);refine bK ⟨_,by exact bH (r1:=.tmp 4) (by kernel_rfl) (by exact bD rfl),?_⟩ rfl)
    exact ⟨rfl,hS.bM⟩
  ·obtain rfl:i=b.length:=by omega
   go_wp2_with (fail)
   ((try simp only [Exit.inBlock,Exit.then]);(try refine aB ?_);refine bK ⟨_,by exact bH (r1:=.tmp 4) (by kernel_rfl) (by exact bD rfl),?_⟩ rfl)
   exact ⟨rfl,hS.bM⟩
theorem aex {vv rv lv:Value} {k:Wk} {l:List Int} (hk:iJ V vv rv k) (hok:k.Ok) (hl:VI V lv l) (hn:l.length=k.n) (hb:∀ i,i < k.n→0≤l.getD i 0∧l.getD i 0≤100) (hV:V.In w) :
  Calls Tryd.prog 48 #[.agg #[vv,rv],lv] w fun e w'=>e=.returned (.int .i64 (adu k l k.n))∧Kp w w':=by
 obtain ⟨la,lcap,rfl,hlc,hlm,hle⟩:=hl.is
 have hone:=qB (wO hk.ves) (wO hk.rdg)
 have hn6:=hok.le
 have hS:=St.start w V hV
 have hss:=fun m=>ad4 k l m
 have hsb:∀ m,m≤k.n→0≤adu k l m∧adu k l m≤100 * (m:Int):=fun m=>by
  induction m with
  | zero=>simp [adu]
  | succ m ih =>
   intro hm
   rw [hss]
   have h1:=ih (by omega)
   have h2:=hb m (by omega)
   split <;> omega
 have hs0:adu k l 0=0:=by simp [adu]
 rw [hn] at hlc hle ⊢
 generalize adu k l=F at hsb hss hs0
 clear hl
 replace hsb:=aj hsb;replace hss:=aj hss;replace hb:=aj hb
 go_enter Tryd.func48,Tryd.ntmps48
 go_wp2_with ((with_reducible refine gB ?_);refine iK 2 rfl hS rfl rfl rfl ?_;refine ⟨_,za,?_⟩;clear hS;(try clear w');intro b2;refine zF ?_;intro w' hS)
 go_loopw [5,6] (fun nv iv wr=>∃ i:Nat,i≤k.n∧iv=.int .i64 (i:Int)∧nv=.int .i64 (F i)∧St w [] V [.blk b2 25 [vv,rv]] wr) (fun _ iv _=>k.n - (intOf iv).toNat)
 case atStart=>exact ⟨0,by omega,rfl,by rw [hs0],hS.aG⟩
 case round =>
  clear hS
  obtain ⟨i,hi,rfl,rfl,hS⟩:=hrel
  have h0:(0:Int)≤i:=by omega
  by_cases hlt:i < k.n
  ·have hlt':(i:Int) < k.n:=by omega
   obtain ⟨lg,lo,rfl,hlr⟩:=hle (by omega)
   have hcell:=hlr i hlt 0 _ rfl
   simp only [Nat.mul_one,Nat.add_zero] at hcell
   have h1:=hss.out i
   obtain ⟨b1,b2⟩:=hsb.out i (by omega)
   obtain ⟨b3,b4⟩:=hb.out i hlt
   have hfl:(adt k i k.n).length=(k.fills i).length:=by rw [adI,List.length_map]
   have hfn:(adt k i k.n).length≤k.n:=adL k i k.n
   generalize l.getD i 0=y at hcell h1 b3 b4
   have hFi:F (i+1)=F i+if k.fills i=[] then y else 0:=h1
   generalize F i=x at h1 b1 b2 hFi
   clear hle hlr h1
   by_cases hf:k.fills i=[]
   ·rw [if_pos hf] at hFi
    have hF0:(adt k i k.n).length=0:=by rw [hfl,hf];rfl
    clear hfl hfn hf
    replace hF0:=aj hF0;replace hFi:=aj hFi
    go_wp2_with (first | (((with_reducible refine gL ?_);first | refine lW hS rfl rfl rfl ?_ | refine nC hS rfl rfl rfl ?_);refine ⟨_,zd,?_⟩;clear hS;(try clear w');refine zF ?_;intro w' hS) | (go_at_call 36;refine adD hS (adK hk i (St.view hS)) ?_;clear hS;(try clear w');intro V4 v4 w' hV4 hv4 hone4 hS;replace hS:=hS.weaken hV4;obtain ⟨fa,fcap,hfv,hfc,hfm,hfe⟩:=hv4.is;rw [hF0.out] at hfv;subst hfv;clear hv4 hfe hV4 hone4 hfc hfm))
    go_roundw
    case rel=>exact ⟨i+1,by omega,by go_num,by rw [hFi.out],hS⟩
    case measure=>simp only [intOf];omega
   ·rw [if_neg hf,Int.add_zero] at hFi
    obtain ⟨c,hF0⟩:∃ c,(adt k i k.n).length=c+1:=⟨(adt k i k.n).length - 1,by have:=List.length_pos_iff.2 hf;omega⟩
    have hc6:c≤6:=by omega
    have hc0:(((c+1:Nat):Int) == 0)=false:=by rw [beq_eq_false_iff_ne];omega
    clear hfl hfn hf
    replace hF0:=aj hF0;replace hFi:=aj hFi
    go_wp2_with (first | (((with_reducible refine gL ?_);refine lW hS rfl rfl rfl ?_);refine ⟨_,zd,?_⟩;clear hS;(try clear w');refine zF ?_;intro w' hS) | (go_at_call 36;refine adD hS (adK hk i (St.view hS)) ?_;clear hS;(try clear w');intro V4 v4 w' hV4 hv4 hone4 hS;replace hS:=hS.weaken hV4;obtain ⟨fa,fcap,hfv,hfc,hfm,hfe⟩:=hv4.is;rw [hF0.out] at hfv;subst hfv;clear hv4 hfe hV4 hone4 hfc hfm))
    go_roundw
    case rel=>exact ⟨i+1,by omega,by go_num,by rw [hFi.out],hS⟩
    case measure=>simp only [intOf];omega
  ·obtain rfl:i=k.n:=by omega
   go_wp2_with (fail)
   ((try simp only [Exit.inBlock,Exit.then]);(try refine aB ?_);refine bK ⟨_,by exact bH (r1:=.tmp 4) (by kernel_rfl) (by exact bD rfl),?_⟩ rfl)
   exact ⟨rfl,hS.bM⟩
def ru (k:Wk) (l:List Int) (m:Nat):List Int:=(List.range k.n).map fun j=>if j < m then adx k l j else 0
theorem ad7 (k:Wk) (l:List Int):ru k l 0=List.replicate k.n 0:=by
 unfold ru
 refine List.ext_getElem (by simp) fun j h1 h2=>by simp
theorem aeb (k:Wk) (l:List Int):ru k l k.n=ads k l:=by
 unfold ru ads
 exact List.map_congr_left fun j hj=>if_pos (List.mem_range.1 hj)
theorem aeg (k:Wk) (l:List Int) (m:Nat):(ru k l m).length=k.n:=by simp [ru]
theorem aef (k:Wk) (l:List Int) {m:Nat} (hm:m < k.n):(ru k l m).set m (adx k l m)=ru k l (m+1):=by
 refine List.ext_getElem (by simp [ru]) fun j h1 h2=>?_
 simp only [ru,List.length_map,List.length_range] at h2
 rw [List.getElem_set]
 simp only [ru,List.getElem_map,List.getElem_range]
 by_cases e:m=j
 ·subst e;simp
 ·rw [if_neg e]
  by_cases h:j < m
  ·rw [if_pos h,if_pos (by omega)]
  ·rw [if_neg h,if_neg (by omega)]
theorem ad1 (k:Wk) (l:List Int) {m:Nat} (h0:k.fills m=[]):ru k l m=ru k l (m+1):=by
 unfold ru
 refine List.map_congr_left fun j _=>?_
 by_cases h:j < m
 ·rw [if_pos h,if_pos (by omega)]
 ·rw [if_neg h]
  by_cases e:j=m
  ·subst e
   rw [if_pos (by omega)]
   unfold adx
   rw [if_pos h0]
  ·rw [if_neg (by omega)]
def adz (k:Wk) (l:List Int) (i q:Nat):Int:=l.getD i 0 - (((k.fills i).take q).map fun x=>l.getD x 0).sum
theorem adH (k:Wk) (l:List Int) (i:Nat) {q:Nat} (hq:q < (k.fills i).length):adz k l i (q+1)=adz k l i q - l.getD ((k.fills i).getD q 0) 0:=by
 unfold adz
 rw [List.take_add_one,List.getElem?_eq_getElem hq,List.map_append,List.sum_append]
 simp [List.getD_eq_getElem?_getD,List.getElem?_eq_getElem hq]
 omega
theorem ael {k:Wk} {l:List Int} (hb:∀ i,i < k.n→0≤l.getD i 0∧l.getD i 0≤100) {i:Nat} (hi:i < k.n) (q:Nat) (hq:q≤(k.fills i).length):-(100 * (q:Int))≤adz k l i q∧adz k l i q≤100:=by
 induction q with
 | zero =>
  have:=hb i hi
  have e:adz k l i 0=l.getD i 0:=by simp [adz]
  rw [e]
  omega
 | succ q ih =>
  have h1:=ih (by omega)
  have h2:=hb ((k.fills i).getD q 0) (gK.1 (by rw [List.getD_eq_getElem?_getD,List.getElem?_eq_getElem (by omega)];exact List.getElem_mem (by omega))).1
  rw [adH k l i (by omega)]
  omega
theorem ad8 {k:Wk} {l:List Int} {i:Nat} (h:k.fills i≠[]):adz k l i (k.fills i).length=adx k l i:=by
 unfold adz adx
 rw [List.take_length,if_neg h]
theorem aeC {vv rv lv:Value} {k:Wk} {l:List Int} (hk:iJ V vv rv k) (hok:k.Ok) (hl:VI V lv l) (hn:l.length=k.n) (hb:∀ i,i < k.n→0≤l.getD i 0∧l.getD i 0≤100) (hV:V.In w) :
  Calls Tryd.prog 44 #[.agg #[vv,rv],lv] w fun e w'=>(Truth k l∧∃ v,e=.returned (.tuple #[v,.bool true])∧Kp w w'∧tY w w' v (ads k l))∨(¬ Truth k l∧e=.returned (.tuple #[.slice none 0 0,.bool false])∧Kp w w'):=by
 obtain ⟨la,lcap,rfl,hlc,hlm,hle⟩:=hl.is
 obtain ⟨va,vcap,rfl,hvc,hvm,hve⟩:=hk.ves.is
 obtain ⟨ra,rcap,rfl,hrc,hrm,hre⟩:=hk.rdg.is
 have hn6:=hok.le
 have hr6:=hok.rdl
 have hpos:=hok.pos
 obtain ⟨vg,vo,rfl,hvr⟩:=hve hpos
 rw [hn] at hlc hle ⊢
 obtain ⟨lg,lo,rfl,hlr⟩:=hle hpos
 have hlx:∀ x,x < k.n→V.Cell lg (lo+x) (.int .i64 (l.getD x 0)):=fun x hx=>by
  have:=hlr x hx 0 _ rfl
  simpa only [Nat.mul_one,Nat.add_zero] using this
 have hT:=ad2 (k:=k) hn
 have hS:=St.start w V hV
 clear hl hve hlr hle
 replace hb:=aj hb;replace hT:=aj hT;replace hlx:=aj hlx
 go_enter Tryd.func44,Tryd.ntmps44
 go_wp2_with (first | (first | (((with_reducible refine gL ?_);refine gY hS rfl rfl rfl ?_);refine ⟨_,zd,?_⟩;clear hS;(try clear w');refine zF ?_;intro w' hS) | ((with_reducible refine gB ?_);refine iK 2 rfl hS rfl rfl rfl ?_;refine ⟨_,za,?_⟩;clear hS;(try clear w');intro b2;refine zF ?_;intro w' hS)) | ((with_reducible refine gMk ?_);refine U6 23 rfl hS rfl rfl rfl rfl (by omega) ?_;clear hS;(try clear w');intro b23;refine zF ?_;intro w' hS))
 have hz:=ad7 k l
 have hll:=aeg k l
 have hhit:=fun m hm=>aef k l (m:=m) hm
 have hmis:=fun m hm=>ad1 k l (m:=m) hm
 have hall:=aeb k l
 rw [← hz] at hS
 generalize ru k l=LT at hS hz hll hhit hmis hall
 clear hz
 replace hll:=aj hll;replace hhit:=aj hhit;replace hmis:=aj hmis;replace hall:=aj hall
 go_loopw [7] (fun iv wr=>∃ i:Nat,i≤k.n∧iv=.int .i64 (i:Int)∧(∀ j,j < i→okV k l j)∧St w [] V [.blk b23 3 (aV (LT i)),.blk b2 25 [.slice (some ⟨vg,vo,none⟩) k.n vcap,.slice ra k.rdg.length rcap]] wr) (fun iv _=>k.n - (intOf iv).toNat)
 case atStart=>exact ⟨0,by omega,rfl,(fun j hj=>absurd hj (by omega)),hS⟩
 case round =>
  clear hS
  obtain ⟨i,hi,rfl,hgo,hS⟩:=hrel
  have h0:(0:Int)≤i:=by omega
  by_cases hlt:i < k.n
  ·have hlt':(i:Int) < k.n:=by omega
   have hcell:=hlx.out i hlt
   have hcv:=hvr i hlt
   have hcl:(k.v i).cells.length=4:=rfl
   have hvi:=hok.ves i hlt
   obtain ⟨y1,y2⟩:=hb.out i hlt
   have hlN:(aV (LT i)).length=k.n:=by rw [iD,hll.out]
   have hst:=hhit.out i hlt
   have hmi:=hmis.out i
   have hfl:=adI k i
   have hfn:=wL k i
   have hfg:∀ q,q < (k.fills i).length→(k.fills i).getD q 0 < k.n:=fun q hq=>(rV hok (i:=i) (by rw [List.getD_eq_getElem?_getD,List.getElem?_eq_getElem hq];exact List.getElem_mem hq)).2
   have hls:=fun q hq=>adH k l i (q:=q) hq
   have hlb:=fun q hq=>ael hb.out hlt q hq
   have hla:=ad8 (k:=k) (l:=l) (i:=i)
   have hl0:adz k l i 0=l.getD i 0:=by simp [adz]
   have hyes:(0≤l.getD i 0∧l.getD i 0≤(k.v i).room)→(k.fills i≠[]→(k.v i).lo≤adx k l i∧adx k l i≤(k.v i).hi)→∀ j,j < i+1→okV k l j:=fun a b j hj=>by
    rcases Nat.lt_succ_iff_lt_or_eq.1 hj with hj | rfl
    ·exact hgo j hj
    ·exact ⟨a,b⟩
   have hnoT:¬ ((0≤l.getD i 0∧l.getD i 0≤(k.v i).room)∧(k.fills i≠[]→(k.v i).lo≤adx k l i∧adx k l i≤(k.v i).hi))→¬ Truth k l:=fun h hh=>h ((hT.out.1 hh).1 i hlt)
   obtain ⟨F,hF⟩:∃ F,k.fills i=F:=⟨_,rfl⟩
   have hFn:k.fills i=[]↔F.length=0:=by rw [hF,List.length_eq_zero_iff]
   rw [hF] at hfl hfn hfg hls hlb hla hyes hnoT hmi
   have hFl:(adt k i k.n).length=F.length:=by rw [hfl,List.length_map]
   have hFi:∀ q,q < F.length→(adt k i k.n).getD q 0=((F.getD q 0:Nat):Int):=fun q hq=>by
    rw [hfl]
    simp [List.getD_eq_getElem?_getD,List.getElem?_eq_getElem hq]
   unfold nN.cells at hcv hcl
   generalize hro:(k.v i).room=ro at hcv hcl hyes hnoT
   generalize hlo:(k.v i).lo=lo' at hcv hcl hyes hnoT
   generalize hhi:(k.v i).hi=hi' at hcv hcl hyes hnoT
   generalize (k.v i).from_=f at hcv hcl
   generalize adz k l i=D at hls hlb hla hl0
   generalize adx k l i=n at hst hla hyes hnoT
   generalize hy:l.getD i 0=y at hcell y1 y2 hl0 hyes hnoT
   have hvi':0≤ro∧ro≤40∧0≤lo'∧lo'≤20∧0≤hi'∧hi'≤20:=by
    obtain ⟨_,_,o3,o4,o5,o6,o7,o8,_⟩:=hvi
    omega
   clear hvi hro hlo hhi hgo hF hy
   replace hls:=aj hls;replace hlb:=aj hlb;replace hyes:=aj hyes;replace hnoT:=aj hnoT;replace hFi:=aj hFi;replace hfg:=aj hfg;replace hFn:=aj hFn;replace hst:=aj hst;replace hmi:=aj hmi;replace hla:=aj hla
   have hdy:decide (y < 0)=false:=decide_eq_false (by omega)
   by_cases hr:y≤ro
   ·have hdr:decide (ro < y)=false:=decide_eq_false (by omega)
    have hno:=hnoT
    clear hnoT
    go_wp2_with (first | ((first | ((with_reducible refine gL ?_);first | refine gY hS rfl rfl rfl ?_ | refine zQ hS rfl rfl rfl ?_) | ((with_reducible refine gS ?_);refine bQ hS rfl rfl rfl ?_));refine ⟨_,zd,?_⟩;clear hS;(try clear w');refine zF ?_;intro w' hS;(try simp only [sE] at hS)) | ((with_reducible refine gA ?_);refine aT 8 rfl hS rfl rfl ?_;clear hS;(try clear w');intro b8;refine zF ?_;intro w' hS))
    (refine bF (S:=(St w [] V [.blk b8 29 [.int .i64 f,.int .i64 ro,.int .i64 lo',.int .i64 hi'],.blk b23 3 (aV (LT i)),.blk b2 25 [.slice (some ⟨vg,vo,none⟩) k.n vcap,.slice ra k.rdg.length rcap]])) [false,false,false,false,false,false,false,false,false,false,false,false,false,false] rfl (by kernel_rfl) ?_;replace hS:=St.eY hS;(iterate 14 ((first | refine hxm 0 rfl ?_ | refine hxm 1 rfl ?_ | refine hxp 2 rfl ?_ | refine hxc 3 rfl ?_ | refine hxp 4 rfl ?_ | refine hxm 5 rfl ?_ | refine hxm 6 rfl ?_ | refine hxm 7 rfl ?_ | refine hxp 8 rfl ?_ | refine hxc 9 rfl ?_ | refine hxp 10 rfl ?_ | refine hxa 11 rfl ?_ | refine hxp 12 rfl ?_ | refine hxp 13 rfl ?_);refine zH ?_));refine wpAnyH_done (by kernel_rfl) ?_ _)
    go_wp2_with (first | (((with_reducible refine gL ?_);first | refine lW hS rfl rfl rfl ?_ | refine nC hS rfl rfl rfl ?_);refine ⟨_,zd,?_⟩;clear hS;(try clear w');refine zF ?_;intro w' hS) | (go_at_call 36;refine adD hS (adK hk i (St.view hS)) ?_;clear hS;(try clear w');intro V4 v4 w' hV4 hv4 hone4 hS;have hcell4:=hcell.mono hV4))
    obtain ⟨fa,fcap,hfv,hfc,hfm,hfe⟩:=hv4.is
    subst hfv
    rw [hFl] at hfe hfc
    have hlx4:∀ x,x < k.n→V4.Cell lg (lo+x) (.int .i64 (l.getD x 0)):=fun x hx=>(hlx.out x hx).mono hV4
    replace hlx4:=aj hlx4
    rw [hFl]
    go_loopw [10,11] (fun nv qv wr=>∃ q:Nat,q≤F.length∧qv=.int .i64 (q:Int)∧nv=.int .i64 (D q)∧St w [] V4 [.blk b8 29 [.int .i64 f,.int .i64 ro,.int .i64 lo',.int .i64 hi'],.blk b23 3 (aV (LT i)),.blk b2 25 [.slice (some ⟨vg,vo,none⟩) k.n vcap,.slice ra k.rdg.length rcap]] wr) (fun _ qv _=>F.length - (intOf qv).toNat)
    case atStart=>exact ⟨0,by omega,rfl,by rw [hl0],hS⟩
    case round =>
     clear hS
     obtain ⟨q,hq,rfl,rfl,hS⟩:=hrel
     have h0q:(0:Int)≤q:=by omega
     by_cases hql:q < F.length
     ·have hql':(q:Int) < F.length:=by omega
      obtain ⟨fg,fo,hfa,hfr⟩:=hfe (by omega)
      subst hfa
      have hcf:=hfr q hql 0 _ rfl
      simp only [Nat.mul_one,Nat.add_zero] at hcf
      rw [hFi.out q hql] at hcf
      have hx:=hfg.out q hql
      have hsq:=hls.out q hql
      obtain ⟨c1,c2⟩:=hlb.out q (by omega)
      obtain ⟨c3,c4⟩:=hlb.out (q+1) (by omega)
      generalize F.getD q 0=x at hcf hx hsq
      have hcx:=hlx4.out x hx
      generalize l.getD x 0=z at hcx hsq
      rw [hsq] at c3 c4
      have hx0:(0:Int)≤x:=by omega
      have hxk:(x:Int) < k.n:=by omega
      replace hsq:=aj hsq
      clear hfe hfr hv4
      go_wp2_with (((with_reducible refine gL ?_);refine nC hS rfl rfl rfl ?_);refine ⟨_,zd,?_⟩;clear hS;(try clear w');refine zF ?_;intro w' hS)
      go_roundw
      case rel=>exact ⟨q+1,by omega,by go_num,by rw [hsq.out],hS⟩
      case measure=>simp only [intOf];omega
     ·obtain rfl:q=F.length:=by omega
      clear hfe hv4
      rcases Nat.eq_zero_or_pos F.length with hz | hp
      ·have hdz:decide ((0:Int) < (F.length:Int))=false:=decide_eq_false (by omega)
       have hok1:=hyes.out ⟨y1,hr⟩ fun h=>absurd (List.length_eq_zero_iff.1 hz) h
       have hmi':=hmi.out (List.length_eq_zero_iff.1 hz)
       clear hls hlb hFi hfg hFn hst hmi hla hyes
       replace hok1:=aj hok1;replace hmi':=aj hmi'
       go_wp2_with (fail)
       go_roundw
       case rel=>exact ⟨i+1,by omega,by go_num,hok1.out,by rw [← hmi'.out];exact (hS.weaken hV4).aG⟩
       case measure=>simp only [intOf];omega
      ·have hdz:decide ((0:Int) < (F.length:Int))=true:=decide_eq_true (by omega)
       have hne:F≠[]:=List.ne_nil_of_length_pos hp
       have hD:=hla.out hne
       obtain ⟨c1,c2⟩:=hlb.out F.length (by omega)
       rw [hD] at c1 c2 ⊢
       have hok1:=fun h=>hyes.out ⟨y1,hr⟩ fun _=>h
       have hno1:¬ (lo'≤n∧n≤hi')→¬ Truth k l:=fun h=>hno.out fun hh=>h (hh.2 hne)
       clear hls hlb hFi hfg hFn hmi hla hyes hno
       replace hok1:=aj hok1;replace hno1:=aj hno1;replace hst:=aj hst
       by_cases h1:n < lo'
       ·have hd1:decide (n < lo')=true:=decide_eq_true h1
        have hnt:=hno1.out (by omega)
        replace hnt:=aj hnt
        go_wp2_with (((with_reducible refine gL ?_);refine gY hS rfl rfl rfl ?_);refine ⟨_,zd,?_⟩;clear hS;(try clear w');refine zF ?_;intro w' hS)
        ((try simp only [Exit.inBlock,Exit.then]);(try refine aB ?_);refine bK ⟨_,by exact dA (r1:=.tmp 4) (r2:=.tmp 5) (by kernel_rfl) (by exact bD rfl) (by exact bD rfl),?_⟩ rfl)
        exact .inr ⟨hnt.out,rfl,hS.bM⟩
       ·have hd1:decide (n < lo')=false:=decide_eq_false h1
        by_cases h2:hi' < n
        ·have hd2:decide (hi' < n)=true:=decide_eq_true h2
         have hnt:=hno1.out (by omega)
         replace hnt:=aj hnt
         go_wp2_with (((with_reducible refine gL ?_);refine gY hS rfl rfl rfl ?_);refine ⟨_,zd,?_⟩;clear hS;(try clear w');refine zF ?_;intro w' hS)
         ((try simp only [Exit.inBlock,Exit.then]);(try refine aB ?_);refine bK ⟨_,by exact dA (r1:=.tmp 4) (r2:=.tmp 5) (by kernel_rfl) (by exact bD rfl) (by exact bD rfl),?_⟩ rfl)
         exact .inr ⟨hnt.out,rfl,hS.bM⟩
        ·have hd2:decide (hi' < n)=false:=decide_eq_false h2
         have hok2:=hok1.out ⟨by omega,by omega⟩
         replace hok2:=aj hok2
         go_wp2_with (((first | ((with_reducible refine gL ?_);refine gY hS rfl rfl rfl ?_) | ((with_reducible refine gS ?_);refine pX hS rfl rfl rfl ?_));refine ⟨_,zd,?_⟩;clear hS;(try clear w');refine zF ?_;intro w' hS;(try simp only [sE] at hS));try (simp only [jJ] at hS))
         go_roundw
         case rel =>
          rw [hst.out] at hS
          exact ⟨i+1,by omega,by go_num,hok2.out,(hS.weaken hV4).aG⟩
         case measure=>simp only [intOf];omega
   ·have hdr:decide (ro < y)=true:=decide_eq_true (by omega)
    have hno:=hnoT.out fun h=>hr h.1.2
    clear hyes hnoT hls hlb hFi hfg hFn hst hmi hla
    replace hno:=aj hno
    go_wp2_with (first | ((first | ((with_reducible refine gL ?_);first | refine gY hS rfl rfl rfl ?_ | refine zQ hS rfl rfl rfl ?_) | ((with_reducible refine gS ?_);refine bQ hS rfl rfl rfl ?_));refine ⟨_,zd,?_⟩;clear hS;(try clear w');refine zF ?_;intro w' hS;(try simp only [sE] at hS)) | ((with_reducible refine gA ?_);refine aT 8 rfl hS rfl rfl ?_;clear hS;(try clear w');intro b8;refine zF ?_;intro w' hS))
    (refine bF (S:=(St w [] V [.blk b8 29 [.int .i64 f,.int .i64 ro,.int .i64 lo',.int .i64 hi'],.blk b23 3 (aV (LT i)),.blk b2 25 [.slice (some ⟨vg,vo,none⟩) k.n vcap,.slice ra k.rdg.length rcap]])) [false,false,false,false,false,false,false,false,false,false,false,false,false,false] rfl (by kernel_rfl) ?_;replace hS:=St.eY hS;(iterate 14 ((first | refine hxm 0 rfl ?_ | refine hxm 1 rfl ?_ | refine hxp 2 rfl ?_ | refine hxc 3 rfl ?_ | refine hxp 4 rfl ?_ | refine hxm 5 rfl ?_ | refine hxm 6 rfl ?_ | refine hxm 7 rfl ?_ | refine hxp 8 rfl ?_ | refine hxc 9 rfl ?_ | refine hxp 10 rfl ?_ | refine hxa 11 rfl ?_ | refine hxp 12 rfl ?_ | refine hxp 13 rfl ?_);refine zH ?_));refine wpAnyH_done (by kernel_rfl) ?_ _)
    go_wp2_with (fail)
    ((try simp only [Exit.inBlock,Exit.then]);(try refine aB ?_);refine bK ⟨_,by exact dA (r1:=.tmp 4) (r2:=.tmp 5) (by kernel_rfl) (by exact bD rfl) (by exact bD rfl),?_⟩ rfl)
    exact .inr ⟨hno.out,rfl,hS.bM⟩
  ·obtain rfl:i=k.n:=by omega
   rw [hall.out] at hS
   have hmem:∀ q,q < k.rdg.length→k.rdg.getD q default∈k.rdg:=fun q hq=>by
    rw [List.getD_eq_getElem?_getD,List.getElem?_eq_getElem hq]
    exact List.getElem_mem hq
   replace hmem:=aj hmem
   go_wp2_with (fail)
   go_loopw [12] (fun iv wr=>∃ q:Nat,q≤k.rdg.length∧iv=.int .i64 (q:Int)∧(∀ j,j < q→okR l (k.rdg.getD j default))∧St w [] V [.blk b23 3 (aV (ads k l)),.blk b2 25 [.slice (some ⟨vg,vo,none⟩) k.n vcap,.slice ra k.rdg.length rcap]] wr) (fun iv _=>k.rdg.length - (intOf iv).toNat)
   case atStart=>exact ⟨0,by omega,rfl,(fun j hj=>absurd hj (by omega)),hS⟩
   case round =>
    clear hS
    obtain ⟨q,hq,rfl,hgr,hS⟩:=hrel
    have h0q:(0:Int)≤q:=by omega
    by_cases hlt:q < k.rdg.length
    ·have hlt':(q:Int) < k.rdg.length:=by omega
     obtain ⟨rg,rx,rfl,hrr⟩:=hre (by omega)
     have hcr:=hrr q hlt
     have hcl:(k.rdg.getD q default).cells.length=4:=rfl
     have hrok:=hok.rdg q hlt
     have hyes:okR l (k.rdg.getD q default)→∀ j,j < q+1→okR l (k.rdg.getD j default):=fun h j hj=>by
      rcases Nat.lt_succ_iff_lt_or_eq.1 hj with hj | rfl
      ·exact hgr j hj
      ·exact h
     have hnoT:¬ okR l (k.rdg.getD q default)→¬ Truth k l:=fun h hh=>h ((hT.out.1 hh).2 _ (hmem.out q hlt))
     unfold je.Ok at hrok
     unfold je.cells at hcr hcl
     have hyes':(-(k.rdg.getD q default).err≤l.getD (k.rdg.getD q default).vessel.toNat 0 - (k.rdg.getD q default).shown∧l.getD (k.rdg.getD q default).vessel.toNat 0 - (k.rdg.getD q default).shown≤(k.rdg.getD q default).err)→∀ j,j < q+1→okR l (k.rdg.getD j default):=hyes
     have hnoT':¬ (-(k.rdg.getD q default).err≤l.getD (k.rdg.getD q default).vessel.toNat 0 - (k.rdg.getD q default).shown∧l.getD (k.rdg.getD q default).vessel.toNat 0 - (k.rdg.getD q default).shown≤(k.rdg.getD q default).err)→¬ Truth k l:=hnoT
     clear hyes hnoT hgr
     obtain ⟨r1,r2,r3,r4,r5,r6,r7,r8⟩:=hrok
     generalize hP:(∀ j,j < q+1→okR l (k.rdg.getD j default))=P at hyes'
     generalize (k.rdg.getD q default).vessel=f at hcr hcl hyes' hnoT' r1 r2
     generalize (k.rdg.getD q default).scale=sc at hcr hcl r3 r4
     generalize (k.rdg.getD q default).shown=sh at hcr hcl hyes' hnoT' r5 r6
     generalize (k.rdg.getD q default).err=er at hcr hcl hyes' hnoT' r7 r8
     obtain ⟨x,rfl⟩:∃ x:Nat,f=(x:Int):=⟨f.toNat,by omega⟩
     rw [Int.toNat_natCast] at hyes' hnoT'
     have hcx:=hlx.out x (by omega)
     obtain ⟨y1,y2⟩:=hb.out x (by omega)
     generalize l.getD x 0=y at hcx y1 y2 hyes' hnoT'
     clear hrr
     replace hyes':=aj hyes';replace hnoT':=aj hnoT';replace hP:=aj hP;replace hgo:=aj hgo
     by_cases h1:y - sh < -er
     ·have hd1:decide (y - sh < -er)=true:=decide_eq_true h1
      have hnt:=hnoT'.out (by omega)
      replace hnt:=aj hnt
      go_wp2_with (first | ((first | ((with_reducible refine gL ?_);first | refine gY hS rfl rfl rfl ?_ | refine zQ hS rfl rfl rfl ?_) | ((with_reducible refine gS ?_);refine bQ hS rfl rfl rfl ?_));refine ⟨_,zd,?_⟩;clear hS;(try clear w');refine zF ?_;intro w' hS;(try simp only [sE] at hS)) | ((with_reducible refine gA ?_);refine aT 13 rfl hS rfl rfl ?_;clear hS;(try clear w');intro b13;refine zF ?_;intro w' hS))
      (refine bF (S:=(St w [] V [.blk b13 59 [.int .i64 (x:Int),.int .i64 sc,.int .i64 sh,.int .i64 er],.blk b23 3 (aV (ads k l)),.blk b2 25 [.slice (some ⟨vg,vo,none⟩) k.n vcap,.slice (some ⟨rg,rx,none⟩) k.rdg.length rcap]])) [false,false,false,false,false,false,false,false,false] rfl (by kernel_rfl) ?_;replace hS:=St.eY hS;(iterate 9 ((first | refine hxm 0 rfl ?_ | refine hxp 1 rfl ?_ | refine hxa 2 rfl ?_ | refine hxp 3 rfl ?_ | refine hxc 4 rfl ?_ | refine hxp 5 rfl ?_ | refine hxa 6 rfl ?_ | refine hxp 7 rfl ?_ | refine hxp 8 rfl ?_);refine zH ?_));refine wpAnyH_done (by kernel_rfl) ?_ _)
      go_wp2_with (((with_reducible refine gL ?_);refine gY hS rfl rfl rfl ?_);refine ⟨_,zd,?_⟩;clear hS;(try clear w');refine zF ?_;intro w' hS)
      ((try simp only [Exit.inBlock,Exit.then]);(try refine aB ?_);refine bK ⟨_,by exact dA (r1:=.tmp 4) (r2:=.tmp 5) (by kernel_rfl) (by exact bD rfl) (by exact bD rfl),?_⟩ rfl)
      exact .inr ⟨hnt.out,rfl,hS.bM⟩
     ·have hd1:decide (y - sh < -er)=false:=decide_eq_false h1
      by_cases h2:er < y - sh
      ·have hd2:decide (er < y - sh)=true:=decide_eq_true h2
       have hnt:=hnoT'.out (by omega)
       replace hnt:=aj hnt
       go_wp2_with (first | ((first | ((with_reducible refine gL ?_);first | refine gY hS rfl rfl rfl ?_ | refine zQ hS rfl rfl rfl ?_) | ((with_reducible refine gS ?_);refine bQ hS rfl rfl rfl ?_));refine ⟨_,zd,?_⟩;clear hS;(try clear w');refine zF ?_;intro w' hS;(try simp only [sE] at hS)) | ((with_reducible refine gA ?_);refine aT 13 rfl hS rfl rfl ?_;clear hS;(try clear w');intro b13;refine zF ?_;intro w' hS))
       (refine bF (S:=(St w [] V [.blk b13 59 [.int .i64 (x:Int),.int .i64 sc,.int .i64 sh,.int .i64 er],.blk b23 3 (aV (ads k l)),.blk b2 25 [.slice (some ⟨vg,vo,none⟩) k.n vcap,.slice (some ⟨rg,rx,none⟩) k.rdg.length rcap]])) [false,false,false,false,false,false,false,false,false] rfl (by kernel_rfl) ?_;replace hS:=St.eY hS;(iterate 9 ((first | refine hxm 0 rfl ?_ | refine hxp 1 rfl ?_ | refine hxa 2 rfl ?_ | refine hxp 3 rfl ?_ | refine hxc 4 rfl ?_ | refine hxp 5 rfl ?_ | refine hxa 6 rfl ?_ | refine hxp 7 rfl ?_ | refine hxp 8 rfl ?_);refine zH ?_));refine wpAnyH_done (by kernel_rfl) ?_ _)
       go_wp2_with (((with_reducible refine gL ?_);refine gY hS rfl rfl rfl ?_);refine ⟨_,zd,?_⟩;clear hS;(try clear w');refine zF ?_;intro w' hS)
       ((try simp only [Exit.inBlock,Exit.then]);(try refine aB ?_);refine bK ⟨_,by exact dA (r1:=.tmp 4) (r2:=.tmp 5) (by kernel_rfl) (by exact bD rfl) (by exact bD rfl),?_⟩ rfl)
       exact .inr ⟨hnt.out,rfl,hS.bM⟩
      ·have hd2:decide (er < y - sh)=false:=decide_eq_false h2
       have hyt:=hyes'.out (by omega)
       rw [← hP.out] at hyt
       replace hyt:=aj hyt
       go_wp2_with (first | ((first | ((with_reducible refine gL ?_);first | refine gY hS rfl rfl rfl ?_ | refine zQ hS rfl rfl rfl ?_) | ((with_reducible refine gS ?_);refine bQ hS rfl rfl rfl ?_));refine ⟨_,zd,?_⟩;clear hS;(try clear w');refine zF ?_;intro w' hS;(try simp only [sE] at hS)) | ((with_reducible refine gA ?_);refine aT 13 rfl hS rfl rfl ?_;clear hS;(try clear w');intro b13;refine zF ?_;intro w' hS))
       (refine bF (S:=(St w [] V [.blk b13 59 [.int .i64 (x:Int),.int .i64 sc,.int .i64 sh,.int .i64 er],.blk b23 3 (aV (ads k l)),.blk b2 25 [.slice (some ⟨vg,vo,none⟩) k.n vcap,.slice (some ⟨rg,rx,none⟩) k.rdg.length rcap]])) [false,false,false,false,false,false,false,false,false] rfl (by kernel_rfl) ?_;replace hS:=St.eY hS;(iterate 9 ((first | refine hxm 0 rfl ?_ | refine hxp 1 rfl ?_ | refine hxa 2 rfl ?_ | refine hxp 3 rfl ?_ | refine hxc 4 rfl ?_ | refine hxp 5 rfl ?_ | refine hxa 6 rfl ?_ | refine hxp 7 rfl ?_ | refine hxp 8 rfl ?_);refine zH ?_));refine wpAnyH_done (by kernel_rfl) ?_ _)
       go_wp2_with (((with_reducible refine gL ?_);refine gY hS rfl rfl rfl ?_);refine ⟨_,zd,?_⟩;clear hS;(try clear w');refine zF ?_;intro w' hS)
       go_roundw
       case rel=>exact ⟨q+1,by omega,by go_num,hyt.out,hS.aG⟩
       case measure=>simp only [intOf];omega
    ·obtain rfl:q=k.rdg.length:=by omega
     have htr:=hT.out.2 ⟨hgo,fun r hr=>by
      obtain ⟨j,hj,rfl⟩:=List.getElem_of_mem hr
      have:=hgr j hj
      rwa [List.getD_eq_getElem?_getD,List.getElem?_eq_getElem hj] at this⟩
     clear hgr hgo
     replace htr:=aj htr
     go_wp2_with (((with_reducible refine gL ?_);refine gY hS rfl rfl rfl ?_);refine ⟨_,zd,?_⟩;clear hS;(try clear w');refine zF ?_;intro w' hS)
     ((try simp only [Exit.inBlock,Exit.then]);(try refine aB ?_);refine bK ⟨_,by exact dA (r1:=.tmp 4) (r2:=.tmp 5) (by kernel_rfl) (by exact bD rfl) (by exact bD rfl),?_⟩ rfl)
     refine .inl ⟨htr.out,_,rfl,hS.bM,?_⟩
     have h2:=XT (n:=k.n) (cap:=k.n) (xs:=aV (ads k l)) (pad:=[]) (s:=1) (by rw [List.append_nil];exact hS) (Nat.le_refl _) (Nat.le_trans hn6 (by decide)) (by rw [iD,adA,Nat.mul_one]) (by rw [List.append_nil,iD,adA,Nat.mul_one]) (fun c hc=>nomatch hc)
     exact vK h2 (j:=0) (by rw [adA];rfl)
end Go.Proofs.YtjjmefieegcddaaDoor
namespace Go.Tm
open Go
open Go.Conc
variable {P:Program}
section
variable {tgt k:List Item} {S:Act→World→Prop} {a:Act} {w:World}
theorem abn {todo todo':List Item} {a':Act} {w':World} (hs:∀ (b:Frame) (cs:List Frame),b.kind=.normal→Steps P (lone (b.at a todo) cs w) (lone (b.at a' todo') cs w')) (h:fA P tgt S todo' a' w'):fA P tgt S todo a w:=fun b cs hb=>by
 obtain ⟨a2,w2,h1,h2⟩:=h b cs hb
 exact ⟨a2,w2,h1,(hs b cs hb).trans h2⟩
theorem abT {ops:Array Oper} {l2:List Nat}:∀ (l1:List Nat) (a:Act) (w:World),wpOps P ops (fun e a' w'=>e=.normal∧fA P tgt S (.inRegion ops l2 :: k) a' w') l1 a w→fA P tgt S (.inRegion ops (l1 ++ l2) :: k) a w
 | [],a,w,h=>h.2
 | i :: rest,a,w,h=>by
  have ih:=abT (ops:=ops) (l2:=l2) rest
  simp only [wpOps] at h
  rw [List.cons_append]
  cases ho:ops[i]? with
  | none =>
   simp only [ho] at h
   refine abn (fun b cs _=>?_) (ih a w h)
   have hs:=step_op_skip (P:=P) (b:=b) (a:=a) (k:=k) (cs:=cs) (w:=w) (ops:=ops) (i:=i) (rest:=rest ++ l2) (by simp [ho])
   simp only [ho,Option.bind_none,Act.put] at hs
   exact .one hs
  | some o =>
   simp only [ho] at h
   by_cases hw:Region.wanted o (yielded ops a.tmps)=true
   ·simp only [hw,if_true] at h
    rcases h with h | ⟨hasks,a₀,w₀,hq⟩
    case inr=>exact nomatch hq.1
    simp only [Oper.wp,Oper.upon] at h
    split at h
    ·rename_i v w' hr
     exact cO ho hw hr (ih _ _ h)
    ·rename_i w' hr
     exact Q8 ho hw hr (ih _ _ h)
    ·rename_i d w' hr
     refine abn (fun b cs _=>.one (step_lone_go ?_)) (ih _ _ h)
     have hg:=stepG_op (P:=P) (b:=b) (k:=k) (cs:=cs) (w:=w) (rest:=rest ++ l2) ho hw
     have:({ b.at a (.inRegion ops (i :: (rest ++ l2)) :: k) with defers:=d :: a.defers }:Frame).finish undef =
       b.at ({ a with defers:=d :: a.defers }.put o.dst undef) (.inRegion ops (rest ++ l2) :: k):=by
      have:=Frame.finish_at b { a with defers:=d :: a.defers } ops i (rest ++ l2) k undef
      rw [ho] at this;exact this
     rw [hg];simp only [stepG.apply,Sem.runT_eq,hr,GStep.bare_after]
     exact congrArg (fun fr=>GStep.go { frame:=fr,callers:=cs,status:=.running,dying:=none } w') this
    ·rename_i f args w' hr
     refine rZ ho hw hr (h.mono fun e w'' hR=>?_)
     cases e with
     | returned v=>exact ⟨v,rfl,ih _ _ hR⟩
     | panicked chain=>exact nomatch hR.1
     | outgrown =>
      obtain ⟨a₀,w₀,hq⟩:=hR
      exact nomatch hq.1
    ·rename_i row args w' hr
     intro b cs hb
     have hg:=stepG_op (P:=P) (b:=b) (k:=k) (cs:=cs) (w:=w) (rest:=rest ++ l2) ho hw
     have hfin:∀ v,(b.at a (.inRegion ops (i :: (rest ++ l2)) :: k)).finish v=b.at (a.put o.dst v) (.inRegion ops (rest ++ l2) :: k):=by
      intro v;rw [Frame.finish_at,ho];rfl
     obtain ⟨v,w'',hR,hsteps⟩:=h (b.at a (.inRegion ops (i :: (rest ++ l2)) :: k)) cs
     have henter:step P (lone (b.at a (.inRegion ops (i :: (rest ++ l2)) :: k)) cs w) =
       .next (lone (Frame.ofRow P row args .normal) (b.at a (.inRegion ops (i :: (rest ++ l2)) :: k) :: cs) w') :=
      step_lone_go (by rw [hg];simp [stepG.apply,hr,Frame.at])
     obtain ⟨a',w₃,hq,harr⟩:=ih _ _ hR b cs hb
     refine ⟨a',w₃,hq,.head henter (Steps.trans ?_ harr)⟩
     rw [← hfin];exact hsteps
    ·exact nomatch h.1
    ·exact h.elim
   ·simp only [hw,if_false,Bool.false_eq_true] at h
    refine abn (fun b cs _=>?_) (ih _ _ h)
    have hs:=step_op_skip (P:=P) (b:=b) (a:=a) (k:=k) (cs:=cs) (w:=w) (ops:=ops) (i:=i) (rest:=rest ++ l2)
     (by simp [ho];simpa using hw)
    simp only [ho,Option.bind_some] at hs
    exact .one hs
theorem abE {ops:Array Oper} {Q:Exit→Act→World→Prop} (l:List Oper) (m:Nat) (h:∀ j,j < l.length→l[j]? = ops[m+j]?):wpOps P ops Q (List.range' m l.length)=wpList P ops Q l:=by
 induction l generalizing m with
 | nil=>funext a w;simp [wpOps,wpList]
 | cons o l ih =>
  have h0:ops[m]? = some o:=by simpa using (h 0 (by simp)).symm
  have ih':=ih (m+1) (fun j hj=>by have:=h (j+1) (by simpa using hj);simpa [Nat.add_assoc,Nat.add_comm 1 j] using this)
  funext a w
  simp only [List.length_cons,List.range'_succ,wpOps,h0,wpList,ih']
end
end Go.Tm
namespace Go.Proofs.YtjjmefieegcddaaDoor
open Go.RowKit Go.Wg Go.Mm Go.Wk
open Go Go.Sr Go.Ph Go.Tm Go.Conc
variable {w:World} {V:View} {f0:FuncId} {R:Ending→World→Prop} {todo k0:List Item} {a:Act}
structure RB (f0:FuncId) (R:Ending→World→Prop) (todo:List Item) (a:Act) (w:World):Prop where
 df:a.defers=[]
 run:∀ (b:Frame) (cs:List Frame),b.fn=f0→b.kind=.normal→∀ τ d,ay OC (w.re τ d) →
  kU Tryd.prog (G (b.at a todo) cs) (w.re τ d) fun a' w'=>∃ e fr,a'=G fr cs∧R e w'∧fr.fn=f0∧fr.leaving Tryd.prog w' e∧e≠.outgrown∧ay OC w'
theorem RB.re (h:RB f0 R todo a w) (τ:Nat→Question→Nat) (d:Nat):RB f0 R todo a (w.re τ d):=⟨h.df,fun b cs h1 h2 τ' d' hh=>h.run b cs h1 h2 τ' d' hh⟩
theorem ado (tgt:List Item) (hit:todo.all qy=true) (hd:a.defers=[]) (h:∀ τ d,fA Tryd.prog tgt (RB f0 R tgt) todo a (w.re τ d)):RB f0 R todo a w :=
 ⟨hd,fun b cs hbf hbk τ d hh=>vI hbf hbk hit (fun x hx=>by rw [hd] at hx;cases hx) hh (S:=RB f0 R tgt) (fun a w τ d h=>h.re τ d) (fun τ' d'=>h τ' d') fun a' w' hS hh'=>hS.run b cs hbf hbk w'.tape w'.drawn hh'⟩
theorem ac7 {N:FuncId} {args:Array Value} {R':Ending→World→Prop} {ops:Array Oper} {l:List Nat} {i:Nat} {o:Oper} (hd:a.defers=[]) (ho:ops[i]? = some o) (hw:Region.wanted o (yielded ops a.tmps)=true) (hok':qj true o.op=true)
  (hr:∀ w,(execOp a.eval o).run Tryd.prog w=.ok (.enter N args) w) (hpan:∀ ch w,¬ R' (.panicked ch) w) (hc:∀ τ d,ay OC (w.re τ d)→kL Tryd.prog N args (w.re τ d) R')
  (hk:∀ v w',R' (.returned v) w'→RB f0 R (.inRegion ops l :: k0) (a.put o.dst v) w'):RB f0 R (.inRegion ops (i :: l) :: k0) a w :=
 ⟨hd,fun b cs hbf hbk τ d hh=>Oh (hc τ d hh) hh hbk ho hw hok' hr hpan fun v w' hv hh'=>(hk v w' hv).run b cs hbf hbk w'.tape w'.drawn hh'⟩
theorem abY {f0:FuncId} {R:Ending→World→Prop} {fn:Func} {B:Code} {args:Array Value} {m:Nat} (hf:Tryd.prog.funcs[f0]? = some fn) (hb:fn.body=some B) (hm:fn.ntmps - args.size=m) (hh:ay OC w)
  (h:RB f0 R [.code B] { tmps:=args ++ Array.replicate m undef,defers:=[] } w):kL Tryd.prog f0 args w R :=
 jD hf hb fun cs b hbf hbk _=>by
  rw [hm]
  exact h.run b cs hbf hbk w.tape w.drawn hh
theorem adh {fn:Func} {v:Value} (hf:Tryd.prog.funcs[f0]? = some fn) (hd:a.defers=[]) (hr:∀ w,(results fn a.tmps).run Tryd.prog w=.ok v w) (hR:∀ τ d,R (.returned v) (w.re τ d)) (hins:Ins R):RB f0 R (.code .ret :: k0) a w :=
 ⟨hd,fun b cs hbf hbk τ d hh=>Vo hbf hbk hd hf hh (hr _) (hR τ d) hins⟩
end Go.Proofs.YtjjmefieegcddaaDoor
namespace Go.Proofs.YtjjmefieegcddaaDoor
open Go.RowKit Go.Wg Go.Mm Go.Wk
open Go Go.Sr Go.Ph Go.Tm Go.Conc
variable {w:World} {V:View} {w0:World} {L:List dF} {X:List Nat} {f0:FuncId} {R:Ending→World→Prop} {k0:List Item} {a:Act}
theorem aeA {k:Wk} (hok:k.Ok) {w:Nat→Nat} (h:Hu k (aN k aC) w):vX k=(dW k (aN k aC) false,0):=by
 unfold vX
 rw [if_pos (G7 hok [] (fun n hn=>nomatch hn)),if_pos (Qu hok h)]
theorem aea {k:Wk} (hok:k.Ok) {w:Nat→Nat} (h:Hu k (aN k aC) w):adw k=(dW k (aN k aC) true,0):=by
 unfold adw
 rw [if_pos (G7 hok [] (fun n hn=>nomatch hn)),if_pos (Qu hok h)]
theorem ac3 {N:FuncId} {fn:Func} {y:Array Operand} {ats:Array TypeId} {args:Array Value} {v:Value} {ops:Array Oper} {l:List Nat} {i:Nat} {o:Oper} (d:Nat) (hS:St w0 X V L w) (hf:Tryd.prog.funcs[N]? = some fn) (hb:(fn.name == "runtime.NumGoroutine")=false) (hb2:fn.body.isNone=false) (hc:∀ τ d,ay OC (w.re τ d)→kL Tryd.prog N args (w.re τ d) fun e w'=>e=.returned v∧Kp (w.re τ d) w')
  (hd:a.defers=[]) (ho:ops[i]? = some o) (hdst:o.dst=some d) (hw:Region.wanted o (yielded ops a.tmps)=true) (hop:o.op=.call { callee:=.value (.func N),args:=y,argTypes:=ats }) (hy:y.toList.map a.eval=args.toList)
  (h:∀ w' a',St w0 X V L w'→a.put (some d) v=a'→RB f0 R (.inRegion ops l :: k0) a' w'):RB f0 R (.inRegion ops (i :: l) :: k0) a w:=by
 refine ac7 (N:=N) (args:=args) (R':=fun e w'=>e=.returned v∧Kp w w') hd ho hw (by rw [hop];rfl) (fun w1=>?_) (fun ch w1 h=>nomatch h.1) (fun τ d hh=>(hc τ d hh).mono fun e w1 h=>⟨h.1,uq h.2⟩) ?_
 ·rw [run_call_body hop hf hb hb2,show y.map a.eval=args from Array.ext' (by rw [Array.toList_map,hy])]
 rintro v' w1 ⟨hv,hk⟩
 cases hv
 rw [hdst]
 exact h _ _ (hS.kp hk) rfl
theorem acB {vv rv:Value} {k:Wk} {x1 x2 e:Int} {y:Array Operand} {ats:Array TypeId} {ops:Array Oper} {l:List Nat} {i:Nat} {o:Oper} (d:Nat) (hS:St w0 X V L w) (hB:Bs V) (hk:iJ V vv rv k) (hv:vX k=((x1,x2),e))
  (hd:a.defers=[]) (ho:ops[i]? = some o) (hdst:o.dst=some d) (hw:Region.wanted o (yielded ops a.tmps)=true) (hop:o.op=.call { callee:=.value (.func 40),args:=y,argTypes:=ats }) (hy:y.toList.map a.eval=[.agg #[vv,rv]])
  (h:∀ w' a',St w0 X V L w'→a.put (some d) (.tuple #[.agg #[.int .i64 x1,.int .i64 x2],.int .i64 e])=a'→RB f0 R (.inRegion ops l :: k0) a' w'):RB f0 R (.inRegion ops (i :: l) :: k0) a w:=by
 refine ac3 d hS Tryd.func40 (by kernel_rfl) (by kernel_rfl) (fun τ d hh=>?_) hd ho hdst hw hop hy h
 have hL:=ZB vv rv k hk hB.gv (hS.re1 τ d).view hh
 rw [hv] at hL
 exact hL
theorem aes {vv rv:Value} {k:Wk} {x1 x2 e:Int} {y:Array Operand} {ats:Array TypeId} {ops:Array Oper} {l:List Nat} {i:Nat} {o:Oper} (d:Nat) (hS:St w0 X V L w) (hB:Bs V) (hk:iJ V vv rv k) (hv:adw k=((x1,x2),e))
  (hd:a.defers=[]) (ho:ops[i]? = some o) (hdst:o.dst=some d) (hw:Region.wanted o (yielded ops a.tmps)=true) (hop:o.op=.call { callee:=.value (.func 45),args:=y,argTypes:=ats }) (hy:y.toList.map a.eval=[.agg #[vv,rv]])
  (h:∀ w' a',St w0 X V L w'→a.put (some d) (.tuple #[.agg #[.int .i64 x1,.int .i64 x2],.int .i64 e])=a'→RB f0 R (.inRegion ops l :: k0) a' w'):RB f0 R (.inRegion ops (i :: l) :: k0) a w:=by
 refine ac3 d hS Tryd.func45 (by kernel_rfl) (by kernel_rfl) (fun τ d hh=>?_) hd ho hdst hw hop hy h
 have hL:=aez vv rv k hk hB.gv (hS.re1 τ d).view hh
 rw [hv] at hL
 exact hL
theorem acy {y:Array Operand} {ats:Array TypeId} {ops:Array Oper} {l:List Nat} {i:Nat} {o:Oper} (d:Nat) (hS:St w0 X V L w) (hB:Bs V)
  (hd:a.defers=[]) (ho:ops[i]? = some o) (hdst:o.dst=some d) (hw:Region.wanted o (yielded ops a.tmps)=true) (hop:o.op=.call { callee:=.value (.func 21),args:=y,argTypes:=ats }) (hy:y.toList.map a.eval=[])
  (h:∀ w' a',St w0 X V L w'→a.put (some d) (.bool true)=a'→RB f0 R (.inRegion ops l :: k0) a' w'):RB f0 R (.inRegion ops (i :: l) :: k0) a w :=
 ac3 d hS Tryd.func21 (by kernel_rfl) (by kernel_rfl) (fun τ d hh=>TB hB (hS.re1 τ d).view hh) hd ho hdst hw hop hy h
theorem ac2 {fn:Func} (hf:Tryd.prog.funcs[f0]? = some fn) (hS:St w0 [] V L w) (hd:a.defers=[]) (hr:∀ w,(results fn a.tmps).run Tryd.prog w=.ok (.bool true) w):RB f0 (fun r w'=>r=.returned (.bool true)∧Kp w0 w') (.code .ret :: k0) a w :=
 adh hf hd hr (fun τ d=>⟨rfl,adC hS.bM τ d⟩) xM
theorem abr {tgt todo:List Item} (hit:todo.all qy=true) (hd:a.defers=[]) (hS:St w0 X V L w) (h:∀ w',St w0 X V L w'→fA Tryd.prog tgt (RB f0 R tgt) todo a w'):RB f0 R todo a w :=
 ado tgt hit hd fun τ d=>h _ (hS.re1 τ d)
theorem abP {tgt k:List Item} {S:Act→World→Prop} (n:Nat) {l:List Oper} (hn:n≤l.length) (hw:wpList Tryd.prog l.toArray (fun e a' w'=>e=.normal∧fA Tryd.prog tgt S (.inRegion l.toArray (List.range' n (l.length - n)) :: k) a' w') (l.take n) a w) :
  fA Tryd.prog tgt S (.inRegion l.toArray (List.range l.toArray.size) :: k) a w:=by
 have e:List.range l.toArray.size=List.range' 0 (l.take n).length ++ List.range' n (l.length - n):=by
  rw [List.range_eq_range',List.length_take,Nat.min_eq_left hn]
  have:=List.range'_append (s:=0) (m:=n) (n:=l.length - n) (step:=1)
  rw [Nat.zero_add,Nat.one_mul] at this
  rw [this]
  congr 1
  show l.length=_
  omega
 rw [e]
 refine abT _ a w ?_
 rw [abE (l.take n) 0 fun j hj=>?_]
 ·exact hw
 ·rw [List.length_take] at hj
  rw [Nat.zero_add,List.getElem?_take,if_pos (by omega)]
  simp
theorem abe {tgt k:List Item} {S:Act→World→Prop} (n:Nat) {l:List Oper} {m:List Nat} (hm:m=List.range' n (l.length - n)) (hw:wpList Tryd.prog l.toArray (fun e a' w'=>e=.normal∧fA Tryd.prog tgt S (.inRegion l.toArray [] :: k) a' w') (l.drop n) a w):fA Tryd.prog tgt S (.inRegion l.toArray m :: k) a w:=by
 subst hm
 have e:List.range' n (l.length - n)=List.range' n (l.drop n).length ++ []:=by rw [List.length_drop,List.append_nil]
 rw [e]
 refine abT _ a w ?_
 rw [abE (l.drop n) n fun j hj=>?_]
 ·exact hw
 ·rw [List.getElem?_drop]
  simp
end Go.Proofs.YtjjmefieegcddaaDoor
namespace Go.Wg
open Go Go.Mm Go.Proofs.YtjjmefieegcddaaDoor
end Go.Wg
namespace Go.Proofs.YtjjmefieegcddaaDoor
open Go.RowKit Go.Wg Go.Mm Go.Wk
open Go Go.Sr Go.Ph Go.Tm Go.Conc
variable {w w0:World} {V:View}
end Go.Proofs.YtjjmefieegcddaaDoor
namespace Go.Mm
open Go
variable {P:Program} {w0:World} {X:List Nat} {V:View} {L:List dF} {w:World}
variable {l:List Oper} {md:Region.Mode} {o:Oper} {a:Act} {Q:Exit→Act→World→Prop} {S:World→Prop} {fuel:Nat} {listed:Array Bool}
theorem gHd {l:Array Oper} (h:wpAnyH P md l Q S fuel listed a w):wpAnyH P md l Q S fuel listed a w:=h
end Go.Mm
