/- A part of the proof: W51, W52, W53, W54, W55, W67, W68, W69, W70, W82, W87, S30, S31, W88, W91. -/
import Derived.Test.YtjjmefieegcddaaDoorF13
import Derived.Test.YtjjmefieegcddaaDoorF11
import Derived.DeepKeys
set_option linter.unusedVariables false
set_option linter.unusedSimpArgs false
set_option maxHeartbeats 8000000
set_option maxRecDepth 20000
namespace Go.Proofs.YtjjmefieegcddaaDoor
open Go.RowKit Go.Wg Go.Mm Go.Wk
open Go Go.Sr Go.Ph Go.Tm Go.Conc
theorem uq {w w':World} {τ:Nat→Question→Nat} {d:Nat} (h:Kp (w.re τ d) w'):Kp w w':=⟨h.os,h.output,h.size,h.old⟩
theorem aaw {w w':World} (h:Kp w w') (τ:Nat→Question→Nat) (d:Nat):Kp w (w'.re τ d):=⟨h.os,h.output,h.size,h.old⟩
noncomputable def qy (x:Item):Bool :=
 match x with
 | .code c | .inLoop c=>bY true c
 | .inRegion ops _=>ops.all fun o=>qj true o.op
 | .inBlock _=>true
 | _=>false
theorem Gz {todo:List Item} (h:todo.all qy=true):∀ x∈todo,iC true x:=fun x hx=>by
 have:=List.all_eq_true.1 h x hx
 match x,this with
 | .code c,h=>exact h
 | .inLoop c,h=>exact h
 | .inRegion ops l,h=>exact h
 | .inBlock id,h=>trivial
section
variable {V:View} {w0 w:World} {p:Nat} {k:Wk} {D:List Nat} {b6 b8:Nat} {s:SS} {b:Frame} {cs:List Frame} {Q:Goroutine→World→Prop}
theorem CB (b6:Nat) {a:Act} (h:a.defers=[dC b6]):∀ d∈a.defers,iZ d:=fun d hd=>by
 rw [h] at hd
 simp only [List.mem_singleton] at hd
 subst hd
 simp [iZ,dC]
theorem vI {f0:FuncId} {a:Act} {todo tgt:List Item} (hbf:b.fn=f0) (hbk:b.kind=.normal) (hit:todo.all qy=true) (hd:∀ d∈a.defers,iZ d) (hh:ay OC w)
  {S:Act→World→Prop} (hre:∀ a w τ d,S a w→S a (w.re τ d)) (hrun:∀ τ d,fA Tryd.prog tgt S todo a (w.re τ d)) (hk:∀ a' w',S a' w'→ay OC w'→kU Tryd.prog (G (b.at a' tgt) cs) w' Q):kU Tryd.prog (G (b.at a todo) cs) w Q :=
 yE lT (f0:=f0) ⟨⟨Gz hit,hd,.inl hbk⟩,rfl,hbk,hbf⟩ hh hre hrun fun a' w' h1 h2 _=>hk a' w' h1 h2
theorem Qn (hX:NX V p k D b8 s) {x:SS} (hok:k.Ok) (hx:x.WF) (hlo:∀ i,0≤(x.aP i).1) (hhi:∀ i,(x.aP i).2≤1000) (hV:V.In w) (hh:ay OC w) (hbk:b.kind=.normal)
  {ops:Array Oper} {l:List Nat} {k0:List Item} {i d:Nat} {o:Oper} {y z:Operand} {ats:Array TypeId} {a:Act} (ho:ops[i]? = some o) (hop:o.op=.call { callee:=.value (.func 97),args:=#[y,z,.const (.bool false)],argTypes:=ats }) (hdst:o.dst=some d)
  (hw:Region.wanted o (yielded ops a.tmps)=true) (hok':qj true o.op=true) (hy:a.eval y=ptr p) (hz:a.eval z=.agg (dJ x).toArray)
  (hk:∀ w',Kp w w'→ay OC w'→kU Tryd.prog (G (b.at (a.put (some d) (aJ (dW k x false))) (.inRegion ops l :: k0)) cs) w' Q):kU Tryd.prog (G (b.at a (.inRegion ops (i :: l) :: k0)) cs) w Q:=by
 obtain ⟨ts,vv,rv,hC⟩:=hX.cel
 have htot:=QA hC hok x hx hlo hhi false hX.cl hX.pD hV hh
 refine Ou lT ho hw (by rw [hbk];decide) hok' hh (fun _ _ _=>trivial) fun d=>?_
 rw [run_call_body hop Tryd.func97 (by kernel_rfl) rfl]
 intro hhd
 have e:Array.map a.eval #[y,z,.const (.bool false)]=#[ptr p,.agg (dJ x).toArray,.bool false]:=by
  simp only [List.map_toArray,List.map_cons,List.map_nil,hy,hz]
  rfl
 rw [e]
 have hat:∀ {Q:Goroutine→World→Prop} {g:Goroutine},kU Tryd.prog g w Q→kU Tryd.prog g (w.at d) Q:=fun h=>h.at
 refine hat (xI ho htot (fun v w1 ⟨hv,hk1⟩ hh1=>?_) fun ch w1 ⟨hv,_⟩ _=>nomatch hv)
 cases hv
 rw [hdst]
 exact hk w1 hk1 hh1
structure N1 (w0:World) (V:View) (b6:Nat) (w:World):Prop where
 kp:Kp w0 w
 vin:V.In w
 e6:w.heap[b6]? = some (.cells #[.int .i64 0] 38 (0,0))
 n6:w0.heap.size≤b6
 off:V b6=none
theorem N1.st (h:N1 w0 V b6 w):St w0 [] V [.blk b6 38 [.int .i64 0]] w :=
 ⟨h.kp.os,h.kp.output,h.kp.size,fun i hi _=>h.kp.old i hi,h.vin,fun e he=>by
  simp only [List.mem_singleton] at he
  subst he
  exact h.e6,fun e he b hb=>by
  simp only [List.mem_singleton] at he
  subst he
  cases hb
  exact .inl h.n6,fun e he b hb=>by
  simp only [List.mem_singleton] at he
  subst he
  cases hb
  exact h.off,by simp [dF.foot]⟩
theorem N1.aaO (h:St w0 [] V [.blk b6 38 [.int .i64 0]] w):N1 w0 V b6 w :=
 ⟨h.bM,h.view,h.dR,(h.new (.blk b6 38 [.int .i64 0]) (by simp) b6 rfl).elim id (fun h=>nomatch h),h.off _ (List.mem_cons_self ..) b6 rfl⟩
theorem N1.step {w':World} (h:N1 w0 V b6 w) (hk:Kp w w'):N1 w0 V b6 w':=⟨h.kp.trans hk,h.vin.kp hk,(hk.old b6 (lt_of_heap h.e6)).trans h.e6,h.n6,h.off⟩
theorem N1.but {w':World} {mb:Nat} (h:N1 w0 V b6 w) (hk:ni mb w w') (hm:w0.heap.size≤mb) (hn:mb≠b6) (hV:V mb=none):N1 w0 V b6 w' :=
 ⟨⟨hk.os.trans h.kp.os,hk.output.trans h.kp.output,Nat.le_trans h.kp.size hk.size,fun i hi=>(hk.old i (Nat.lt_of_lt_of_le hi h.kp.size) (by omega)).trans (h.kp.old i hi)⟩,
  fun j o hj=>by
   have:=h.vin j o hj
   rw [hk.old j (lt_of_heap this) (by rintro rfl;rw [hV] at hj;cases hj)]
   exact this,(hk.old b6 (lt_of_heap h.e6) (Ne.symm hn)).trans h.e6,h.n6,h.off⟩
theorem N1.more {b14:Nat} {o:Obj} (h:N1 w0 V b6 w) (hb:w.heap[b14]? = some o) (hn:b14≠b6) (hV:V b14=none) :
  ∃ V',(∀ j u,V j=some u→V' j=some u)∧V' b14=some o∧(∀ j,j≠b14→V' j=V j)∧N1 w0 V' b6 w:=by
 refine ⟨fun j=>if j=b14 then some o else V j,fun j u hj=>?_,by simp,fun j hj=>by simp [hj],⟨h.kp,fun j u hj=>?_,h.e6,h.n6,by simp [Ne.symm hn,h.off]⟩⟩
 ·have:j≠b14:=by rintro rfl;rw [hV] at hj;cases hj
  simp [this,hj]
 ·split at hj
  ·rename_i e
   subst e
   cases hj
   exact hb
  ·exact h.vin j u hj
theorem NX.mono {V':View} (h:NX V p k D b8 s) (hV:∀ j u,V j=some u→V' j=some u):NX V' p k D b8 s :=
 ⟨by obtain ⟨ts,x,y,hc⟩:=h.cel;exact ⟨ts,x,y,hc.mono hV⟩,h.gv.mono hV,kM h.cl hV,h.pD,h.s8.mono hV⟩
theorem Az:iH.all qy=true:=by kernel_rfl
theorem IK:OM.all qy=true:=by kernel_rfl
theorem U7 (l:List Nat):(Ep l).all qy=true:=(show (Ep []).all qy=true by kernel_rfl)
theorem Ah:jO.all qy=true:=by kernel_rfl
theorem Yl (l:List Nat):(TT l).all qy=true:=(show (TT []).all qy=true by kernel_rfl)
end
theorem yJ {w:World} {b n:Nat} {l:List Nat} (h:jk w b n l) (τ:Nat→Question→Nat) (d:Nat):jk (w.re τ d) b n l:=h.of_heap rfl
theorem Yn {w w':World} {b:Nat} {τ:Nat→Question→Nat} {d:Nat} (h:ni b (w.re τ d) w'):ni b w w':=⟨h.os,h.output,h.size,h.old⟩
theorem Yb {w w':World} {b:Nat} (h:ni b w w') (τ:Nat→Question→Nat) (d:Nat):ni b w (w'.re τ d):=⟨h.os,h.output,h.size,h.old⟩
section
variable {V:View} {w0 w:World} {p:Nat} {k:Wk} {D:List Nat} {b6 b8:Nat} {s:SS} {b:Frame} {cs:List Frame} {Q:Goroutine→World→Prop}
structure N2 (w0:World) (V:View) (b6 b14 mb c:Nat) (r:Int × Int) (l:List Nat) (w:World):Prop where
 n:N1 w0 V b6 w
 r:V.Range b14 0 [.int .i64 r.1,.int .i64 r.2]
 m:∃ cnt,cnt≤c∧jk w mb cnt l
 lm:w0.heap.size≤mb
 vm:V mb=none
 m6:mb≠b6
theorem inner (hX:NX V p k D b8 s) (hok:k.Ok) (hs:s.WF) (hlo:∀ i,0≤(s.aP i).1) (hhi:∀ i,(s.aP i).2≤1000) (err:Int) (he0:0≤err) (he9:err≤9) (i:Nat) (hi:i < k.n) (b14 mb:Nat) (hbf:b.fn=43) (hbk:b.kind=.normal) (v9 v10:Value)
  (hend:∀ w f sh,N1 w0 V b6 w→V.Range b14 0 [.int .i64 (aO k s i).1,.int .i64 (aO k s i).2]→(aO k s i).2+err < sh→ay OC w →
   kU Tryd.prog (G (b.at ⟨kH (.int .i64 err) (ptr b6) (ptr p) (ptr b8) v9 v10 (.int .i64 i) (.int .i64 (qK k s i err)) (.map (some mb)) (ptr b14) (.int .i64 sh) (.int .i64 k.n) (.int .i64 i) f,[dC b6]⟩ iH) cs) w Q) :
  ∀ (m c:Nat),c+m=Ia (aO k s i) err→∀ w f,N2 w0 V b6 b14 mb c (aO k s i) (Kw k s i err ((aO k s i).1 - err) c).1 w→ay OC w →
   kU Tryd.prog (G (b.at ⟨kH (.int .i64 err) (ptr b6) (ptr p) (ptr b8) v9 v10 (.int .i64 i) (.int .i64 (Kw k s i err ((aO k s i).1 - err) c).2) (.map (some mb)) (ptr b14) (.int .i64 ((aO k s i).1 - err+c)) (.int .i64 k.n) (.int .i64 i) f,[dC b6]⟩ iH) cs) w Q:=by
 have hn6:k.n≤6:=hok.le
 obtain ⟨q1,q2,q3,q4⟩:=qE k s i 41 (Nat.le_refl _)
 rw [show bZ k s i 41=aO k s i from rfl] at q1 q2 q3 q4
 have hM:qK k s i err=(Kw k s i err ((aO k s i).1 - err) (Ia (aO k s i) err)).2:=rfl
 have hNx:∀ c:Nat,Kw k s i err ((aO k s i).1 - err) (c+1)=PL k s i err (Kw k s i err ((aO k s i).1 - err) c) ((aO k s i).1 - err+c):=fun c=>rfl
 rw [hM] at hend
 clear hM
 have hCnt:Ia (aO k s i) err=((aO k s i).2+err - ((aO k s i).1 - err)+1).toNat:=rfl
 generalize aO k s i=r at *
 intro m
 induction m with
 | zero =>
  intro c hc w f hN hh
  obtain rfl:c=Ia r err:=by omega
  refine hend w f _ hN.n hN.r ?_ hh
  rw [hCnt]
  omega
 | succ m ih =>
  intro c hc w f hN hh
  have hsh0:-9≤r.1 - err+(c:Int):=by omega
  have hsh:r.1 - err+(c:Int)≤r.2+err:=by omega
  have hnx:=hNx c
  obtain ⟨st,hst⟩:∃ st,Kw k s i err (r.1 - err) c=st:=⟨_,rfl⟩
  rw [hst] at hN hnx ⊢
  generalize he1:r.1 - err+(c:Int)=sh at *
  have he2:r.1 - err+((c+1:Nat):Int)=sh+1:=by omega
  have hx:(s.cu i (jA s i err sh)).WF:=hs.cu (Nat.lt_of_le_of_lt Nat.and_le_right (rG _ _))
  have hxl:(s.cu i (jA s i err sh)).aK i=jA s i err sh:=by
   unfold SS.cu SS.aK
   have:i < s.lim.length:=by rw [hs.lim];omega
   simp [List.getD_eq_getElem?_getD,this]
  refine vI (tgt:=OM) hbf hbk Az (CB b6 rfl) hh (S:=fun a w'=>∃ b16,((∃ f,a=⟨kH (.int .i64 err) (ptr b6) (ptr p) (ptr b8) v9 v10 (.int .i64 i) (.int .i64 st.2) (.map (some mb)) (ptr b14) (.int .i64 sh) (.int .i64 k.n) (.int .i64 i) f,[dC b6]⟩)∧a.tmps[16]? = some (ptr b16))∧St w [] V [.blk b16 100 (dJ (s.cu i (jA s i err sh)))] w')
   (fun a w' τ d ⟨b16,h1,h2⟩=>⟨b16,h1,h2.re1 τ d⟩) (fun τ d=>?_) ?_
  ·refine (Z5 (w:=w.re τ d) hX hs err he0 he9 i hi mb b14 r hN.r q3 q4 sh hsh0 hsh (ptr b6) v9 v10 (.int .i64 st.2) (.int .i64 k.n) (.int .i64 i) f hN.n.vin).mono ?_
   rintro a w' ⟨b16,h1,h2⟩
   exact ⟨b16,h1,h2.re0⟩
  ·rintro a w1 ⟨b16,⟨⟨f1,rfl⟩,h16⟩,hS1⟩ hh1
   have hf16:f1 16=ptr b16:=Option.some.inj h16
   have hkp1:=hS1.bM
   have hN1:=hN.n.step hkp1
   have hb16:=hS1.dR (b:=b16)
   have hl16:w.heap.size≤b16:=(hS1.new (.blk b16 100 (dJ (s.cu i (jA s i err sh)))) (by simp) b16 rfl).elim id (fun h=>nomatch h)
   have h16b6:b16≠b6:=by
    have:=lt_of_heap hN.n.e6
    omega
   obtain ⟨cnt,hcnt,hmap⟩:=hN.m
   have hmap1:jk w1 mb cnt st.1:=hmap.of_heap (hkp1.old mb hmap.lt)
   have h16m:b16≠mb:=by
    have:=hmap.lt
    omega
   obtain ⟨V',hVV,hV16,hVo,hN2⟩:=hN1.more hb16 h16b6 (hS1.off _ (List.mem_cons_self ..) b16 rfl)
   have hX':=hX.mono hVV
   have hr16:V'.Range b16 0 (dJ (s.cu i (jA s i err sh))):=fun j v hj=>⟨_,_,_,hV16,by rw [Nat.zero_add];simpa using hj⟩
   have hV'm:V' mb=none:=(hVo mb (Ne.symm h16m)).trans hN.vm
   have back:∀ {w2:World} {l2:List Nat} {n2:Nat},n2≤c+1→jk w2 mb n2 l2→N1 w0 V' b6 w2→N2 w0 V b6 b14 mb (c+1) r l2 w2:=fun h1 h2 h3 =>
    ⟨⟨h3.kp,fun j u hj=>h3.vin j u (hVV j u hj),h3.e6,h3.n6,hN.n.off⟩,hN.r,⟨_,h1,h2⟩,hN.lm,hN.vm,hN.m6⟩
   have ihc:=ih (c+1) (by omega)
   rw [hnx,he2] at ihc
   have hcase:PL k s i err st sh=if st.1.contains (jA s i err sh) || !can k (s.cu i (jA s i err sh)) then st else (jA s i err sh :: st.1,max st.2 (oQ (dW k (s.cu i (jA s i err sh)) false))):=rfl
   cases hmet:st.1.contains (jA s i err sh) with
   | true =>
    rw [hmet] at hcase
    simp only [Bool.true_or,if_true] at hcase
    rw [hcase] at ihc
    refine vI (tgt:=iH) hbf hbk IK (CB b6 rfl) hh1 (S:=fun a w'=>(∃ f,a=⟨kH (.int .i64 err) (ptr b6) (ptr p) (ptr b8) v9 v10 (.int .i64 i) (.int .i64 st.2) (.map (some mb)) (ptr b14) (.int .i64 (sh+1)) (.int .i64 k.n) (.int .i64 i) f,[dC b6]⟩)∧Kp w1 w')
     (fun a w' τ d h=>⟨h.1,aaw h.2 τ d⟩) (fun τ d=>?_) ?_
    ·refine (UD (w:=w1.re τ d) hX' hx err i hi mb b14 b16 cnt st.1 (yJ hmap1 τ d) hr16 sh hsh0 (by omega) _ _ _ _ _ _ f1 hf16 hN2.vin (by rw [hxl];exact hmet)).mono ?_
     rintro a w' ⟨h1,h2⟩
     exact ⟨h1,uq h2⟩
    ·rintro a w2 ⟨⟨f2,rfl⟩,hk2⟩ hh2
     exact ihc w2 f2 (back (by omega) (hmap1.of_heap (hk2.old mb hmap1.lt)) (hN2.step hk2)) hh2
   | false =>
    cases hcan:can k (s.cu i (jA s i err sh)) with
    | false =>
     rw [hmet,hcan] at hcase
     simp only [Bool.false_or,Bool.not_false,if_true] at hcase
     rw [hcase] at ihc
     refine vI (tgt:=iH) hbf hbk IK (CB b6 rfl) hh1 (S:=fun a w'=>(∃ f,a=⟨kH (.int .i64 err) (ptr b6) (ptr p) (ptr b8) v9 v10 (.int .i64 i) (.int .i64 st.2) (.map (some mb)) (ptr b14) (.int .i64 (sh+1)) (.int .i64 k.n) (.int .i64 i) f,[dC b6]⟩)∧Kp w1 w')
      (fun a w' τ d h=>⟨h.1,aaw h.2 τ d⟩) (fun τ d=>?_) ?_
     ·refine (XY (w:=w1.re τ d) hX' hx err i hi mb b14 b16 cnt st.1 (yJ hmap1 τ d) hr16 sh hsh0 (by omega) _ _ _ _ _ _ f1 hf16 hN2.vin (by rw [hxl];exact hmet) hcan).mono ?_
      rintro a w' ⟨h1,h2⟩
      exact ⟨h1,uq h2⟩
     ·rintro a w2 ⟨⟨f2,rfl⟩,hk2⟩ hh2
      exact ihc w2 f2 (back (by omega) (hmap1.of_heap (hk2.old mb hmap1.lt)) (hN2.step hk2)) hh2
    | true =>
     rw [hmet,hcan] at hcase
     simp only [Bool.false_or,Bool.not_true,Bool.false_eq_true,if_false] at hcase
     rw [hcase] at ihc
     simp only at ihc
     have hcb:cnt < 1000000:=by omega
     refine vI (tgt:=Ep [3,4,5,6]) hbf hbk IK (CB b6 rfl) hh1 (S:=fun a w'=>((∃ f,a=⟨kH (.int .i64 err) (ptr b6) (ptr p) (ptr b8) v9 v10 (.int .i64 i) (.int .i64 st.2) (.map (some mb)) (ptr b14) (.int .i64 sh) (.int .i64 k.n) (.int .i64 i) f,[dC b6]⟩) ∧
       a.tmps[90]? = some (.int .i64 st.2)∧a.tmps[91]? = some (ptr p)∧a.tmps[92]? = some (.agg (dJ (s.cu i (jA s i err sh))).toArray))∧jk w' mb (cnt+1) ((s.cu i (jA s i err sh)).aK i :: st.1)∧ni mb w1 w')
      (fun a w' τ d h=>⟨h.1,yJ h.2.1 τ d,Yb h.2.2 τ d⟩) (fun τ d=>?_) ?_
     ·refine (U8 (w:=w1.re τ d) hX' hx err i hi mb b14 b16 cnt st.1 (yJ hmap1 τ d) hr16 sh hsh0 (by omega) _ _ _ _ _ _ f1 hf16 hN2.vin (by rw [hxl];exact hmet) hcan hcb hV'm).mono ?_
      rintro a w' ⟨h1,h2,h3⟩
      exact ⟨h1,h2,Yn h3⟩
     ·rintro a w2 ⟨⟨⟨f2,rfl⟩,h90,h91,h92⟩,hm2,hk2⟩ hh2
      rw [hxl] at hm2
      have hN3:=hN2.but hk2 hN.lm hN.m6 hV'm
      have e91:f2 91=ptr p:=Option.some.inj h91
      have e92:f2 92=.agg (dJ (s.cu i (jA s i err sh))).toArray:=Option.some.inj h92
      have e90:f2 90=.int .i64 st.2:=Option.some.inj h90
      refine Qn hX' hok hx hlo hhi hN3.vin hh2 hbk (o:=YE[3]!) (y:=.tmp 91) (z:=.tmp 92) (d:=93) rfl rfl rfl rfl rfl e91 e92 fun w3 hk3 hh3=>?_
      have hN4:=hN3.step hk3
      have hb:=GH k hn6 (s.cu i (jA s i err sh)) false hlo
      obtain ⟨tt,htt⟩:∃ tt,dW k (s.cu i (jA s i err sh)) false=tt:=⟨_,rfl⟩
      rw [htt] at hb ihc ⊢
      have eA:(Act.put ⟨kH (.int .i64 err) (ptr b6) (ptr p) (ptr b8) v9 v10 (.int .i64 i) (.int .i64 st.2) (.map (some mb)) (ptr b14) (.int .i64 sh) (.int .i64 k.n) (.int .i64 i) f2,[dC b6]⟩ (some 93) (aJ tt)) =
        ⟨kH (.int .i64 err) (ptr b6) (ptr p) (ptr b8) v9 v10 (.int .i64 i) (.int .i64 st.2) (.map (some mb)) (ptr b14) (.int .i64 sh) (.int .i64 k.n) (.int .i64 i) (fun j=>if j=93 then aJ tt else f2 j),[dC b6]⟩:=rfl
      rw [eA]
      refine vI (tgt:=iH) hbf hbk (U7 [4,5,6]) (CB b6 rfl) hh3 (S:=fun a w'=>(∃ f,a=⟨kH (.int .i64 err) (ptr b6) (ptr p) (ptr b8) v9 v10 (.int .i64 i) (.int .i64 (max st.2 (oQ tt))) (.map (some mb)) (ptr b14) (.int .i64 (sh+1)) (.int .i64 k.n) (.int .i64 i) f,[dC b6]⟩)∧Kp w3 w')
       (fun a w' τ d h=>⟨h.1,aaw h.2 τ d⟩) (fun τ d=>?_) ?_
      ·refine (aat (w:=w3.re τ d) st.2 sh hsh0 (by omega) _ _ _ _ _ _ _ _ _ _ _ (fun j=>if j=93 then aJ tt else f2 j) tt (hb.mono (by omega)) (by simp) (by simp [e90]) hN4.vin).mono ?_
       rintro a w' ⟨h1,h2⟩
       exact ⟨h1,uq h2⟩
      ·rintro a w4 ⟨⟨f4,rfl⟩,hk4⟩ hh4
       have hm3:=hm2.of_heap (hk3.old mb hm2.lt)
       exact ihc w4 f4 (back (by omega) (hm3.of_heap (hk4.old mb hm3.lt)) (hN4.step hk4)) hh4
end
section
variable {V:View} {w0 w:World} {p:Nat} {k:Wk} {D:List Nat} {b6 b8:Nat} {s:SS} {b:Frame} {cs:List Frame} {Q:Goroutine→World→Prop}
theorem outer (hX:NX V p k D b8 s) (hok:k.Ok) (hs:s.WF) (hlo:∀ i,0≤(s.aP i).1) (hhi:∀ i,(s.aP i).2≤1000) (err:Int) (he0:0≤err) (he9:err≤9) (hbf:b.fn=43) (hbk:b.kind=.normal)
  (hend:∀ w f v11 v12 v13 v14 v15,N1 w0 V b6 w→ay OC w→kU Tryd.prog (G (b.at ⟨kH (.int .i64 err) (ptr b6) (ptr p) (ptr b8) (.int .i64 (fM k s err k.n).1) (.int .i64 (fM k s err k.n).2) v11 v12 v13 v14 v15 (.int .i64 k.n) (.int .i64 k.n) f,[dC b6]⟩ jO) cs) w Q) :
  ∀ (m i:Nat),i+m=k.n→∀ w f v11 v12 v13 v14 v15,N1 w0 V b6 w→ay OC w →
   kU Tryd.prog (G (b.at ⟨kH (.int .i64 err) (ptr b6) (ptr p) (ptr b8) (.int .i64 (fM k s err i).1) (.int .i64 (fM k s err i).2) v11 v12 v13 v14 v15 (.int .i64 k.n) (.int .i64 i) f,[dC b6]⟩ jO) cs) w Q:=by
 have hn6:k.n≤6:=hok.le
 intro m
 induction m with
 | zero =>
  intro i hi w f v11 v12 v13 v14 v15 hN hh
  obtain rfl:i=k.n:=by omega
  exact hend w f v11 v12 v13 v14 v15 hN hh
 | succ m ih =>
  intro i hi w f v11 v12 v13 v14 v15 hN hh
  have hlt:i < k.n:=by omega
  have hwb:=qE k s i 41 (Nat.le_refl _)
  rw [show bZ k s i 41=aO k s i from rfl] at hwb
  have ihc:=ih (i+1) (by omega)
  have hB:fM k s err (i+1)=if qK k s i err < (fM k s err i).2 then ((i:Int),qK k s i err) else fM k s err i:=rfl
  refine vI (tgt:=iH) hbf hbk Ah (CB b6 rfl) hh (S:=fun a w'=>∃ mb b14,(∃ f,a=⟨kH (.int .i64 err) (ptr b6) (ptr p) (ptr b8) (.int .i64 (fM k s err i).1) (.int .i64 (fM k s err i).2) (.int .i64 i) (.int .i64 0) (.map (some mb)) (ptr b14) (.int .i64 ((aO k s i).1 - err)) (.int .i64 k.n) (.int .i64 i) f,[dC b6]⟩) ∧
    Kp w w'∧jk w' mb 0 []∧w.heap.size≤mb∧w.heap.size≤b14∧w'.heap[b14]? = some (.cells #[.int .i64 (aO k s i).1,.int .i64 (aO k s i).2] 27 (0,0)))
   (fun a w' τ d ⟨mb,b14,h1,h2,h3,h4⟩=>⟨mb,b14,h1,aaw h2 τ d,yJ h3 τ d,h4⟩) (fun τ d=>?_) ?_
  ·refine (GK (w:=w.re τ d) hX hs err he0 he9 i hlt (ptr b6) _ _ v11 v12 v13 v14 v15 f hN.vin).mono ?_
   rintro a w' ⟨mb,b14,h1,h2,h3,h4⟩
   exact ⟨mb,b14,h1,uq h2,h3,h4⟩
  ·rintro a w1 ⟨mb,b14,⟨f1,rfl⟩,hk1,hm1,lm,l14,h14⟩ hh1
   have hN1:=hN.step hk1
   have h6lt:=lt_of_heap hN.e6
   have hVn:∀ {j:Nat},w.heap.size≤j→V j=none:=fun {j} hj=>by
    cases hv:V j with
    | none=>rfl
    | some o =>
     have:=lt_of_heap (hN.vin j o hv)
     omega
   have hne:mb≠b14:=by
    rintro rfl
    obtain ⟨es,cl,ho⟩:=hm1.obj
    rw [h14] at ho
    cases ho
   obtain ⟨V2,hVV,hV14,hVo,hN2⟩:=hN1.more h14 (by omega) (hVn l14)
   have hr14:V2.Range b14 0 [.int .i64 (aO k s i).1,.int .i64 (aO k s i).2]:=fun j v hj=>⟨_,_,_,hV14,by rw [Nat.zero_add];simpa using hj⟩
   have hin:=inner (b:=b) (cs:=cs) (Q:=Q) (w0:=w0) (b6:=b6) (hX.mono hVV) hok hs hlo hhi err he0 he9 i hlt b14 mb hbf hbk (.int .i64 (fM k s err i).1) (.int .i64 (fM k s err i).2) (fun w2 f2 sh hN3 hr3 hsh hh2=>?_) (Ia (aO k s i) err) 0 (by omega) w1 f1
    ⟨hN2,hr14,⟨0,Nat.le_refl _,hm1⟩,Nat.le_trans hN.kp.size lm,(hVo mb hne).trans (hVn lm),by omega⟩ hh1
   ·have e0:(aO k s i).1 - err+((0:Nat):Int)=(aO k s i).1 - err:=by omega
    rw [e0] at hin
    exact hin
   ·have hback:N1 w0 V b6 w2→N1 w0 V b6 w2:=id
    have hN4:N1 w0 V b6 w2:=⟨hN3.kp,fun j u hj=>hN3.vin j u (hVV j u hj),hN3.e6,hN3.n6,hN.off⟩
    by_cases hlt':qK k s i err < (fM k s err i).2
    ·rw [if_pos hlt'] at hB
     rw [hB] at ihc
     refine vI (tgt:=jO) hbf hbk Az (CB b6 rfl) hh2 (S:=fun a w'=>(∃ f,a=⟨kH (.int .i64 err) (ptr b6) (ptr p) (ptr b8) (.int .i64 i) (.int .i64 (qK k s i err)) (.int .i64 i) (.int .i64 (qK k s i err)) (.map (some mb)) (ptr b14) (.int .i64 sh) (.int .i64 k.n) (.int .i64 ((i:Int)+1)) f,[dC b6]⟩)∧Kp w2 w')
      (fun a w' τ d h=>⟨h.1,aaw h.2 τ d⟩) (fun τ d=>?_) ?_
     ·refine (YP (w:=w2.re τ d) err _ _ _ sh i k.n b14 _ hr3 hwb.2.2.1 hwb.2.2.2 he0 he9 hsh hlt hn6 hlt' _ _ _ _ f2 hN3.vin).mono ?_
      rintro a w' ⟨h1,h2⟩
      exact ⟨h1,uq h2⟩
     ·rintro a w3 ⟨⟨f3,rfl⟩,hk3⟩ hh3
      exact ihc w3 f3 _ _ _ _ _ (hN4.step hk3) hh3
    ·rw [if_neg hlt'] at hB
     rw [hB] at ihc
     refine vI (tgt:=jO) hbf hbk Az (CB b6 rfl) hh2 (S:=fun a w'=>(∃ f,a=⟨kH (.int .i64 err) (ptr b6) (ptr p) (ptr b8) (.int .i64 (fM k s err i).1) (.int .i64 (fM k s err i).2) (.int .i64 i) (.int .i64 (qK k s i err)) (.map (some mb)) (ptr b14) (.int .i64 sh) (.int .i64 k.n) (.int .i64 ((i:Int)+1)) f,[dC b6]⟩)∧Kp w2 w')
      (fun a w' τ d h=>⟨h.1,aaw h.2 τ d⟩) (fun τ d=>?_) ?_
     ·refine (ZK (w:=w2.re τ d) err _ _ _ sh i k.n b14 _ hr3 hwb.2.2.1 hwb.2.2.2 he0 he9 hsh hlt hn6 hlt' _ _ _ _ f2 hN3.vin).mono ?_
      rintro a w' ⟨h1,h2⟩
      exact ⟨h1,uq h2⟩
     ·rintro a w3 ⟨⟨f3,rfl⟩,hk3⟩ hh3
      exact ihc w3 f3 _ _ _ _ _ (hN4.step hk3) hh3
theorem KU {a:Act} {x y e:Int} {k0:List Item} (hk0:k0.all qy=true) (hbf:b.fn=43) (hbk:b.kind=.normal) (hh:ay OC w) (h4:a.tmps[4]? = some (.int .i64 x)) (h5:a.tmps[5]? = some (.int .i64 y)) (h6:a.tmps[6]? = some (ptr b6)) (hd:a.defers=[dC b6])
  (hS:St w0 [] V [.blk b6 38 [.int .i64 e]] w) :
  kU Tryd.prog (G (b.at a (.code .ret :: k0)) cs) w (fun a' w'=>∃ e' fr,a'=G fr cs∧(e'=.returned (.tuple #[.int .i64 x,.int .i64 y,.int .i64 e])∧Kp w0 w')∧fr.fn=43∧fr.leaving Tryd.prog w' e'∧e'≠.outgrown∧ay OC w'):=by
 obtain ⟨tm,df⟩:=a
 simp only at h4 h5 h6 hd
 subst hd
 refine CV ?_
 refine Bq (fr:={ b.at ⟨tm,[dC b6]⟩ (.code .ret :: k0) with mode:=.returning }) (R:=fun e' w'=>e'=.returned (.tuple #[.int .i64 x,.int .i64 y,.int .i64 e])∧Kp w0 w') lT xM (fun w h=>nomatch h.1) (fn:=Tryd.f43) ⟨⟨fun z hz=>?_,CB b6 (a:=⟨tm,[dC b6]⟩) rfl,.inl hbk⟩,rfl,hbk,hbf⟩ Tryd.func43 hh rfl (fun τ d=>?_) cs
 ·rcases List.mem_cons.1 (show z∈Item.code .ret :: k0 from hz) with rfl | hz
  ·exact (show bY true .ret=true from rfl)
  ·exact Gz hk0 z hz
 ·have g:∀ {j:Nat} {v:Value},tm[j]? = some v→tm.getD j undef=v:=fun h=>by
   rw [Array.getD_eq_getD_getElem?,h]
   rfl
  exact iF (R:=fun e' w'=>e'=.returned (.tuple #[.int .i64 x,.int .i64 y,.int .i64 e])∧Kp w0 w') (hS.re1 τ d) fun w3 hS3=>⟨_,results3 (r1:=.tmp 4) (r2:=.tmp 5) (r3:=.cell 6 38) (by kernel_rfl) (yS (g h4)) (yS (g h5)) (AO hS3 0 (g h6) rfl (by kernel_rfl) rfl),rfl,hS3.bM⟩
end
variable {w:World} {V:View}
theorem Vu (vv rv:Value) (k:Wk) (hk:iJ V vv rv k) (hG:GV V) (hV:V.In w) (err:Int) (hbs:¬ (aS k []=0∧fQ err 0 9=false∧Go.Wg.settle k (aN k aC)=none)) :
  Calls Tryd.prog 43 #[.agg #[vv,rv],.int .i64 err] w fun r w'=>r=.returned (.tuple #[.int .i64 (oW k err).1.1,.int .i64 (oW k err).1.2,.int .i64 (oW k err).2])∧Kp w w':=by
 have hk0:=hk
 obtain ⟨va,vcap,rfl,hvc,hvm,hve⟩:=hk0.ves.is
 obtain ⟨ra,rcap,rfl,hrc,hrm,hre⟩:=hk0.rdg.is
 have hS:=St.start w V hV
 clear hk0 hve hre
 by_cases hb:aS k []=0
 ·have hok:=dP hb
  cases ho:fQ err 0 9 with
  | true =>
   have hC:oW k err=((0,0),1):=by
    unfold oW
    rw [if_neg (by simp [hb]),ho]
    rfl
   rw [hC]
   simp only
   replace hC:=aj hC;replace hb:=aj hb
   clear hbs
   go_enter_defers Tryd.func43,Tryd.ntmps43
   go_wp2_with (first | (first | ((first | ((with_reducible refine gL ?_);first | refine gY hS rfl rfl rfl ?_ | refine lW hS rfl rfl rfl ?_) | ((with_reducible refine gS ?_);refine pX hS rfl rfl rfl ?_));refine ⟨_,zd,?_⟩;clear hS;(try clear w');refine zF ?_;intro w' hS;(try simp only [sE] at hS)) | ((with_reducible refine gA ?_);refine aT 6 rfl hS rfl rfl ?_;clear hS;(try clear w');intro b6;refine zF ?_;intro w' hS) | (((with_reducible refine gB ?_);refine jQ hS rfl rfl rfl ?_;refine ⟨_,za,?_⟩);clear hS;(try clear w');intro _;refine zF ?_;intro w' hS)) |
    (go_at_call 77;refine eG hS hk pG (by simp) hb.out ?_;clear hS;(try clear w');intro p V' w' hVV hcel hS;have hG':GV V':=hG.mono hVV) |
    (go_at_call 88;refine aH hS ⟨_,fB _ _ _ _,?_⟩;rw [ho];clear hS;(try clear w');intro w' hS))
   (refine iF hS ?_;clear hS;(try clear w');intro w' hS;(try simp only [sE] at hS);refine ⟨_,by exact results3 (r1:=.tmp 4) (r2:=.tmp 5) (r3:=.cell 6 38) (by kernel_rfl) (by exact bD rfl) (by exact bD rfl) (by exact zA hS rfl zd),?_⟩)
   exact ⟨rfl,hS.bM⟩
  | false =>
   cases hst:Go.Wg.settle k (aN k aC) with
   | none=>exact (hbs ⟨hb,ho,hst⟩).elim
   | some i =>
    have hC:oW k err=((0,0),9):=by
     unfold oW
     rw [if_neg (by simp [hb]),ho,hst]
     rfl
    rw [hC]
    simp only
    replace hC:=aj hC;replace hst:=aj hst;replace hb:=aj hb
    clear hbs
    go_enter_defers Tryd.func43,Tryd.ntmps43
    go_wp2_with (first | (first | ((first | ((with_reducible refine gL ?_);first | refine gY hS rfl rfl rfl ?_ | refine lW hS rfl rfl rfl ?_) | ((with_reducible refine gS ?_);refine pX hS rfl rfl rfl ?_));refine ⟨_,zd,?_⟩;clear hS;(try clear w');refine zF ?_;intro w' hS;(try simp only [sE] at hS)) | ((with_reducible refine gA ?_);refine aT 6 rfl hS rfl rfl ?_;clear hS;(try clear w');intro b6;refine zF ?_;intro w' hS) | (((with_reducible refine gB ?_);refine jQ hS rfl rfl rfl ?_;refine ⟨_,za,?_⟩);clear hS;(try clear w');intro _;refine zF ?_;intro w' hS)) |
     (go_at_call 77;refine eG hS hk pG (by simp) hb.out ?_;clear hS;(try clear w');intro p V' w' hVV hcel hS;have hG':GV V':=hG.mono hVV) |
     (go_at_call 88;refine aH hS ⟨_,fB _ _ _ _,?_⟩;rw [ho];clear hS;(try clear w');intro w' hS) |
     (go_at_call 83;refine nH hS (zN V' p k hcel hok i hst.out _ (St.view hS)) ?_;clear hS;(try clear w');intro w' hS))
    (refine vJ hS ?_;clear hS;(try clear w');intro w' hS;(try simp only [sE] at hS);refine ⟨_,by exact results3 (r1:=.tmp 4) (r2:=.tmp 5) (r3:=.cell 6 38) (by kernel_rfl) (by exact bD rfl) (by exact bD rfl) (by exact zA hS rfl zd),?_⟩)
    exact ⟨rfl,hS.bM⟩
 ·clear hbs
  have hC:oW k err=((0,0),aS k []):=by unfold oW;rw [if_pos hb]
  rw [hC]
  simp only
  have hb':(aS k [] == 0)=false:=by rw [beq_eq_false_iff_ne];exact hb
  have hE:Go.RowKit.Hid (∃ e,aS k []=e):=aj ⟨_,rfl⟩
  obtain ⟨e,he⟩:=hE.out
  rw [he] at hb' ⊢
  replace hC:=aj hC;replace he:=aj he
  go_enter_defers Tryd.func43,Tryd.ntmps43
  go_wp2_with (first | (first | ((first | ((with_reducible refine gL ?_);first | refine gY hS rfl rfl rfl ?_ | refine lW hS rfl rfl rfl ?_) | ((with_reducible refine gS ?_);refine pX hS rfl rfl rfl ?_));refine ⟨_,zd,?_⟩;clear hS;(try clear w');refine zF ?_;intro w' hS;(try simp only [sE] at hS)) | ((with_reducible refine gA ?_);refine aT 6 rfl hS rfl rfl ?_;clear hS;(try clear w');intro b6;refine zF ?_;intro w' hS) | (((with_reducible refine gB ?_);refine jQ hS rfl rfl rfl ?_;refine ⟨_,za,?_⟩);clear hS;(try clear w');intro _;refine zF ?_;intro w' hS)) |
   (go_at_call 77;refine fF hS hk pG (by simp) hb ?_;rw [he.out];clear hS;(try clear w');intro w' hS))
  (refine bF (S:=(St w [] V [.blk b6 38 [.int .i64 e]])) [false,false,false,false] rfl (by kernel_rfl) ?_;replace hS:=St.eY hS;(refine hxa 0 rfl ?_;refine zH ?_);(refine C9 1 (by kernel_rfl) rfl rfl (St.aG hS) ?_;refine ⟨_,zp,?_⟩;refine zH ?_);(refine C9 2 (by kernel_rfl) rfl rfl (St.aG hS) ?_;refine ⟨_,zp,?_⟩;refine zH ?_);((refine jl 3 (by kernel_rfl) rfl hS rfl  rfl rfl ?_;refine ⟨_,zd,?_⟩);clear hS;(try clear w');refine zH ?_;intro w' hS;(try simp only [sE] at hS);refine ⟨(St.aG hS),?_⟩);refine wpAnyH_done (by kernel_rfl) ?_ _)
  go_wp2_with (fail)
  (refine iF hS ?_;clear hS;(try clear w');intro w' hS;(try simp only [sE] at hS);refine ⟨_,by exact results3 (r1:=.tmp 4) (r2:=.tmp 5) (r3:=.cell 6 38) (by kernel_rfl) (by exact bD rfl) (by exact bD rfl) (by exact zA hS rfl zd),?_⟩)
  exact ⟨by rfl,(hS.bM)⟩
theorem Zn (vv rv:Value) (k:Wk) (hk:iJ V vv rv k) (hG:GV V) (hV:V.In w) (hh:ay OC w) (err:Int) :
  kL Tryd.prog 43 #[.agg #[vv,rv],.int .i64 err] w fun r w'=>r=.returned (.tuple #[.int .i64 (oW k err).1.1,.int .i64 (oW k err).1.2,.int .i64 (oW k err).2])∧Kp w w':=by
 by_cases hbs:aS k []=0∧fQ err 0 9=false∧Go.Wg.settle k (aN k aC)=none
 ·obtain ⟨hb,ho,hst⟩:=hbs
  have hC:oW k err=if (fM k (aN k aC) err k.n).1 < 0 then ((0,0),11) else (fM k (aN k aC) err k.n,0):=by
   unfold oW
   rw [if_neg (by simp [hb]),ho,hst]
   rfl
  have hok:=dP hb
  have he:0≤err∧err≤9:=by
   unfold fQ at ho
   simp only [Bool.or_eq_false_iff,decide_eq_false_iff_not] at ho
   omega
  have hs:=gG k aC
  have hlo:=QU k hok aC
  have hhi:∀ i,((aN k aC).aP i).2≤1000:=fun i=>Int.le_trans (Jy k hok aC i) (by decide)
  refine jD Tryd.func43 (show Tryd.f43.body=some B43 from rfl) fun cs b hbf hbk hbr=>?_
  have e104:Tryd.f43.ntmps - (#[.agg #[vv,rv],.int .i64 err]:Array Value).size=104:=by kernel_rfl
  rw [e104]
  obtain ⟨tm0,htm⟩:∃ tm0,#[Value.agg #[vv,rv],.int .i64 err] ++ Array.replicate 104 undef=tm0:=⟨_,rfl⟩
  rw [htm]
  refine vI (tgt:=TT [2,3,4,5]) hbf hbk (show [Item.code B43].all qy=true by kernel_rfl) (fun d hd=>nomatch hd) hh
   (S:=fun a w'=>∃ p V' D b6 b8,((∃ f,a=⟨kH (.int .i64 err) (ptr b6) (ptr p) (ptr b8) undef undef undef undef undef undef undef undef undef f,[dC b6]⟩)∧a.tmps[29]? = some (ptr p)∧a.tmps[30]? = some (.agg (dJ (aN k aC)).toArray)) ∧
    NX V' p k D b8 (aN k aC)∧St w [] V' [.blk b6 38 [.int .i64 0]] w')
   (fun a w' τ d ⟨p,V',D,b6,b8,h1,h2,h3⟩=>⟨p,V',D,b6,b8,h1,h2,h3.re1 τ d⟩) (fun τ d=>?_) ?_
  ·rw [← htm]
   refine (PX (w:=w.re τ d) vv rv k hk hG hV err hb ho hst).mono ?_
   rintro a w' ⟨p,V',D,b6,b8,h1,h2,h3⟩
   exact ⟨p,V',D,b6,b8,h1,h2,h3.re0⟩
  ·rintro a w1 ⟨p,V',D,b6,b8,⟨⟨f1,rfl⟩,h29,h30⟩,hX,hS1⟩ hh1
   have e29:f1 29=ptr p:=Option.some.inj h29
   have e30:f1 30=.agg (dJ (aN k aC)).toArray:=Option.some.inj h30
   refine Qn hX hok hs hlo hhi hS1.view hh1 hbk (o:=ops8[2]!) (y:=.tmp 29) (z:=.tmp 30) (d:=31) rfl rfl rfl rfl rfl e29 e30 fun w2 hk2 hh2=>?_
   have hN2:=(N1.aaO hS1).step hk2
   have hbd:=GH k hok.le (aN k aC) false hlo
   have hB0:fM k (aN k aC) err 0=(-1,oQ (dW k (aN k aC) false)):=rfl
   obtain ⟨tt,htt⟩:∃ tt,dW k (aN k aC) false=tt:=⟨_,rfl⟩
   rw [htt] at hbd hB0 ⊢
   have hout:=fun Q h=>outer (w0:=w) (b6:=b6) (b:=b) (cs:=cs) (Q:=Q) hX hok hs hlo hhi err he.1 he.2 hbf hbk h k.n 0 (Nat.zero_add _)
   rw [hB0] at hout
   have eA:(Act.put ⟨kH (.int .i64 err) (ptr b6) (ptr p) (ptr b8) undef undef undef undef undef undef undef undef undef f1,[dC b6]⟩ (some 31) (aJ tt)) =
     ⟨kH (.int .i64 err) (ptr b6) (ptr p) (ptr b8) undef undef undef undef undef undef undef undef undef (fun j=>if j=31 then aJ tt else f1 j),[dC b6]⟩:=rfl
   rw [eA]
   refine vI (tgt:=jO) hbf hbk (Yl [3,4,5]) (CB b6 rfl) hh2 (S:=fun a w'=>(∃ f,a=⟨kH (.int .i64 err) (ptr b6) (ptr p) (ptr b8) (.int .i64 (-1)) (.int .i64 (oQ tt)) undef undef undef undef undef (.int .i64 k.n) (.int .i64 0) f,[dC b6]⟩)∧Kp w2 w')
    (fun a w' τ d h=>⟨h.1,aaw h.2 τ d⟩) (fun τ d=>?_) ?_
   ·refine (aas (w:=w2.re τ d) hX _ _ _ _ _ _ _ _ _ _ _ _ (fun j=>if j=31 then aJ tt else f1 j) tt (hbd.mono (by omega)) (by simp) hN2.vin).mono ?_
    rintro a w' ⟨h1,h2⟩
    exact ⟨h1,uq h2⟩
   ·rintro a w3 ⟨⟨f3,rfl⟩,hk3⟩ hh3
    refine hout _ (fun w f v11 v12 v13 v14 v15 hN hh=>?_) w3 f3 undef undef undef undef undef (hN2.step hk3) hh3
    by_cases hneg:(fM k (aN k aC) err k.n).1 < 0
    ·rw [if_pos hneg] at hC
     rw [hC]
     refine vI (tgt:=[.code .ret,.code N28]) hbf hbk Ah (CB b6 rfl) hh (S:=fun a w'=>(a.tmps[4]? = some (.int .i64 0)∧a.tmps[5]? = some (.int .i64 0)∧a.tmps[6]? = some (ptr b6)∧a.defers=[dC b6])∧St _ [] V' [.blk b6 38 [.int .i64 11]] w')
      (fun a w' τ d h=>⟨h.1,h.2.re1 τ d⟩) (fun τ d=>Zb _ _ k.n b6 hok.le hneg _ _ _ _ _ _ _ _ f (hN.st.re1 τ d)) ?_
     rintro a w4 ⟨⟨h4,h5,h6,hd⟩,hS4⟩ hh4
     exact KU (k0:=[.code N28]) (by kernel_rfl) hbf hbk hh4 h4 h5 h6 hd hS4
    ·rw [if_neg hneg] at hC
     rw [hC]
     refine vI (tgt:=[.code .ret]) hbf hbk Ah (CB b6 rfl) hh (S:=fun a w'=>(a.tmps[4]? = some (.int .i64 (fM k (aN k aC) err k.n).1)∧a.tmps[5]? = some (.int .i64 (fM k (aN k aC) err k.n).2)∧a.tmps[6]? = some (ptr b6)∧a.defers=[dC b6])∧St _ [] V' [.blk b6 38 [.int .i64 0]] w')
      (fun a w' τ d h=>⟨h.1,h.2.re1 τ d⟩) (fun τ d=>YQ _ _ k.n b6 hok.le hneg _ _ _ _ _ _ _ _ f (hN.st.re1 τ d)) ?_
     rintro a w4 ⟨⟨h4,h5,h6,hd⟩,hS4⟩ hh4
     exact KU (k0:=[]) rfl hbf hbk hh4 h4 h5 h6 hd hS4
 ·refine uF lT xM (fun w h=>nomatch h.1) hh fun τ d=>?_
  exact (Vu (w:=w.re τ d) vv rv k hk hG hV err hbs).mono fun e w' h=>⟨h.1,⟨h.2.os,h.2.output,h.2.size,h.2.old⟩⟩
end Go.Proofs.YtjjmefieegcddaaDoor
namespace Go.Proofs.YtjjmefieegcddaaDoor
open Go.RowKit Go.Wg Go.Mm
theorem SK:qN (nJ [])=([29,15,11,15],0):=by kernel_rfl
theorem JR:iw (nJ []) 1=((15,17),0):=by kernel_rfl
theorem Vg:vX (nJ [])=((1,5),0):=by kernel_rfl
theorem SE:qQ (nJ [⟨1,0,20,1⟩])=([1],0):=by kernel_rfl
theorem Xa:oW (nJ []) 0=((0,3),0):=by kernel_rfl
theorem NZ:qx (nJ [⟨1,0,20,1⟩]) 1=(2,0):=by kernel_rfl
open Go.Wk
open Go Go.Sr Go.Ph Go.Tm Go.Conc
variable {w:World} {V:View} {w0:World} {X:List Nat} {L:List dF}
theorem Bz {k:Wk} {args:Array Value} {R:Ending→World→Prop} (hS:St w0 X V L w) (hm:Calls Tryd.prog 75 args w (U5 V w k)) (h:∀ (V':View) (vv rv:Value) (w':World),(∀ j o,V j=some o→V' j=some o)→iJ V' vv rv k→St w0 X V' L w'→R (.returned (.agg #[vv,rv])) w'):Calls Tryd.prog 75 args w R:=by
 refine hm.mono ?_
 rintro e w' ⟨V',vv,rv,rfl,hk,hn,hin,hwk⟩
 exact h V' vv rv w' (fun j o hj=>by rw [hn j (lt_of_heap (hS.view j o hj))];exact hj) hwk (hS.call hk hin hn)
theorem tZ {R:Ending→World→Prop} (hS:St w0 X V L w) (hB:Bs V) (h:∀ (V':View) (vv rv:Value) (w':World),(∀ j o,V j=some o→V' j=some o)→iJ V' vv rv (nJ [])→St w0 X V' L w'→R (.returned (.agg #[vv,rv])) w'):Calls Tryd.prog 75 #[.slice none 0 0] w R:=Bz hS (UM hB hS.view) h
theorem Ba {R:Ending→World→Prop} (hS:St w0 X V L w) (hB:Bs V) {bm:Nat} {r:je} (hm:∀ i v,(fH [r])[i]? = some v→V.Cell bm i v) (h:∀ (V':View) (vv rv:Value) (w':World),(∀ j o,V j=some o→V' j=some o)→iJ V' vv rv (nJ [r])→St w0 X V' L w'→R (.returned (.agg #[vv,rv])) w') :
  Calls Tryd.prog 75 #[.slice (some ⟨bm,0,none⟩) 1 1] w R:=Bz hS (Va hB hS.view r fun j v hj=>by rw [Nat.zero_add];exact hm j v hj) h
theorem xZ {f:FuncId} {args:Array Value} {R:Ending→World→Prop} {u:Value} {l:List Int} (hS:St w0 X V L w) (hc:Calls Tryd.prog f args w fun r w'=>∃ v,r=.returned (.tuple #[v,u])∧Kp w w'∧tY w w' v l)
  (h:∀ (V':View) (v:Value) (w':World),(∀ j o,V j=some o→V' j=some o)→VI V' v l→v.oneCell'=true→St w0 X V' L w'→R (.returned (.tuple #[v,u])) w'):Calls Tryd.prog f args w R:=by
 refine hc.mono ?_
 rintro e w' ⟨v,rfl,hk,ho⟩
 obtain ⟨V',h1,h2,h3⟩:=Um hS hk ho
 refine h V' v w' h1 h3 ?_ h2
 obtain ⟨a,cap,rfl,_⟩:=h3.is
 rfl
theorem Ls {vv rv:Value} {k:Wk} {R:Ending→World→Prop} {l:List Int} {e:Int} (hS:St w0 X V L w) (hB:Bs V) (hk:iJ V vv rv k) (hv:qN k=(l,e))
  (h:∀ (V':View) (v:Value) (w':World),(∀ j o,V j=some o→V' j=some o)→VI V' v l→v.oneCell'=true→St w0 X V' L w'→R (.returned (.tuple #[v,.int .i64 e])) w'):Calls Tryd.prog 27 #[.agg #[vv,rv]] w R:=by
 have hc:=Vh vv rv k hk hB.gv hS.view
 rw [hv] at hc
 exact xZ hS hc h
theorem MV {vv rv:Value} {k:Wk} {R:Ending→World→Prop} {l:List Int} {e:Int} (hS:St w0 X V L w) (hB:Bs V) (hk:iJ V vv rv k) (hv:qQ k=(l,e))
  (h:∀ (V':View) (v:Value) (w':World),(∀ j o,V j=some o→V' j=some o)→VI V' v l→v.oneCell'=true→St w0 X V' L w'→R (.returned (.tuple #[v,.int .i64 e])) w'):Calls Tryd.prog 34 #[.agg #[vv,rv]] w R:=by
 have hc:=VK vv rv k hk hB.gv hS.view
 rw [hv] at hc
 exact xZ hS hc h
theorem oq {vv rv:Value} {k:Wk} {R:Ending→World→Prop} {v a b e:Int} (hS:St w0 X V L w) (hB:Bs V) (hk:iJ V vv rv k) (hv:iw k v=((a,b),e))
  (h:∀ w',St w0 X V L w'→R (.returned (.tuple #[.agg #[.int .i64 a,.int .i64 b],.int .i64 e])) w'):Calls Tryd.prog 54 #[.agg #[vv,rv],.int .i64 v] w R:=by
 have hc:=RY vv rv k hk hB.gv hS.view v
 rw [hv] at hc
 exact aH hS ⟨_,hc,h⟩
theorem JC {vv rv:Value} {k:Wk} {R:Ending→World→Prop} {v a e:Int} (hS:St w0 X V L w) (hB:Bs V) (hk:iJ V vv rv k) (hv:qx k v=(a,e))
  (h:∀ w',St w0 X V L w'→R (.returned (.tuple #[.int .i64 a,.int .i64 e])) w'):Calls Tryd.prog 51 #[.agg #[vv,rv],.int .i64 v] w R:=by
 have hc:=RS vv rv k hk hB.gv hS.view v
 rw [hv] at hc
 exact aH hS ⟨_,hc,h⟩
theorem zu {l1 l2:List Int} {a b:Value} {R:Ending→World→Prop} (hS:St w0 X V L w) (h1:VI V a l1) (h2:VI V b l2) (n1:l1.length≤100) (n2:l2.length≤100) (he:l1=l2) (h:∀ w',St w0 X V L w'→R (.returned (.bool true)) w'):Calls Tryd.prog 31 #[a,b] w R:=by
 have hc:=SI l1 l2 a b h1 h2 n1 n2 hS.view
 rw [decide_eq_true he] at hc
 exact aH hS ⟨_,hc,h⟩
theorem YD {V:View} {b:Nat} {l:List Int} (hl:l.length≤100) (h:∀ i x,(aV l)[i]? = some x→V.Cell b i x):VI V (.slice (some ⟨b,0,none⟩) l.length l.length) l:=by
 refine ⟨⟨some ⟨b,0,none⟩,l.length,rfl,Nat.le_refl _,by unfold maxLen;omega,fun _=>⟨b,0,rfl,fun i hi j x hj=>?_⟩⟩⟩
 cases j with
 | succ j=>simp at hj
 | zero =>
  simp at hj
  subst hj
  have:=h i (.int .i64 (l.getD i 0)) (by simp [aV,List.getD_eq_getElem?_getD,List.getElem?_eq_getElem hi])
  simpa using this
noncomputable def B21:Code:=match Tryd.f21.body with | some c=>c | none=>.skip
noncomputable def Yz:Code:=match B21 with | .seq _ (.seq _ (.seq _ (.seq _ r)))=>r | _=>.skip
noncomputable def Zq:Code:=match Yz with | .seq _ (.seq _ r)=>r | _=>.skip
noncomputable def Gv:Array Oper:=match B21 with | .seq _ (.seq _ (.seq _ (.seq (.region _ o _) _)))=>o | _=>#[]
noncomputable def qm:Array Oper:=match Yz with | .seq _ (.seq (.region _ o _) _)=>o | _=>#[]
def Wd1 (w:World) (V:View) (a:Act) (w':World):Prop :=
 ∃ (V':View) (vv rv v1:Value) (b3:Nat),(∃ f:Nat→Value,a=⟨#[.bool false,v1,.int .i64 0,.pointer (some ⟨b3,0,none⟩),.int .i64 0,f 5,f 6,f 7,f 8,f 9,f 10,f 11,f 12,f 13,f 14,f 15,f 16,f 17,f 18,f 19,f 20,f 21,f 22,f 23,f 24,.agg #[vv,rv],f 26,f 27,f 28,f 29,f 30,f 31,f 32,f 33,f 34,f 35,f 36,f 37,f 38,f 39,f 40,f 41,f 42,f 43,f 44,f 45,f 46,f 47,f 48,f 49,f 50,f 51,f 52,f 53,f 54,f 55,f 56,f 57,f 58,f 59,f 60,f 61,f 62,f 63,f 64,f 65,f 66,f 67,f 68,f 69,f 70,f 71,f 72,f 73,f 74,f 75,f 76,f 77,f 78,f 79,f 80,f 81,f 82,f 83,f 84,f 85,f 86,f 87,f 88,f 89,f 90,f 91,f 92,f 93,f 94,f 95,f 96,f 97,f 98,f 99,f 100,f 101,f 102],[]⟩)∧(∀ j o,V j=some o→V' j=some o)∧iJ V' vv rv (nJ [])∧VI V' v1 [29,15,11,15]∧v1.oneCell'=true∧(∀ i v,[Value.int .i64 15,.int .i64 17][i]? = some v→V'.Cell b3 i v)∧St w [] V' [] w'
theorem U2 (hB:Bs V) (hV:V.In w):fA Tryd.prog [.inRegion Gv [1,2,3,4,5,6,7],.code Yz] (Wd1 w V) [.code B21] { tmps:=#[] ++ Array.replicate 103 undef,defers:=[] } w:=by
 have hS:=St.start w V hV
 simp only [Array.replicate_succ,Array.replicate_zero,List.push_toArray,List.append_toArray,List.nil_append,List.cons_append]
 refine au (aA ?_)
 go_wp2_with (fail)
 refine au (aA ?_)
 go_wp2_with (first | (go_at_call 75;refine tZ hS hB ?_;clear hS;(try clear w');intro V1 vv1 rv1 w' hV1 hk1 hS) | (go_at_call 27;refine Ls hS (hB.mono hV1) hk1 SK ?_;clear hS;(try clear w');intro V2 v1 w' hV2 hv1 hone hS))
 have hB2:Bs V2:=hB.mono fun j o h=>hV2 j o (hV1 j o h)
 refine au (aA ?_)
 go_wp2_with (first | (first | (((with_reducible refine gS ?_);refine bQ hS rfl rfl rfl ?_);refine ⟨_,zd,?_⟩;clear hS;(try clear w');refine zF ?_;intro w' hS;(try simp only [sE] at hS)) | ((with_reducible refine gA ?_);refine aT 3 rfl hS rfl rfl ?_;clear hS;(try clear w');intro b3;refine zF ?_;intro w' hS)) | (go_at_call 75;refine tZ hS hB2 ?_;clear hS;(try clear w');intro V3 vv3 rv3 w' hV3 hk3 hS) | (go_at_call 54;refine oq hS (hB2.mono hV3) hk3 JR ?_;clear hS;(try clear w');intro w' hS))
 obtain ⟨V4,hV4,hc4,hS4⟩:=pin hS
 clear hS
 have hS:=hS4
 clear hS4
 have hB4:Bs V4:=hB2.mono fun j o h=>hV4 j o (hV3 j o h)
 refine au (ig ?_)
 refine rZ (i:=0) rfl rfl (run_call_body rfl Tryd.func75 (by kernel_rfl) rfl) ?_
 simp only [List.map_toArray,List.map_cons,List.map_nil]
 show Calls Tryd.prog 75 #[.slice none 0 0] _ _
 refine tZ hS hB4 ?_
 clear hS
 intro V5 vv rv w' hV5 hk5 hS
 refine ⟨_,rfl,?_⟩
 have key:∀ a:Act,a=⟨#[.bool false,v1,.int .i64 0,.pointer (some ⟨b3,0,none⟩),.int .i64 0,a.tmps.getD 5 undef,a.tmps.getD 6 undef,a.tmps.getD 7 undef,a.tmps.getD 8 undef,a.tmps.getD 9 undef,a.tmps.getD 10 undef,a.tmps.getD 11 undef,a.tmps.getD 12 undef,a.tmps.getD 13 undef,a.tmps.getD 14 undef,a.tmps.getD 15 undef,a.tmps.getD 16 undef,a.tmps.getD 17 undef,a.tmps.getD 18 undef,a.tmps.getD 19 undef,a.tmps.getD 20 undef,a.tmps.getD 21 undef,a.tmps.getD 22 undef,a.tmps.getD 23 undef,a.tmps.getD 24 undef,.agg #[vv,rv],a.tmps.getD 26 undef,a.tmps.getD 27 undef,a.tmps.getD 28 undef,a.tmps.getD 29 undef,a.tmps.getD 30 undef,a.tmps.getD 31 undef,a.tmps.getD 32 undef,a.tmps.getD 33 undef,a.tmps.getD 34 undef,a.tmps.getD 35 undef,a.tmps.getD 36 undef,a.tmps.getD 37 undef,a.tmps.getD 38 undef,a.tmps.getD 39 undef,a.tmps.getD 40 undef,a.tmps.getD 41 undef,a.tmps.getD 42 undef,a.tmps.getD 43 undef,a.tmps.getD 44 undef,a.tmps.getD 45 undef,a.tmps.getD 46 undef,a.tmps.getD 47 undef,a.tmps.getD 48 undef,a.tmps.getD 49 undef,a.tmps.getD 50 undef,a.tmps.getD 51 undef,a.tmps.getD 52 undef,a.tmps.getD 53 undef,a.tmps.getD 54 undef,a.tmps.getD 55 undef,a.tmps.getD 56 undef,a.tmps.getD 57 undef,a.tmps.getD 58 undef,a.tmps.getD 59 undef,a.tmps.getD 60 undef,a.tmps.getD 61 undef,a.tmps.getD 62 undef,a.tmps.getD 63 undef,a.tmps.getD 64 undef,a.tmps.getD 65 undef,a.tmps.getD 66 undef,a.tmps.getD 67 undef,a.tmps.getD 68 undef,a.tmps.getD 69 undef,a.tmps.getD 70 undef,a.tmps.getD 71 undef,a.tmps.getD 72 undef,a.tmps.getD 73 undef,a.tmps.getD 74 undef,a.tmps.getD 75 undef,a.tmps.getD 76 undef,a.tmps.getD 77 undef,a.tmps.getD 78 undef,a.tmps.getD 79 undef,a.tmps.getD 80 undef,a.tmps.getD 81 undef,a.tmps.getD 82 undef,a.tmps.getD 83 undef,a.tmps.getD 84 undef,a.tmps.getD 85 undef,a.tmps.getD 86 undef,a.tmps.getD 87 undef,a.tmps.getD 88 undef,a.tmps.getD 89 undef,a.tmps.getD 90 undef,a.tmps.getD 91 undef,a.tmps.getD 92 undef,a.tmps.getD 93 undef,a.tmps.getD 94 undef,a.tmps.getD 95 undef,a.tmps.getD 96 undef,a.tmps.getD 97 undef,a.tmps.getD 98 undef,a.tmps.getD 99 undef,a.tmps.getD 100 undef,a.tmps.getD 101 undef,a.tmps.getD 102 undef],[]⟩→Wd1 w V a w':=fun a ha =>
  ⟨V5,vv,rv,v1,b3,⟨fun j=>a.tmps.getD j undef,ha⟩,fun j o h=>hV5 j o (hV4 j o (hV3 j o (hV2 j o (hV1 j o h)))),hk5,pW.mono (pW.mono (pW.mono hv1 hV3) hV4) hV5,hone,fun i v h=>(hc4 i v h).mono hV5,hS⟩
 exact bG (tgt:=[.inRegion Gv [1,2,3,4,5,6,7],.code Yz]) (key _ rfl)
def Wd2 (w:World) (V:View) (v1:Value) (b3:Nat) (a:Act) (w':World):Prop :=
 ∃ (V':View) (vv rv v7:Value) (b5:Nat),(∃ f:Nat→Value,a=⟨#[.bool false,v1,.int .i64 0,.pointer (some ⟨b3,0,none⟩),.int .i64 0,.pointer (some ⟨b5,0,none⟩),.int .i64 0,v7,.int .i64 0,f 9,f 10,f 11,f 12,f 13,f 14,f 15,f 16,f 17,f 18,f 19,f 20,f 21,f 22,f 23,f 24,f 25,f 26,f 27,f 28,f 29,f 30,f 31,f 32,f 33,f 34,f 35,f 36,.agg #[vv,rv],f 38,f 39,f 40,f 41,f 42,f 43,f 44,f 45,f 46,f 47,f 48,f 49,f 50,f 51,f 52,f 53,f 54,f 55,f 56,f 57,f 58,f 59,f 60,f 61,f 62,f 63,f 64,f 65,f 66,f 67,f 68,f 69,f 70,f 71,f 72,f 73,f 74,f 75,f 76,f 77,f 78,f 79,f 80,f 81,f 82,f 83,f 84,f 85,f 86,f 87,f 88,f 89,f 90,f 91,f 92,f 93,f 94,f 95,f 96,f 97,f 98,f 99,f 100,f 101,f 102],[]⟩)∧(∀ j o,V j=some o→V' j=some o)∧iJ V' vv rv (nJ [])∧VI V' v7 [1]∧v7.oneCell'=true∧(∀ i v,[Value.int .i64 1,.int .i64 5][i]? = some v→V'.Cell b5 i v)∧St w [] V' [] w'
theorem Vp (hB:Bs V) (hV:V.In w) (v1:Value) (b3:Nat) (f:Nat→Value):fA Tryd.prog [.inRegion qm [1,2,3,4,5,6,7,8],.code Zq] (Wd2 w V v1 b3) [.inRegion Gv [2,3,4,5,6,7],.code Yz] ⟨#[.bool false,v1,.int .i64 0,.pointer (some ⟨b3,0,none⟩),.int .i64 0,f 5,f 6,f 7,f 8,f 9,f 10,f 11,f 12,f 13,f 14,f 15,f 16,f 17,f 18,f 19,f 20,f 21,f 22,f 23,f 24,f 25,.tuple #[.agg #[.int .i64 1,.int .i64 5],.int .i64 0],f 27,f 28,f 29,f 30,f 31,f 32,f 33,f 34,f 35,f 36,f 37,f 38,f 39,f 40,f 41,f 42,f 43,f 44,f 45,f 46,f 47,f 48,f 49,f 50,f 51,f 52,f 53,f 54,f 55,f 56,f 57,f 58,f 59,f 60,f 61,f 62,f 63,f 64,f 65,f 66,f 67,f 68,f 69,f 70,f 71,f 72,f 73,f 74,f 75,f 76,f 77,f 78,f 79,f 80,f 81,f 82,f 83,f 84,f 85,f 86,f 87,f 88,f 89,f 90,f 91,f 92,f 93,f 94,f 95,f 96,f 97,f 98,f 99,f 100,f 101,f 102],[]⟩ w:=by
 have hS:=St.start w V hV
 refine cO (i:=2) (v:=.tuple #[.agg #[.int .i64 1,.int .i64 5],.int .i64 0]) (w':=w) rfl rfl rfl ?_
 refine cO (i:=3) (v:=.agg #[.int .i64 1,.int .i64 5]) (w':=w) rfl rfl rfl ?_
 refine cO (i:=4) (v:=.int .i64 0) (w':=w) rfl rfl rfl ?_
 refine cO (i:=5) rfl rfl (Aq (P:=Tryd.prog) hS (cs:=[.int .i64 0,.int .i64 0]) rfl (by kernel_rfl) (by kernel_rfl)).1 ?_
 replace hS:=hS.alloc 27 [.int .i64 0,.int .i64 0]
 generalize w.alloc (.cells [Value.int .i64 0,.int .i64 0].toArray 27)=w1 at hS ⊢
 obtain ⟨b5,hb5⟩:∃ b5,w.heap.size=b5:=⟨_,rfl⟩
 rw [hb5] at hS ⊢
 refine xK hS (i:=6) (vs:=[.int .i64 1,.int .i64 5]) rfl rfl rfl (j:=0) (i':=0) (n:=2) rfl rfl rfl (by simp [Value.oneCell']) (by kernel_rfl) rfl (by simp) ?_
 clear hS
 intro w2 hS
 simp only [List.set_cons_zero,splice,List.take_zero,List.nil_append,List.length_cons,List.length_nil,Nat.zero_add,List.append_nil,List.drop_nil,Nat.reduceAdd,List.drop_succ_cons,List.drop_zero] at hS
 refine cO (i:=7) (v:=.int .i64 0) (w':=w2) rfl rfl rfl ?_
 refine dH ?_
 show fA Tryd.prog [.inRegion qm [1,2,3,4,5,6,7,8],.code Zq] (Wd2 w V v1 b3) [.code Yz] ⟨#[.bool false,v1,.int .i64 0,.pointer (some ⟨b3,0,none⟩),.int .i64 0,.pointer (some ⟨b5,0,none⟩),.int .i64 0,f 7,f 8,f 9,f 10,f 11,f 12,f 13,f 14,f 15,f 16,f 17,f 18,f 19,f 20,f 21,f 22,f 23,.tuple #[.agg #[.int .i64 1,.int .i64 5],.int .i64 0],f 25,.tuple #[.agg #[.int .i64 1,.int .i64 5],.int .i64 0],.agg #[.int .i64 1,.int .i64 5],.int .i64 0,f 29,f 30,f 31,f 32,f 33,f 34,f 35,f 36,f 37,f 38,f 39,f 40,f 41,f 42,f 43,f 44,f 45,f 46,f 47,f 48,f 49,f 50,f 51,f 52,f 53,f 54,f 55,f 56,f 57,f 58,f 59,f 60,f 61,f 62,f 63,f 64,f 65,f 66,f 67,f 68,f 69,f 70,f 71,f 72,f 73,f 74,f 75,f 76,f 77,f 78,f 79,f 80,f 81,f 82,f 83,f 84,f 85,f 86,f 87,f 88,f 89,f 90,f 91,f 92,f 93,f 94,f 95,f 96,f 97,f 98,f 99,f 100,f 101,f 102],[]⟩ w2
 obtain ⟨V1,hV1,hc1,hS1⟩:=pin hS
 clear hS
 have hS:=hS1
 clear hS1
 have hB1:=hB.mono hV1
 refine au (aA ?_)
 go_wp2_with (first | (fail) | (go_at_call 42;refine aH hS ⟨_,y9 _ _ _ _ _,?_⟩;clear hS;(try clear w');intro w' hS) |
  ((with_reducible refine uP ?_);refine zU hS rfl (oP (a:=⟨1,0,20,1⟩) rfl rfl) ?_;clear hS;(try clear w');intro bm a' hp;(try simp only [fr] at hp);subst hp;intro w' hS;obtain ⟨V2,hV2,hc2,hS2⟩:=pin hS;clear hS;have hS:=hS2;clear hS2) |
  (go_at_call 75;refine Ba hS (hB1.mono hV2) hc2 ?_;clear hS;(try clear w');intro V3 vv3 rv3 w' hV3 hk3 hS) |
  (go_at_call 34;refine MV hS ((hB1.mono hV2).mono hV3) hk3 SE ?_;clear hS;(try clear w');intro V4 v7 w' hV4 hv7 hone hS))
 have hB4:Bs V4:=((hB1.mono hV2).mono hV3).mono hV4
 refine au (ig ?_)
 refine rZ (i:=0) rfl rfl (run_call_body rfl Tryd.func75 (by kernel_rfl) rfl) ?_
 simp only [List.map_toArray,List.map_cons,List.map_nil]
 show Calls Tryd.prog 75 #[.slice none 0 0] _ _
 refine tZ hS hB4 ?_
 clear hS
 intro V5 vv rv w' hV5 hk5 hS
 refine ⟨_,rfl,?_⟩
 have key:∀ a:Act,a=⟨#[.bool false,v1,.int .i64 0,.pointer (some ⟨b3,0,none⟩),.int .i64 0,.pointer (some ⟨b5,0,none⟩),.int .i64 0,v7,.int .i64 0,a.tmps.getD 9 undef,a.tmps.getD 10 undef,a.tmps.getD 11 undef,a.tmps.getD 12 undef,a.tmps.getD 13 undef,a.tmps.getD 14 undef,a.tmps.getD 15 undef,a.tmps.getD 16 undef,a.tmps.getD 17 undef,a.tmps.getD 18 undef,a.tmps.getD 19 undef,a.tmps.getD 20 undef,a.tmps.getD 21 undef,a.tmps.getD 22 undef,a.tmps.getD 23 undef,a.tmps.getD 24 undef,a.tmps.getD 25 undef,a.tmps.getD 26 undef,a.tmps.getD 27 undef,a.tmps.getD 28 undef,a.tmps.getD 29 undef,a.tmps.getD 30 undef,a.tmps.getD 31 undef,a.tmps.getD 32 undef,a.tmps.getD 33 undef,a.tmps.getD 34 undef,a.tmps.getD 35 undef,a.tmps.getD 36 undef,.agg #[vv,rv],a.tmps.getD 38 undef,a.tmps.getD 39 undef,a.tmps.getD 40 undef,a.tmps.getD 41 undef,a.tmps.getD 42 undef,a.tmps.getD 43 undef,a.tmps.getD 44 undef,a.tmps.getD 45 undef,a.tmps.getD 46 undef,a.tmps.getD 47 undef,a.tmps.getD 48 undef,a.tmps.getD 49 undef,a.tmps.getD 50 undef,a.tmps.getD 51 undef,a.tmps.getD 52 undef,a.tmps.getD 53 undef,a.tmps.getD 54 undef,a.tmps.getD 55 undef,a.tmps.getD 56 undef,a.tmps.getD 57 undef,a.tmps.getD 58 undef,a.tmps.getD 59 undef,a.tmps.getD 60 undef,a.tmps.getD 61 undef,a.tmps.getD 62 undef,a.tmps.getD 63 undef,a.tmps.getD 64 undef,a.tmps.getD 65 undef,a.tmps.getD 66 undef,a.tmps.getD 67 undef,a.tmps.getD 68 undef,a.tmps.getD 69 undef,a.tmps.getD 70 undef,a.tmps.getD 71 undef,a.tmps.getD 72 undef,a.tmps.getD 73 undef,a.tmps.getD 74 undef,a.tmps.getD 75 undef,a.tmps.getD 76 undef,a.tmps.getD 77 undef,a.tmps.getD 78 undef,a.tmps.getD 79 undef,a.tmps.getD 80 undef,a.tmps.getD 81 undef,a.tmps.getD 82 undef,a.tmps.getD 83 undef,a.tmps.getD 84 undef,a.tmps.getD 85 undef,a.tmps.getD 86 undef,a.tmps.getD 87 undef,a.tmps.getD 88 undef,a.tmps.getD 89 undef,a.tmps.getD 90 undef,a.tmps.getD 91 undef,a.tmps.getD 92 undef,a.tmps.getD 93 undef,a.tmps.getD 94 undef,a.tmps.getD 95 undef,a.tmps.getD 96 undef,a.tmps.getD 97 undef,a.tmps.getD 98 undef,a.tmps.getD 99 undef,a.tmps.getD 100 undef,a.tmps.getD 101 undef,a.tmps.getD 102 undef],[]⟩→Wd2 w V v1 b3 a w':=fun a ha =>
  ⟨V5,vv,rv,v7,b5,⟨fun j=>a.tmps.getD j undef,ha⟩,fun j o h=>hV5 j o (hV4 j o (hV3 j o (hV2 j o (hV1 j o h)))),hk5,pW.mono hv7 hV5,hone,fun i v h=>(((hc1 i v h).mono hV2).mono hV3 |>.mono hV4).mono hV5,hS⟩
 exact bG (tgt:=[.inRegion qm [1,2,3,4,5,6,7,8],.code Zq]) (key _ rfl)
theorem TD {o:Oper} {ρ:Operand→Value} {x y:Operand} (ho:o.op=.binOp .eql 27 x y 27) (hx:ρ x=.agg #[.int .i64 15,.int .i64 17]) (hy:ρ y=.agg #[.int .i64 15,.int .i64 17]) (w:World):(execOp ρ o).run Tryd.prog w=.ok (.value (.bool true)) w:=by
 unfold execOp
 simp only [ho,hx,hy]
 kernel_rfl
theorem Sm {o:Oper} {ρ:Operand→Value} {x y:Operand} (ho:o.op=.binOp .eql 27 x y 27) (hx:ρ x=.agg #[.int .i64 1,.int .i64 5]) (hy:ρ y=.agg #[.int .i64 1,.int .i64 5]) (w:World):(execOp ρ o).run Tryd.prog w=.ok (.value (.bool true)) w:=by
 unfold execOp
 simp only [ho,hx,hy]
 kernel_rfl
theorem aaX {ops:Array Oper} {Q:Exit→Act→World→Prop} {d:Option Tmp} {x y:Operand} {t:TypeId} {p:String} {af:Array Edge} {g:Option (Nat × Bool)} {rest:List Oper} {a:Act} (h:wpList Tryd.prog ops Q (⟨d,.binOp .eql 27 x y 27,t,p,af,g⟩ :: rest) a w):wpList Tryd.prog ops Q (⟨d,.binOp .eql 27 x y 27,t,p,af,g⟩ :: rest) a w:=h
theorem UN (hB:Bs V) (hV:V.In w) (v1 v7:Value) (b3 b5:Nat) (o1:v1.oneCell'=true) (o7:v7.oneCell'=true) (h1:VI V v1 [29,15,11,15]) (h7:VI V v7 [1]) (h3:∀ i v,[Value.int .i64 15,.int .i64 17][i]? = some v→V.Cell b3 i v) (h5:∀ i v,[Value.int .i64 1,.int .i64 5][i]? = some v→V.Cell b5 i v) (f:Nat→Value) :
  fA Tryd.prog [.code .ret] (fun a w'=>a.tmps[0]? = some (.bool true)∧a.defers=[]∧Kp w w') [.inRegion qm [2,3,4,5,6,7,8],.code Zq] ⟨#[.bool false,v1,.int .i64 0,.pointer (some ⟨b3,0,none⟩),.int .i64 0,.pointer (some ⟨b5,0,none⟩),.int .i64 0,v7,.int .i64 0,f 9,f 10,f 11,f 12,f 13,f 14,f 15,f 16,f 17,f 18,f 19,f 20,f 21,f 22,f 23,f 24,f 25,f 26,f 27,f 28,f 29,f 30,f 31,f 32,f 33,f 34,f 35,f 36,f 37,.tuple #[.int .i64 0,.int .i64 3,.int .i64 0],f 39,f 40,f 41,f 42,f 43,f 44,f 45,f 46,f 47,f 48,f 49,f 50,f 51,f 52,f 53,f 54,f 55,f 56,f 57,f 58,f 59,f 60,f 61,f 62,f 63,f 64,f 65,f 66,f 67,f 68,f 69,f 70,f 71,f 72,f 73,f 74,f 75,f 76,f 77,f 78,f 79,f 80,f 81,f 82,f 83,f 84,f 85,f 86,f 87,f 88,f 89,f 90,f 91,f 92,f 93,f 94,f 95,f 96,f 97,f 98,f 99,f 100,f 101,f 102],[]⟩ w:=by
 have hS:=St.start w V hV
 refine cO (i:=2) (v:=.tuple #[.int .i64 0,.int .i64 3,.int .i64 0]) (w':=w) rfl rfl rfl ?_
 show fA Tryd.prog [.code .ret] _ (.inRegion qm [3,4,5,6,7,8] :: _) ⟨#[.bool false,v1,.int .i64 0,.pointer (some ⟨b3,0,none⟩),.int .i64 0,.pointer (some ⟨b5,0,none⟩),.int .i64 0,v7,.int .i64 0,f 9,f 10,f 11,f 12,f 13,f 14,f 15,f 16,f 17,f 18,f 19,f 20,f 21,f 22,f 23,f 24,f 25,f 26,f 27,f 28,f 29,f 30,f 31,f 32,f 33,f 34,f 35,.tuple #[.int .i64 0,.int .i64 3,.int .i64 0],f 37,.tuple #[.int .i64 0,.int .i64 3,.int .i64 0],f 39,f 40,f 41,f 42,f 43,f 44,f 45,f 46,f 47,f 48,f 49,f 50,f 51,f 52,f 53,f 54,f 55,f 56,f 57,f 58,f 59,f 60,f 61,f 62,f 63,f 64,f 65,f 66,f 67,f 68,f 69,f 70,f 71,f 72,f 73,f 74,f 75,f 76,f 77,f 78,f 79,f 80,f 81,f 82,f 83,f 84,f 85,f 86,f 87,f 88,f 89,f 90,f 91,f 92,f 93,f 94,f 95,f 96,f 97,f 98,f 99,f 100,f 101,f 102],[]⟩ w
 refine cO (i:=3) (v:=.int .i64 0) (w':=w) rfl rfl rfl ?_
 show fA Tryd.prog [.code .ret] _ (.inRegion qm [4,5,6,7,8] :: _) ⟨#[.bool false,v1,.int .i64 0,.pointer (some ⟨b3,0,none⟩),.int .i64 0,.pointer (some ⟨b5,0,none⟩),.int .i64 0,v7,.int .i64 0,f 9,f 10,f 11,f 12,f 13,f 14,f 15,f 16,f 17,f 18,f 19,f 20,f 21,f 22,f 23,f 24,f 25,f 26,f 27,f 28,f 29,f 30,f 31,f 32,f 33,f 34,f 35,.tuple #[.int .i64 0,.int .i64 3,.int .i64 0],f 37,.tuple #[.int .i64 0,.int .i64 3,.int .i64 0],.int .i64 0,f 40,f 41,f 42,f 43,f 44,f 45,f 46,f 47,f 48,f 49,f 50,f 51,f 52,f 53,f 54,f 55,f 56,f 57,f 58,f 59,f 60,f 61,f 62,f 63,f 64,f 65,f 66,f 67,f 68,f 69,f 70,f 71,f 72,f 73,f 74,f 75,f 76,f 77,f 78,f 79,f 80,f 81,f 82,f 83,f 84,f 85,f 86,f 87,f 88,f 89,f 90,f 91,f 92,f 93,f 94,f 95,f 96,f 97,f 98,f 99,f 100,f 101,f 102],[]⟩ w
 refine cO (i:=4) (v:=.int .i64 3) (w':=w) rfl rfl rfl ?_
 show fA Tryd.prog [.code .ret] _ (.inRegion qm [5,6,7,8] :: _) ⟨#[.bool false,v1,.int .i64 0,.pointer (some ⟨b3,0,none⟩),.int .i64 0,.pointer (some ⟨b5,0,none⟩),.int .i64 0,v7,.int .i64 0,f 9,f 10,f 11,f 12,f 13,f 14,f 15,f 16,f 17,f 18,f 19,f 20,f 21,f 22,f 23,f 24,f 25,f 26,f 27,f 28,f 29,f 30,f 31,f 32,f 33,f 34,f 35,.tuple #[.int .i64 0,.int .i64 3,.int .i64 0],f 37,.tuple #[.int .i64 0,.int .i64 3,.int .i64 0],.int .i64 0,.int .i64 3,f 41,f 42,f 43,f 44,f 45,f 46,f 47,f 48,f 49,f 50,f 51,f 52,f 53,f 54,f 55,f 56,f 57,f 58,f 59,f 60,f 61,f 62,f 63,f 64,f 65,f 66,f 67,f 68,f 69,f 70,f 71,f 72,f 73,f 74,f 75,f 76,f 77,f 78,f 79,f 80,f 81,f 82,f 83,f 84,f 85,f 86,f 87,f 88,f 89,f 90,f 91,f 92,f 93,f 94,f 95,f 96,f 97,f 98,f 99,f 100,f 101,f 102],[]⟩ w
 refine cO (i:=5) (v:=.int .i64 0) (w':=w) rfl rfl rfl ?_
 show fA Tryd.prog [.code .ret] _ (.inRegion qm [6,7,8] :: _) ⟨#[.bool false,v1,.int .i64 0,.pointer (some ⟨b3,0,none⟩),.int .i64 0,.pointer (some ⟨b5,0,none⟩),.int .i64 0,v7,.int .i64 0,f 9,f 10,f 11,f 12,f 13,f 14,f 15,f 16,f 17,f 18,f 19,f 20,f 21,f 22,f 23,f 24,f 25,f 26,f 27,f 28,f 29,f 30,f 31,f 32,f 33,f 34,f 35,.tuple #[.int .i64 0,.int .i64 3,.int .i64 0],f 37,.tuple #[.int .i64 0,.int .i64 3,.int .i64 0],.int .i64 0,.int .i64 3,.int .i64 0,f 42,f 43,f 44,f 45,f 46,f 47,f 48,f 49,f 50,f 51,f 52,f 53,f 54,f 55,f 56,f 57,f 58,f 59,f 60,f 61,f 62,f 63,f 64,f 65,f 66,f 67,f 68,f 69,f 70,f 71,f 72,f 73,f 74,f 75,f 76,f 77,f 78,f 79,f 80,f 81,f 82,f 83,f 84,f 85,f 86,f 87,f 88,f 89,f 90,f 91,f 92,f 93,f 94,f 95,f 96,f 97,f 98,f 99,f 100,f 101,f 102],[]⟩ w
 refine cO (i:=6) (v:=.int .i64 0) (w':=w) rfl rfl rfl ?_
 show fA Tryd.prog [.code .ret] _ (.inRegion qm [7,8] :: _) ⟨#[.bool false,v1,.int .i64 0,.pointer (some ⟨b3,0,none⟩),.int .i64 0,.pointer (some ⟨b5,0,none⟩),.int .i64 0,v7,.int .i64 0,.int .i64 0,f 10,f 11,f 12,f 13,f 14,f 15,f 16,f 17,f 18,f 19,f 20,f 21,f 22,f 23,f 24,f 25,f 26,f 27,f 28,f 29,f 30,f 31,f 32,f 33,f 34,f 35,.tuple #[.int .i64 0,.int .i64 3,.int .i64 0],f 37,.tuple #[.int .i64 0,.int .i64 3,.int .i64 0],.int .i64 0,.int .i64 3,.int .i64 0,f 42,f 43,f 44,f 45,f 46,f 47,f 48,f 49,f 50,f 51,f 52,f 53,f 54,f 55,f 56,f 57,f 58,f 59,f 60,f 61,f 62,f 63,f 64,f 65,f 66,f 67,f 68,f 69,f 70,f 71,f 72,f 73,f 74,f 75,f 76,f 77,f 78,f 79,f 80,f 81,f 82,f 83,f 84,f 85,f 86,f 87,f 88,f 89,f 90,f 91,f 92,f 93,f 94,f 95,f 96,f 97,f 98,f 99,f 100,f 101,f 102],[]⟩ w
 refine cO (i:=7) (v:=.int .i64 3) (w':=w) rfl rfl rfl ?_
 show fA Tryd.prog [.code .ret] _ (.inRegion qm [8] :: _) ⟨#[.bool false,v1,.int .i64 0,.pointer (some ⟨b3,0,none⟩),.int .i64 0,.pointer (some ⟨b5,0,none⟩),.int .i64 0,v7,.int .i64 0,.int .i64 0,.int .i64 3,f 11,f 12,f 13,f 14,f 15,f 16,f 17,f 18,f 19,f 20,f 21,f 22,f 23,f 24,f 25,f 26,f 27,f 28,f 29,f 30,f 31,f 32,f 33,f 34,f 35,.tuple #[.int .i64 0,.int .i64 3,.int .i64 0],f 37,.tuple #[.int .i64 0,.int .i64 3,.int .i64 0],.int .i64 0,.int .i64 3,.int .i64 0,f 42,f 43,f 44,f 45,f 46,f 47,f 48,f 49,f 50,f 51,f 52,f 53,f 54,f 55,f 56,f 57,f 58,f 59,f 60,f 61,f 62,f 63,f 64,f 65,f 66,f 67,f 68,f 69,f 70,f 71,f 72,f 73,f 74,f 75,f 76,f 77,f 78,f 79,f 80,f 81,f 82,f 83,f 84,f 85,f 86,f 87,f 88,f 89,f 90,f 91,f 92,f 93,f 94,f 95,f 96,f 97,f 98,f 99,f 100,f 101,f 102],[]⟩ w
 refine cO (i:=8) (v:=.int .i64 0) (w':=w) rfl rfl rfl ?_
 show fA Tryd.prog [.code .ret] _ (.inRegion qm [] :: _) ⟨#[.bool false,v1,.int .i64 0,.pointer (some ⟨b3,0,none⟩),.int .i64 0,.pointer (some ⟨b5,0,none⟩),.int .i64 0,v7,.int .i64 0,.int .i64 0,.int .i64 3,.int .i64 0,f 12,f 13,f 14,f 15,f 16,f 17,f 18,f 19,f 20,f 21,f 22,f 23,f 24,f 25,f 26,f 27,f 28,f 29,f 30,f 31,f 32,f 33,f 34,f 35,.tuple #[.int .i64 0,.int .i64 3,.int .i64 0],f 37,.tuple #[.int .i64 0,.int .i64 3,.int .i64 0],.int .i64 0,.int .i64 3,.int .i64 0,f 42,f 43,f 44,f 45,f 46,f 47,f 48,f 49,f 50,f 51,f 52,f 53,f 54,f 55,f 56,f 57,f 58,f 59,f 60,f 61,f 62,f 63,f 64,f 65,f 66,f 67,f 68,f 69,f 70,f 71,f 72,f 73,f 74,f 75,f 76,f 77,f 78,f 79,f 80,f 81,f 82,f 83,f 84,f 85,f 86,f 87,f 88,f 89,f 90,f 91,f 92,f 93,f 94,f 95,f 96,f 97,f 98,f 99,f 100,f 101,f 102],[]⟩ w
 refine dH ?_
 show fA Tryd.prog [.code .ret] _ [.code Zq] ⟨#[.bool false,v1,.int .i64 0,.pointer (some ⟨b3,0,none⟩),.int .i64 0,.pointer (some ⟨b5,0,none⟩),.int .i64 0,v7,.int .i64 0,.int .i64 0,.int .i64 3,.int .i64 0,f 12,f 13,f 14,f 15,f 16,f 17,f 18,f 19,f 20,f 21,f 22,f 23,f 24,f 25,f 26,f 27,f 28,f 29,f 30,f 31,f 32,f 33,f 34,f 35,.tuple #[.int .i64 0,.int .i64 3,.int .i64 0],f 37,.tuple #[.int .i64 0,.int .i64 3,.int .i64 0],.int .i64 0,.int .i64 3,.int .i64 0,f 42,f 43,f 44,f 45,f 46,f 47,f 48,f 49,f 50,f 51,f 52,f 53,f 54,f 55,f 56,f 57,f 58,f 59,f 60,f 61,f 62,f 63,f 64,f 65,f 66,f 67,f 68,f 69,f 70,f 71,f 72,f 73,f 74,f 75,f 76,f 77,f 78,f 79,f 80,f 81,f 82,f 83,f 84,f 85,f 86,f 87,f 88,f 89,f 90,f 91,f 92,f 93,f 94,f 95,f 96,f 97,f 98,f 99,f 100,f 101,f 102],[]⟩ w
 refine au (aA ?_)
 go_wp2_with (first | (fail) | (go_at_call 42;refine aH hS ⟨_,y9 _ _ _ _ _,?_⟩;clear hS;(try clear w');intro w' hS) |
  ((with_reducible refine uP ?_);refine zU hS rfl (oP (a:=⟨1,0,20,1⟩) rfl rfl) ?_;clear hS;(try clear w');intro bm a' hp;(try simp only [fr] at hp);subst hp;intro w' hS;obtain ⟨V2,hV2,hc2,hS2⟩:=pin hS;clear hS;have hS:=hS2;clear hS2) |
  (go_at_call 75;refine Ba hS (hB.mono hV2) hc2 ?_;clear hS;(try clear w');intro V3 vv3 rv3 w' hV3 hk3 hS) |
  (go_at_call 51;refine JC hS ((hB.mono hV2).mono hV3) hk3 NZ ?_;clear hS;(try clear w');intro w' hS))
 have hB3:Bs V3:=(hB.mono hV2).mono hV3
 have h1':VI V3 v1 [29,15,11,15]:=pW.mono (pW.mono h1 hV2) hV3
 have h7':VI V3 v7 [1]:=pW.mono (pW.mono h7 hV2) hV3
 have hr3:V3.Range b3 0 [.int .i64 15,.int .i64 17]:=fun j v hj=>by rw [Nat.zero_add];exact ((h3 j v hj).mono hV2).mono hV3
 have hr5:V3.Range b5 0 [.int .i64 1,.int .i64 5]:=fun j v hj=>by rw [Nat.zero_add];exact ((h5 j v hj).mono hV2).mono hV3
 clear h1 h7 h3 h5 hc2
 refine au (aA ?_)
 go_wp2_with (first | (((with_reducible refine gL ?_);refine zQ hS rfl rfl rfl ?_);refine ⟨_,zd,?_⟩;clear hS;(try clear w');refine zF ?_;intro w' hS) | ((with_reducible refine aaX ?_);first | (refine Gx rfl (TD rfl rfl rfl) ?_;refine zF ?_) | (refine Gx rfl (Sm rfl rfl rfl) ?_;refine zF ?_)) |
  (((with_reducible refine uP ?_);refine rE hS rfl rfl ?_;refine ⟨_,zq,zd,?_⟩;clear hS;(try clear w');intro _;refine zF ?_;intro w' hS);obtain ⟨V4,hV4,hc4,hS4⟩:=pin hS;clear hS;have hS:=hS4;clear hS4) |
  (go_at_call 31;first | (refine zu hS (pW.mono h1' hV4) (YD (l:=[29,15,11,15]) (by decide) hc4) (by decide) (by decide) rfl ?_;clear hS;(try clear w');clear h1';intro w' hS;replace h7':=pW.mono h7' hV4;clear hc4 hV4) | (refine zu hS (pW.mono h7' hV4) (YD (l:=[1]) (by decide) hc4) (by decide) (by decide) rfl ?_;clear hS;(try clear w');intro w' hS)))
 exact bG (tgt:=[.code .ret]) ⟨rfl,rfl,hS.bM⟩
theorem Oh {b:Frame} {cs:List Frame} {Q:Goroutine→World→Prop} {a:Act} {N:FuncId} {args:Array Value} {R:Ending→World→Prop} {ops:Array Oper} {l:List Nat} {k0:List Item} {i:Nat} {o:Oper} (hc:kL Tryd.prog N args w R) (hh:ay OC w) (hbk:b.kind=.normal)
  (ho:ops[i]? = some o) (hw:Region.wanted o (yielded ops a.tmps)=true) (hok':qj true o.op=true) (hr:∀ w,(execOp a.eval o).run Tryd.prog w=.ok (.enter N args) w) (hpan:∀ ch w,¬ R (.panicked ch) w)
  (hk:∀ v w',R (.returned v) w'→ay OC w'→kU Tryd.prog (G (b.at (a.put o.dst v) (.inRegion ops l :: k0)) cs) w' Q):kU Tryd.prog (G (b.at a (.inRegion ops (i :: l) :: k0)) cs) w Q:=by
 refine Ou lT ho hw (by rw [hbk];decide) hok' hh (fun _ _ _=>trivial) fun d=>?_
 rw [hr]
 intro hhd
 have hat:∀ {Q:Goroutine→World→Prop} {g:Goroutine},kU Tryd.prog g w Q→kU Tryd.prog g (w.at d) Q:=fun h=>h.at
 exact hat (xI ho hc (fun v w1 hv hh1=>hk v w1 hv hh1) fun ch w1 hv _=>(hpan ch w1 hv).elim)
theorem Vo {P:Program} {b:Frame} {cs:List Frame} {a:Act} {f:FuncId} {fn:Func} {v:Value} {R:Ending→World→Prop} {k0:List Item} (hb:b.fn=f) (hbk:b.kind=.normal) (hd:a.defers=[]) (hf:P.funcs[f]? = some fn) (hw:ay OC w) (hr:(results fn a.tmps).run P w=.ok v w) (hR:R (.returned v) w) (hins:Ins R) :
  kU P (G (b.at a (.code .ret :: k0)) cs) w (fun a' w'=>∃ e fr,a'=G fr cs∧R e w'∧fr.fn=f∧fr.leaving P w' e∧e≠.outgrown∧ay OC w') :=
 CV (Hz hb hbk hd hf hw hr hR hins)
theorem TB (hB:Bs V) (hV:V.In w) (hh:ay OC w):kL Tryd.prog 21 #[] w fun r w'=>r=.returned (.bool true)∧Kp w w':=by
 refine jD Tryd.func21 (show Tryd.f21.body=some B21 from rfl) fun cs b hbf hbk hbr=>?_
 have e103:Tryd.f21.ntmps - (#[]:Array Value).size=103:=by kernel_rfl
 rw [e103]
 obtain ⟨tm0,htm⟩:∃ tm0,(#[]:Array Value) ++ Array.replicate 103 undef=tm0:=⟨_,rfl⟩
 rw [htm]
 refine vI (tgt:=[.inRegion Gv [1,2,3,4,5,6,7],.code Yz]) hbf hbk (show [Item.code B21].all qy=true by kernel_rfl) (fun d hd=>nomatch hd) hh (S:=Wd1 w V)
  (fun a w' τ d ⟨V',vv,rv,v1,b3,h1,h2,h3,h4,h5,h6,h7⟩=>⟨V',vv,rv,v1,b3,h1,h2,h3,h4,h5,h6,h7.re1 τ d⟩) (fun τ d=>?_) ?_
 ·rw [← htm]
  refine (U2 (w:=w.re τ d) hB hV).mono ?_
  rintro a w' ⟨V',vv,rv,v1,b3,h1,h2,h3,h4,h5,h6,h7⟩
  exact ⟨V',vv,rv,v1,b3,h1,h2,h3,h4,h5,h6,h7.re0⟩
 rintro a w1 ⟨V1,vv,rv,v1,b3,⟨f,rfl⟩,hV1,hk1,hv1,ho1,hc3,hS1⟩ hh1
 have hB1:=hB.mono hV1
 have hL:=ZB vv rv (nJ []) hk1 hB1.gv hS1.view hh1
 rw [Vg] at hL
 refine Oh (i:=1) (o:=Gv[1]!) hL hh1 hbk rfl rfl rfl (fun w=>?_) (fun ch w h=>nomatch h.1) ?_
 ·rw [run_call_body rfl Tryd.func40 (by kernel_rfl) rfl]
  simp only [List.map_toArray,List.map_cons,List.map_nil]
  rfl
 rintro v w2 ⟨hv,hk2⟩ hh2
 cases hv
 have hS2:=hS1.kp hk2
 obtain ⟨a2,ha2⟩:∃ a2:Act,a2=⟨#[.bool false,v1,.int .i64 0,.pointer (some ⟨b3,0,none⟩),.int .i64 0,f 5,f 6,f 7,f 8,f 9,f 10,f 11,f 12,f 13,f 14,f 15,f 16,f 17,f 18,f 19,f 20,f 21,f 22,f 23,f 24,.agg #[vv,rv],.tuple #[.agg #[.int .i64 1,.int .i64 5],.int .i64 0],f 27,f 28,f 29,f 30,f 31,f 32,f 33,f 34,f 35,f 36,f 37,f 38,f 39,f 40,f 41,f 42,f 43,f 44,f 45,f 46,f 47,f 48,f 49,f 50,f 51,f 52,f 53,f 54,f 55,f 56,f 57,f 58,f 59,f 60,f 61,f 62,f 63,f 64,f 65,f 66,f 67,f 68,f 69,f 70,f 71,f 72,f 73,f 74,f 75,f 76,f 77,f 78,f 79,f 80,f 81,f 82,f 83,f 84,f 85,f 86,f 87,f 88,f 89,f 90,f 91,f 92,f 93,f 94,f 95,f 96,f 97,f 98,f 99,f 100,f 101,f 102],[]⟩:=⟨_,rfl⟩
 have eA:(Act.put ⟨#[.bool false,v1,.int .i64 0,.pointer (some ⟨b3,0,none⟩),.int .i64 0,f 5,f 6,f 7,f 8,f 9,f 10,f 11,f 12,f 13,f 14,f 15,f 16,f 17,f 18,f 19,f 20,f 21,f 22,f 23,f 24,.agg #[vv,rv],f 26,f 27,f 28,f 29,f 30,f 31,f 32,f 33,f 34,f 35,f 36,f 37,f 38,f 39,f 40,f 41,f 42,f 43,f 44,f 45,f 46,f 47,f 48,f 49,f 50,f 51,f 52,f 53,f 54,f 55,f 56,f 57,f 58,f 59,f 60,f 61,f 62,f 63,f 64,f 65,f 66,f 67,f 68,f 69,f 70,f 71,f 72,f 73,f 74,f 75,f 76,f 77,f 78,f 79,f 80,f 81,f 82,f 83,f 84,f 85,f 86,f 87,f 88,f 89,f 90,f 91,f 92,f 93,f 94,f 95,f 96,f 97,f 98,f 99,f 100,f 101,f 102],[]⟩ (some 26) (.tuple #[aJ (1,5),.int .i64 0]))=a2:=by rw [ha2];rfl
 show kU Tryd.prog (G (b.at (Act.put ⟨#[.bool false,v1,.int .i64 0,.pointer (some ⟨b3,0,none⟩),.int .i64 0,f 5,f 6,f 7,f 8,f 9,f 10,f 11,f 12,f 13,f 14,f 15,f 16,f 17,f 18,f 19,f 20,f 21,f 22,f 23,f 24,.agg #[vv,rv],f 26,f 27,f 28,f 29,f 30,f 31,f 32,f 33,f 34,f 35,f 36,f 37,f 38,f 39,f 40,f 41,f 42,f 43,f 44,f 45,f 46,f 47,f 48,f 49,f 50,f 51,f 52,f 53,f 54,f 55,f 56,f 57,f 58,f 59,f 60,f 61,f 62,f 63,f 64,f 65,f 66,f 67,f 68,f 69,f 70,f 71,f 72,f 73,f 74,f 75,f 76,f 77,f 78,f 79,f 80,f 81,f 82,f 83,f 84,f 85,f 86,f 87,f 88,f 89,f 90,f 91,f 92,f 93,f 94,f 95,f 96,f 97,f 98,f 99,f 100,f 101,f 102],[]⟩ (some 26) (.tuple #[aJ (1,5),.int .i64 0])) (.inRegion Gv [2,3,4,5,6,7] :: [.code Yz])) cs) w2 _
 rw [eA,ha2]
 refine vI (tgt:=[.inRegion qm [1,2,3,4,5,6,7,8],.code Zq]) hbf hbk (by kernel_rfl) (fun d hd=>nomatch hd) hh2 (S:=Wd2 w2 V1 v1 b3)
  (fun a w' τ d ⟨V',vv,rv,v1,b3,h1,h2,h3,h4,h5,h6,h7⟩=>⟨V',vv,rv,v1,b3,h1,h2,h3,h4,h5,h6,h7.re1 τ d⟩) (fun τ d=>?_) ?_
 ·refine (Vp (w:=w2.re τ d) hB1 hS2.view v1 b3 (fun j=>if j=25 then .agg #[vv,rv] else f j)).mono ?_
  rintro a w' ⟨V',vv,rv,v1,b3,h1,h2,h3,h4,h5,h6,h7⟩
  exact ⟨V',vv,rv,v1,b3,h1,h2,h3,h4,h5,h6,h7.re0⟩
 clear eA ha2
 rintro a w3 ⟨V3,vv3,rv3,v7,b5,⟨f3,rfl⟩,hV3,hk3,hv7,ho7,hc5,hS3⟩ hh3
 have hB3:=hB1.mono hV3
 have hN:=Zn vv3 rv3 (nJ []) hk3 hB3.gv hS3.view hh3 0
 rw [Xa] at hN
 refine Oh (i:=1) (o:=qm[1]!) hN hh3 hbk rfl rfl rfl (fun w=>?_) (fun ch w h=>nomatch h.1) ?_
 ·rw [run_call_body rfl Tryd.func43 (by kernel_rfl) rfl]
  simp only [List.map_toArray,List.map_cons,List.map_nil]
  rfl
 rintro v w4 ⟨hv,hk4⟩ hh4
 cases hv
 have hS4:=hS3.kp hk4
 have hkp:=((hS1.bM.trans hk2).trans hS3.bM).trans hk4
 obtain ⟨a4,ha4⟩:∃ a4:Act,a4=⟨#[.bool false,v1,.int .i64 0,.pointer (some ⟨b3,0,none⟩),.int .i64 0,.pointer (some ⟨b5,0,none⟩),.int .i64 0,v7,.int .i64 0,f3 9,f3 10,f3 11,f3 12,f3 13,f3 14,f3 15,f3 16,f3 17,f3 18,f3 19,f3 20,f3 21,f3 22,f3 23,f3 24,f3 25,f3 26,f3 27,f3 28,f3 29,f3 30,f3 31,f3 32,f3 33,f3 34,f3 35,f3 36,.agg #[vv3,rv3],.tuple #[.int .i64 0,.int .i64 3,.int .i64 0],f3 39,f3 40,f3 41,f3 42,f3 43,f3 44,f3 45,f3 46,f3 47,f3 48,f3 49,f3 50,f3 51,f3 52,f3 53,f3 54,f3 55,f3 56,f3 57,f3 58,f3 59,f3 60,f3 61,f3 62,f3 63,f3 64,f3 65,f3 66,f3 67,f3 68,f3 69,f3 70,f3 71,f3 72,f3 73,f3 74,f3 75,f3 76,f3 77,f3 78,f3 79,f3 80,f3 81,f3 82,f3 83,f3 84,f3 85,f3 86,f3 87,f3 88,f3 89,f3 90,f3 91,f3 92,f3 93,f3 94,f3 95,f3 96,f3 97,f3 98,f3 99,f3 100,f3 101,f3 102],[]⟩:=⟨_,rfl⟩
 have eA:(Act.put ⟨#[.bool false,v1,.int .i64 0,.pointer (some ⟨b3,0,none⟩),.int .i64 0,.pointer (some ⟨b5,0,none⟩),.int .i64 0,v7,.int .i64 0,f3 9,f3 10,f3 11,f3 12,f3 13,f3 14,f3 15,f3 16,f3 17,f3 18,f3 19,f3 20,f3 21,f3 22,f3 23,f3 24,f3 25,f3 26,f3 27,f3 28,f3 29,f3 30,f3 31,f3 32,f3 33,f3 34,f3 35,f3 36,.agg #[vv3,rv3],f3 38,f3 39,f3 40,f3 41,f3 42,f3 43,f3 44,f3 45,f3 46,f3 47,f3 48,f3 49,f3 50,f3 51,f3 52,f3 53,f3 54,f3 55,f3 56,f3 57,f3 58,f3 59,f3 60,f3 61,f3 62,f3 63,f3 64,f3 65,f3 66,f3 67,f3 68,f3 69,f3 70,f3 71,f3 72,f3 73,f3 74,f3 75,f3 76,f3 77,f3 78,f3 79,f3 80,f3 81,f3 82,f3 83,f3 84,f3 85,f3 86,f3 87,f3 88,f3 89,f3 90,f3 91,f3 92,f3 93,f3 94,f3 95,f3 96,f3 97,f3 98,f3 99,f3 100,f3 101,f3 102],[]⟩ (some 38) (.tuple #[.int .i64 0,.int .i64 3,.int .i64 0]))=a4:=by rw [ha4];rfl
 show kU Tryd.prog (G (b.at (Act.put ⟨#[.bool false,v1,.int .i64 0,.pointer (some ⟨b3,0,none⟩),.int .i64 0,.pointer (some ⟨b5,0,none⟩),.int .i64 0,v7,.int .i64 0,f3 9,f3 10,f3 11,f3 12,f3 13,f3 14,f3 15,f3 16,f3 17,f3 18,f3 19,f3 20,f3 21,f3 22,f3 23,f3 24,f3 25,f3 26,f3 27,f3 28,f3 29,f3 30,f3 31,f3 32,f3 33,f3 34,f3 35,f3 36,.agg #[vv3,rv3],f3 38,f3 39,f3 40,f3 41,f3 42,f3 43,f3 44,f3 45,f3 46,f3 47,f3 48,f3 49,f3 50,f3 51,f3 52,f3 53,f3 54,f3 55,f3 56,f3 57,f3 58,f3 59,f3 60,f3 61,f3 62,f3 63,f3 64,f3 65,f3 66,f3 67,f3 68,f3 69,f3 70,f3 71,f3 72,f3 73,f3 74,f3 75,f3 76,f3 77,f3 78,f3 79,f3 80,f3 81,f3 82,f3 83,f3 84,f3 85,f3 86,f3 87,f3 88,f3 89,f3 90,f3 91,f3 92,f3 93,f3 94,f3 95,f3 96,f3 97,f3 98,f3 99,f3 100,f3 101,f3 102],[]⟩ (some 38) (.tuple #[.int .i64 0,.int .i64 3,.int .i64 0])) (.inRegion qm [2,3,4,5,6,7,8] :: [.code Zq])) cs) w4 _
 rw [eA,ha4]
 refine vI (tgt:=[.code .ret]) hbf hbk (by kernel_rfl) (fun d hd=>nomatch hd) hh4 (S:=fun a w'=>a.tmps[0]? = some (.bool true)∧a.defers=[]∧Kp w4 w')
  (fun a w' τ d h=>⟨h.1,h.2.1,aaw h.2.2 τ d⟩) (fun τ d=>?_) ?_
 ·refine (UN (w:=w4.re τ d) hB3 hS4.view v1 v7 b3 b5 ho1 ho7 (pW.mono hv1 hV3) hv7 (fun i v h=>(hc3 i v h).mono hV3) hc5 (fun j=>if j=37 then .agg #[vv3,rv3] else f3 j)).mono ?_
  rintro a w' ⟨h1,h2,h3⟩
  exact ⟨h1,h2,uq h3⟩
 rintro a w5 ⟨h0,hd,hk5⟩ hh5
 have g:a.tmps.getD 0 undef=.bool true:=by
  rw [Array.getD_eq_getD_getElem?,h0]
  rfl
 refine Vo (v:=.bool true) hbf hbk hd Tryd.func21 hh5 ?_ ⟨rfl,hkp.trans hk5⟩ xM
 have h:=results_tmp (fn:=Tryd.f21) (t:=0) (by kernel_rfl) a.tmps Tryd.prog w5
 rw [g] at h
 exact h
def Y6 (N:Nat) (w:World) (a:Act) (w':World):Prop:=a.tmps.size=N∧a.defers=[]∧Kp w w'
theorem Bh {o:Oper} {y:Nat→Option Bool} (h:o.guard=none):Region.wanted o y=true:=by
 unfold Region.wanted
 rw [h]
theorem aaD {f:FuncId} {fn:Func} {B:Code} {args:Array Value} {m N d r:Nat} {ops:Array Oper} {k0:List Item} {o0 o1:Oper}
  (hf:Tryd.prog.funcs[f]? = some fn) (hb:fn.body=some B) (hm:fn.ntmps - args.size=m) (hit:[Item.code B].all qy=true) (hit1:(Item.inRegion ops [1] :: .code .ret :: k0).all qy=true)
  (hops0:ops[0]? = some o0) (hops1:ops[1]? = some o1) (hg0:o0.guard=none) (hg1:o1.guard=none) (hc0:o0.op=.call { callee:=.value (.func 21),args:=#[],argTypes:=#[] }) (hd0:o0.dst=some d)
  (h1:∀ (ρ:Operand→Value) (w:World),(execOp ρ o1).run Tryd.prog w=.ok (.value (ρ (.tmp d))) w) (hd1:o1.dst=some r) (hd:d < N) (hr:r < N) (hres:fn.results=#[.tmp r])
  (hB:Bs V) (hV:V.In w) (hh:ay OC w)
  (hs:∀ τ δ,fA Tryd.prog (.inRegion ops [0,1] :: .code .ret :: k0) (Y6 N (w.re τ δ)) [.code B] { tmps:=args ++ Array.replicate m undef,defers:=[] } (w.re τ δ)) :
  kL Tryd.prog f args w fun r w'=>r=.returned (.bool true)∧Kp w w':=by
 refine jD hf hb fun cs b hbf hbk hbr=>?_
 rw [hm]
 refine vI (tgt:=.inRegion ops [0,1] :: .code .ret :: k0) hbf hbk hit (fun d hd=>nomatch hd) hh (S:=Y6 N w)
  (fun a w' τ d h=>⟨h.1,h.2.1,aaw h.2.2 τ d⟩) (fun τ d=>(hs τ d).mono fun a w' h=>⟨h.1,h.2.1,uq h.2.2⟩) ?_
 rintro a w1 ⟨hsz,hdf,hk1⟩ hh1
 have hW:=TB hB (hV.kp hk1) hh1
 refine Oh (i:=0) (o:=o0) hW hh1 hbk hops0 (Bh hg0) (by rw [hc0];rfl) (fun w=>?_) (fun ch w h=>nomatch h.1) ?_
 ·rw [run_call_body hc0 Tryd.func21 (by kernel_rfl) rfl]
  simp only [List.map_toArray,List.map_nil]
 rintro v w2 ⟨hv,hk2⟩ hh2
 cases hv
 rw [hd0]
 have e1:(a.put (some d) (.bool true)).eval (.tmp d)=.bool true:=by
  show (a.tmps.setIfInBounds d (.bool true)).getD d undef=_
  simp [Array.getD_eq_getD_getElem?,hsz,hd]
 refine vI (tgt:=.code .ret :: k0) hbf hbk hit1 (fun x hx=>by rw [show (a.put (some d) (.bool true)).defers=[] from hdf] at hx;nomatch hx) hh2 (S:=fun a w'=>a.tmps[r]? = some (.bool true)∧a.defers=[]∧Kp w2 w')
  (fun a w' τ d h=>⟨h.1,h.2.1,aaw h.2.2 τ d⟩) (fun τ δ=>?_) ?_
 ·refine cO (i:=1) (o:=o1) (v:=.bool true) (w':=w2.re τ δ) hops1 (Bh hg1) (by rw [h1,e1]) (dH (bG ⟨?_,?_,aaw (Kp.refl _) τ δ⟩))
  ·rw [hd1]
   show ((a.tmps.setIfInBounds d (.bool true)).setIfInBounds r (.bool true))[r]? = _
   simp [hsz,hr]
  ·rw [hd1]
   exact hdf
 rintro a w3 ⟨h0,hd,hk3⟩ hh3
 have g:a.tmps.getD r undef=.bool true:=by
  rw [Array.getD_eq_getD_getElem?,h0]
  rfl
 refine Vo (v:=.bool true) hbf hbk hd hf hh3 ?_ ⟨rfl,(hk1.trans hk2).trans hk3⟩ xM
 have h:=results_tmp (fn:=fn) (t:=r) hres a.tmps Tryd.prog w3
 rw [g] at h
 exact h
theorem oZ {P:Program} {l:List Oper} {md:Region.Mode} {o:Oper} {a:Act} {Q:Exit→Act→World→Prop} {S:World→Prop} {fuel:Nat} {listed:Array Bool} (i:Nat) (hr:Region.ready md l.toArray listed=[i]) (hi₀:l[i]? = some o) (hw:Region.wanted o (yielded l.toArray a.tmps)=true)
  (h:∃ f args,(execOp a.eval o).run P w=.ok (.enter f args) w∧Calls P f args w fun e w'=>∃ v,e=.returned v∧∀ a' l',a.put o.dst v=a'→listed.setIfInBounds i true=l'→S w'∧wpAnyH P md l.toArray Q S fuel l' a' w'):wpAnyH P md l.toArray Q S (fuel+1) listed a w:=by
 obtain ⟨f,args,hr',hc⟩:=h
 exact mG hr (yB (R:=fun v w'=>∀ a' l',a.put o.dst v=a'→listed.setIfInBounds i true=l'→S w'∧wpAnyH P md l.toArray Q S fuel l' a' w') (jV hi₀) hw hr' hc fun v w' h=>h _ _ rfl rfl)
theorem wO {v:Value} {n sz:Nat} {get:Nat→List Value} (h:pW V v n sz get):v.oneCell'=true:=by
 obtain ⟨a,cap,rfl,_⟩:=h.is
 rfl
end Go.Proofs.YtjjmefieegcddaaDoor
namespace Go.Proofs.YtjjmefieegcddaaDoor
open Go.RowKit Go.Wg Go.Mm
variable {w:World} {V:View}
theorem ade {w0:World} {X:List Nat} {L:List dF} {vv rv:Value} {k:Wk} {R:Ending→World→Prop} {v a b e:Int} (hS:St w0 X V L w) (hB:Bs V) (hk:iJ V vv rv k) (hv:ac6 k v=((a,b),e))
  (h:∀ w',St w0 X V L w'→R (.returned (.tuple #[.agg #[.int .i64 a,.int .i64 b],.int .i64 e])) w'):Calls Tryd.prog 63 #[.agg #[vv,rv],.int .i64 v] w R:=by
 have hc:=ael vv rv k hk hB.gv hS.view v
 rw [hv] at hc
 exact aH hS ⟨_,hc,h⟩
theorem ad4 {vv rv xv sv:Value} {k x:Wk} {A B C D:Nat→Int × Int} (hB:Bs V) (hk:iJ V vv rv k) (hx:iJ V xv sv x) (hn:k.n≤6)
  (hA:∀ v,v < k.n→iw k (v:Nat)=(A v,0)) (hBB:∀ v,v < k.n→iw x (v:Nat)=(B v,0)) (hC:∀ v,v < k.n→ac6 k (v:Nat)=(C v,0)) (hD:∀ v,v < k.n→ac6 x (v:Nat)=(D v,0)) (hV:V.In w) :
  Calls Tryd.prog 65 #[.agg #[vv,rv],.agg #[xv,sv],.bool true] w fun e w'=>e=.returned (.bool (decide (∀ v,v < k.n→A v=B v∧C v=D v)))∧Kp w w':=by
 obtain ⟨va,vcap,hva,_⟩:=hk.ves.is
 have hone1:=qB (wO hk.ves) (wO hk.rdg)
 have hone2:=qB (wO hx.ves) (wO hx.rdg)
 subst hva
 have hS:=St.start w V hV
 obtain ⟨T,hT⟩:∃ T:Prop,T=(∀ v,v < k.n→A v=B v∧C v=D v):=⟨_,rfl⟩
 have hdec:∀ b:Bool,(b=true↔∀ v,v < k.n→A v=B v∧C v=D v)→decide (∀ v,v < k.n→A v=B v∧C v=D v)=b:=fun b h=>by
  rw [Bool.eq_iff_iff,decide_eq_true_eq,h]
 generalize decide (∀ v,v < k.n→A v=B v∧C v=D v)=res at hdec
 clear hT T
 replace hdec:=aj hdec;replace hA:=aj hA;replace hBB:=aj hBB;replace hC:=aj hC;replace hD:=aj hD
 go_enter Tryd.func65,Tryd.ntmps65
 go_wp2_with (first | ((with_reducible refine gB ?_);refine iK 3 rfl hS rfl rfl rfl ?_;refine ⟨_,za,?_⟩;clear hS;(try clear w');intro b3;refine zF ?_;intro w' hS) | ((with_reducible refine gB ?_);refine iK 4 rfl hS rfl rfl rfl ?_;refine ⟨_,za,?_⟩;clear hS;(try clear w');intro b4;refine zF ?_;intro w' hS))
 go_loopw [7] (fun iv wr=>∃ i:Nat,i≤k.n∧iv=.int .i64 (i:Int)∧(∀ v,v < i→A v=B v∧C v=D v)∧St w [] V [.blk b4 25 [xv,sv],.blk b3 25 [.slice va k.n vcap,rv]] wr) (fun iv _=>k.n - (intOf iv).toNat)
 case atStart=>exact ⟨0,by omega,rfl,(fun v hv=>absurd hv (by omega)),hS.aG⟩
 case round =>
  clear hS
  obtain ⟨i,hi,rfl,hal,hS⟩:=hrel
  have h0:(0:Int)≤i:=by omega
  by_cases hlt:i < k.n
  ·have hlt':(i:Int) < k.n:=by omega
   have h1:=hA.out i hlt
   have h2:=hBB.out i hlt
   have h3:=hC.out i hlt
   have h4:=hD.out i hlt
   have hnx:A i=B i∧C i=D i→∀ v,v < i+1→A v=B v∧C v=D v:=fun h v hv=>by
    by_cases e:v=i
    ·subst e;exact h
    ·exact hal v (by omega)
   have hno:¬ (A i=B i∧C i=D i)→res=false:=fun h=>hdec.out false ⟨(fun h3=>by cases h3),fun h2=>absurd (h2 i hlt) h⟩
   clear hal
   generalize A i=a at h1 hnx hno
   generalize B i=b at h2 hnx hno
   generalize C i=c at h3 hnx hno
   generalize D i=d at h4 hnx hno
   obtain ⟨a1,a2⟩:=a
   obtain ⟨b1,b2⟩:=b
   obtain ⟨c1,c2⟩:=c
   obtain ⟨d1,d2⟩:=d
   by_cases he:(a1=b1∧a2=b2)∧(c1=d1∧c2=d2)
   ·obtain ⟨⟨rfl,rfl⟩,⟨rfl,rfl⟩⟩:=he
    have hnx':=hnx ⟨rfl,rfl⟩
    clear hnx hno
    replace hnx':=aj hnx'
    go_wp2_with (first | (first | ((first | ((with_reducible refine gL ?_);first | refine gY hS rfl rfl rfl ?_ | refine lW hS rfl rfl rfl ?_) | ((with_reducible refine gS ?_);refine bQ hS rfl rfl rfl ?_));refine ⟨_,zd,?_⟩;clear hS;(try clear w');refine zF ?_;intro w' hS;(try simp only [sE] at hS)) | (((with_reducible refine gA ?_);refine dM hS rfl rfl ?_);clear hS;(try clear w');intro _;refine zF ?_;intro w' hS)) | (go_at_call 54;refine oq hS hB hk h1 ?_;clear hS;(try clear w');intro w' hS) | (go_at_call 54;refine oq hS hB hx h2 ?_;clear hS;(try clear w');intro w' hS) | (go_at_call 63;refine ade hS hB hk h3 ?_;clear hS;(try clear w');intro w' hS) | (go_at_call 63;refine ade hS hB hx h4 ?_;clear hS;(try clear w');intro w' hS))
    go_roundw
    case rel=>exact ⟨i+1,by omega,by go_num,hnx'.out,hS.aG⟩
    case measure=>simp only [intOf];omega
   ·have hr:=hno (by simp only [Prod.mk.injEq];exact he)
    have hcs:(decide (a1 < b1)=true)∨(decide (a1 < b1)=false∧decide (b2 < a2)=true)∨(decide (a1 < b1)=false∧decide (b2 < a2)=false∧decide (c1 < d1)=true)∨(decide (a1 < b1)=false∧decide (b2 < a2)=false∧decide (c1 < d1)=false∧decide (d2 < c2)=true) ∨
      (decide (a1 < b1)=false∧decide (b2 < a2)=false∧decide (c1 < d1)=false∧decide (d2 < c2)=false∧(a1 == b1)=false) ∨
      (a1=b1∧decide (b2 < a2)=false∧decide (c1 < d1)=false∧decide (d2 < c2)=false∧(a2 == b2)=false)∨((a1=b1∧a2=b2)∧decide (c1 < d1)=false∧decide (d2 < c2)=false∧(c1 == d1)=false)∨((a1=b1∧a2=b2)∧c1=d1∧decide (d2 < c2)=false∧(c2 == d2)=false):=by
     simp only [decide_eq_true_eq,decide_eq_false_iff_not,beq_eq_false_iff_ne,ne_eq]
     omega
    clear hnx hno he
    replace hr:=aj hr
    rcases hcs with q1 | ⟨q1,q2⟩ | ⟨q1,q2,q3⟩ | ⟨q1,q2,q3,q4⟩ | ⟨q1,q2,q3,q4,q5⟩ | ⟨rfl,q2,q3,q4,q5⟩ | ⟨⟨rfl,rfl⟩,q3,q4,q5⟩ | ⟨⟨rfl,rfl⟩,rfl,q4,q5⟩
    all_goals (
     go_wp2_with (first | (first | ((first | ((with_reducible refine gL ?_);first | refine gY hS rfl rfl rfl ?_ | refine lW hS rfl rfl rfl ?_) | ((with_reducible refine gS ?_);refine bQ hS rfl rfl rfl ?_));refine ⟨_,zd,?_⟩;clear hS;(try clear w');refine zF ?_;intro w' hS;(try simp only [sE] at hS)) | (((with_reducible refine gA ?_);refine dM hS rfl rfl ?_);clear hS;(try clear w');intro _;refine zF ?_;intro w' hS)) | (go_at_call 54;refine oq hS hB hk h1 ?_;clear hS;(try clear w');intro w' hS) | (go_at_call 54;refine oq hS hB hx h2 ?_;clear hS;(try clear w');intro w' hS) | (go_at_call 63;refine ade hS hB hk h3 ?_;clear hS;(try clear w');intro w' hS) | (go_at_call 63;refine ade hS hB hx h4 ?_;clear hS;(try clear w');intro w' hS))
     ((try simp only [Exit.inBlock,Exit.then]);(try refine aB ?_);refine bK ⟨_,by exact bH (r1:=.tmp 6) (by kernel_rfl) (by exact bD rfl),?_⟩ rfl)
     exact ⟨by rw [hr.out],hS.bM⟩)
  ·obtain rfl:i=k.n:=by omega
   have hr:=hdec.out true ⟨fun _=>hal,fun _=>rfl⟩
   replace hr:=aj hr
   clear hal
   go_wp2_with (((with_reducible refine gL ?_);refine gY hS rfl rfl rfl ?_);refine ⟨_,zd,?_⟩;clear hS;(try clear w');refine zF ?_;intro w' hS)
   ((try simp only [Exit.inBlock,Exit.then]);(try refine aB ?_);refine bK ⟨_,by exact bH (r1:=.tmp 6) (by kernel_rfl) (by exact bD rfl),?_⟩ rfl)
   exact ⟨by rw [hr.out],hS.bM⟩
end Go.Proofs.YtjjmefieegcddaaDoor
namespace Go.Wg
open Go Go.Mm Go.Proofs.YtjjmefieegcddaaDoor
structure Holds (g:Gr) (P:Nat→Int→Prop):Prop where
 wf:g.WF
 has:∀ n,g.has.testBit n=true↔∃ y,P n y
 lo:∀ n,g.has.testBit n=true→P n (g.get n).1
 hi:∀ n,g.has.testBit n=true→P n (g.get n).2
 all:∀ n y,P n y→(g.get n).1≤y∧y≤(g.get n).2
theorem acI {x n:Nat} (h1:x < 2199023255552) (h:x.testBit n=true):n≤40:=by
 rcases Nat.lt_or_ge n 41 with h2 | h2
 ·omega
 ·have:x.testBit n=false:=Nat.testBit_lt_two_pow (Nat.lt_of_lt_of_le h1 (by
   rw [show (2199023255552:Nat)=2 ^ 41 by decide]
   exact Nat.pow_le_pow_right (by decide) h2))
  rw [this] at h;cases h
theorem Holds.small {g:Gr} {P:Nat→Int→Prop} (h:Holds g P) {n:Nat} {y:Int} (hp:P n y):n≤40:=acI h.wf.small ((h.has n).2 ⟨y,hp⟩)
theorem Holds.congr {g:Gr} {P Q:Nat→Int→Prop} (h:Holds g P) (e:∀ n y,P n y↔Q n y):Holds g Q:=by
 have:P=Q:=funext fun n=>funext fun y=>propext (e n y)
 rwa [← this]
theorem abW (g:Gr) (n:Nat) (v:Int × Int) (m:Nat):(g.add n v).has.testBit m=(g.has.testBit m || decide (n=m)):=by
 show (g.has ||| 2 ^ n).testBit m=_
 rw [Nat.testBit_or,Nat.testBit_two_pow]
theorem add_get (g:Gr) (hg:g.WF) {n:Nat} (hn:n < 41) (v:Int × Int) (m:Nat):(g.add n v).get m=if n=m then (if g.has.testBit n then sO (g.get n) v else v) else g.get m:=by
 have hl:=hg.len
 show (g.at_.set n _).getD m (0,0)=_
 rw [fC _ _ _ _ _ (by omega)]
 rfl
theorem Holds.add {g:Gr} {P:Nat→Int→Prop} (h:Holds g P) {n:Nat} (hn:n < 41) {Q:Int→Prop} {v:Int × Int} (h1:Q v.1) (h2:Q v.2) (ha:∀ y,Q y→v.1≤y∧y≤v.2):Holds (g.add n v) fun m y=>P m y∨(m=n∧Q y):=by
 have hv:=ha _ h1
 refine ⟨h.wf.add hn v,fun m=>?_,fun m hm=>?_,fun m hm=>?_,fun m y hy=>?_⟩
 ·rw [abW,Bool.or_eq_true,decide_eq_true_eq,h.has]
  constructor
  ·rintro (⟨y,hy⟩ | rfl)
   ·exact ⟨y,.inl hy⟩
   ·exact ⟨_,.inr ⟨rfl,h1⟩⟩
  ·rintro ⟨y,hy | ⟨rfl,_⟩⟩
   ·exact .inl ⟨y,hy⟩
   ·exact .inr rfl
 ·rw [abW,Bool.or_eq_true,decide_eq_true_eq] at hm
  rw [add_get g h.wf hn]
  by_cases e:n=m
  ·subst e
   rw [if_pos rfl]
   split
   ·rename_i hb
    show P n (min (g.get n).1 v.1)∨(n=n∧Q (min (g.get n).1 v.1))
    rcases Int.le_total (g.get n).1 v.1 with h3 | h3
    ·rw [Int.min_eq_left h3];exact .inl (h.lo n hb)
    ·rw [Int.min_eq_right h3];exact .inr ⟨rfl,h1⟩
   ·exact .inr ⟨rfl,h1⟩
  ·rw [if_neg e]
   exact .inl (h.lo m (hm.resolve_right e))
 ·rw [abW,Bool.or_eq_true,decide_eq_true_eq] at hm
  rw [add_get g h.wf hn]
  by_cases e:n=m
  ·subst e
   rw [if_pos rfl]
   split
   ·rename_i hb
    show P n (max (g.get n).2 v.2)∨(n=n∧Q (max (g.get n).2 v.2))
    rcases Int.le_total (g.get n).2 v.2 with h3 | h3
    ·rw [Int.max_eq_right h3];exact .inr ⟨rfl,h2⟩
    ·rw [Int.max_eq_left h3];exact .inl (h.hi n hb)
   ·exact .inr ⟨rfl,h2⟩
  ·rw [if_neg e]
   exact .inl (h.hi m (hm.resolve_right e))
 ·rw [add_get g h.wf hn]
  by_cases e:n=m
  ·subst e
   rw [if_pos rfl]
   split
   ·show min _ _≤y∧y≤max _ _
    rcases hy with hy | ⟨_,hy⟩
    ·have:=h.all n y hy;omega
    ·have:=ha y hy;omega
   ·rename_i hb
    rcases hy with hy | ⟨_,hy⟩
    ·exact absurd ((h.has n).2 ⟨y,hy⟩) hb
    ·exact ha y hy
  ·rw [if_neg e]
   rcases hy with hy | ⟨rfl,_⟩
   ·exact h.all m y hy
   ·exact absurd rfl e
structure Least (S:Int→Prop) (r:Int × Int):Prop where
 lo:S r.1
 hi:S r.2
 all:∀ y,S y→r.1≤y∧y≤r.2
theorem Least.sub {S S':Int→Prop} {r r':Int × Int} (h:Least S r) (h':Least S' r') (e:∀ y,S y→S' y):r'.1≤r.1∧r.2≤r'.2 :=
 ⟨(h'.all _ (e _ h.lo)).1,(h'.all _ (e _ h.hi)).2⟩
theorem adD {k:Wk} (hok:k.Ok) (b:je→Bool) (i:Nat):((aN k b).aP i).2≤40:=by
 rw [rW k hok]
 split
 ·rename_i hi
  have:(k.v i).hi≤20:=(hok.ves i hi).2.2.2.2.2.2.2.1
  simp only;omega
 ·decide
end Go.Wg
namespace Go.Proofs.YtjjmefieegcddaaDoor
open Go.RowKit Go.Wg Go.Mm
variable {w:World} {V:View} {w0:World} {L:List dF}
theorem adu {P:Program} {X:List Nat} (hS:St w0 X V L w) {o:Oper} {ρ:Operand→Value} {sl x:Operand} {t e:TypeId} {size:Nat} (ho:o.op=.call { callee:=.builtin .append,args:=#[sl,x],argTypes:=#[t,t] })
  (ht:Yv P t e size=true) {g off i:Nat} {olds:List Value} (hjo:V.Range g off olds) (hv:ρ sl=.slice (some ⟨g,off,none⟩) i i) (hlo:olds.length=i * size)
  {b off' m c:Nat} {news:List Value} (hjb:V.Range b off' news) {ya:Option Addr} (hx:ρ x=.slice ya m c) (hya:ya=some ⟨b,off',none⟩) (hm:news.length=m * size) (h0:0 < m) (hn:i+m≤1000) :
  ∃ v' w',(execOp ρ o).run P w=.ok (.value v') w'∧St w0 X V (.row v' e size (i+m) (olds ++ news) :: L) w':=by
 subst hya
 have hco:∀ j u,olds[j]? = some u→w.cell? ((⟨g,off,none⟩:Addr).add j)=some u:=fun j u hi=>by
  rw [Addr.add_mid];exact (hjo j u hi).cell hS.view
 have hcn:∀ j u,news[j]? = some u→w.cell? ((⟨b,off',none⟩:Addr).add j)=some u:=fun j u hi=>by
  rw [Addr.add_mid];exact (hjb j u hi).cell hS.view
 unfold Yv at ht
 simp only [Bool.and_eq_true] at ht
 obtain ⟨⟨ht1,ht2⟩,ht3⟩:=ht
 have hu:P.underlying t=some (.slice e):=by
  cases hd:P.underlying t with
  | none=>rw [hd] at ht1;cases ht1
  | some d=>rw [hd] at ht1;cases d <;> simp_all
 cases hq:P.info? e with
 | none=>rw [hq] at ht2;cases ht2
 | some q =>
  rw [hq] at ht2
  simp only [Option.any_some,Bool.and_eq_true,beq_iff_eq,decide_eq_true_eq] at ht2
  obtain ⟨⟨hqs,hqz⟩,hqb⟩:=ht2
  cases hz:q.zero with
  | none=>rw [hz] at hqz;cases hqz
  | some z =>
   rw [hz] at hqz
   simp only [Option.any_some,Bool.and_eq_true,beq_iff_eq] at hqz
   obtain ⟨hqz,hqf⟩:=hqz
   have hfit:=growslice_fits (bytes:=q.bytes) (show i < i+m by omega) (by
    have:(i+m) * q.bytes≤1000 * 1000:=Nat.mul_le_mul hn hqb
    omega)
   have hr:=run_append_grow (P:=P) w t o.type e q z hu hq hz ⟨g,off,none⟩ i i olds (by rw [hqs];exact hlo) hco ⟨b,off',none⟩ m c news (by rw [hqs];exact hm) hcn (by omega) (by omega) hfit
   have hge:=grownCap_ge w (i+m) i e
   have hle:=grownCap_le_maxLen w (i+m) i e (by unfold maxLen;omega)
   refine ⟨.slice (some ⟨w.heap.size,0,none⟩) (i+m) (grownCap w (i+m) i e),w.drew.alloc (.cells (olds.toArray ++ news.toArray ++ Builtin.zeroCells z.cells (grownCap w (i+m) i e - (i+m))) e),?_,?_⟩
   ·unfold execOp
    simp only [ho,resolve,invoke,builtin,Sem.run_bind,Sem.run_pure,Result.andThen_ok,List.map_toArray,List.map_cons,List.map_nil,hv,hx,hr]
   ·have hA:=(hS.drew 1).alloc e ((olds ++ news) ++ (Builtin.zeroCells z.cells (grownCap w (i+m) i e - (i+m))).toList)
    have hl:(olds ++ news).length=(i+m) * size:=by rw [List.length_append,hlo,hm,Nat.add_mul]
    have hzl:(Builtin.zeroCells z.cells (grownCap w (i+m) i e - (i+m))).toList.length=(grownCap w (i+m) i e - (i+m)) * size:=by
     rw [Array.length_toList,size_zeroCells]
     congr 1
    refine XT (pad:=(Builtin.zeroCells z.cells (grownCap w (i+m) i e - (i+m))).toList) (n:=i+m) ?_ hge hle hl ?_ fun cc hc=>?_
    ·have e1:(olds.toArray ++ news.toArray ++ Builtin.zeroCells z.cells (grownCap w (i+m) i e - (i+m)))=((olds ++ news) ++ (Builtin.zeroCells z.cells (grownCap w (i+m) i e - (i+m))).toList).toArray:=by
      apply Array.ext'
      simp
     rw [e1]
     exact hA
    ·rw [List.length_append,hl,hzl,← Nat.add_mul]
     congr 1
     omega
    ·obtain ⟨j,hj⟩:=List.mem_iff_getElem?.1 hc
     exact Dv hqf _ j cc (by simpa using hj)
theorem adp {o:Oper} {ρ:Operand→Value} {x y:Operand} (ho:o.op=.call { callee:=.builtin .append,args:=#[x,y],argTypes:=#[23,23] }) {b:Addr} {ya:Option Addr} {i m c:Nat} (hx:ρ x=.slice (some b) i i) (hy:ρ y=.slice ya m c) (hm:m=0) (w:World) :
  (execOp ρ o).run Tryd.prog w=.ok (.value (.slice (some b) i i)) w:=by
 subst hm
 unfold execOp
 simp only [ho,resolve,invoke,builtin,Sem.run_bind,Sem.run_pure,Result.andThen_ok,List.map_toArray,List.map_cons,List.map_nil,hx,hy]
 have hs:=adM w
 cases ya <;> simp [Builtin.append_,run_underlying ada,Sem.run_bind,hs,Builtin.lenOf,Builtin.firstCells,loadCells,loadCellsFrom,storeCells,Result.andThen]
set_option maxRecDepth 40000 in
theorem aeJ (d:Nat) (a b c e:Int) (w:World):(Op.equalIn (d+2) 27 (.agg #[.int .i64 a,.int .i64 b]) (.agg #[.int .i64 c,.int .i64 e])).run Tryd.prog w=.ok (a == c && b == e) w:=by
 have hu:Tryd.prog.underlying 3=some (.int .i64):=by kernel_rfl
 have p1:∀ x y:Int,(part 3 #[.int .i64 x,.int .i64 y] 0).run Tryd.prog w=.ok (.int .i64 x) w:=fun x y=>by kernel_rfl
 have p2:∀ x y:Int,(part 3 #[.int .i64 x,.int .i64 y] 1).run Tryd.prog w=.ok (.int .i64 y) w:=fun x y=>by kernel_rfl
 have e3:∀ x y:Int,(Op.equalIn (d+1) 3 (.int .i64 x) (.int .i64 y)).run Tryd.prog w=.ok (x == y) w:=fun x y=>run_equalIn_int w d 3 .i64 .i64 x y hu
 rw [run_equalIn_struct w (d+1) 27 _ _ (by kernel_rfl) (by kernel_rfl)]
 obtain ⟨f1,f2,hf⟩:∃ f1 f2:Field,(Tryd.prog.fieldsOf 27).toList=[f1,f2]∧f1.name ≠ "_" ∧ f2.name ≠ "_" ∧ f1.type=3∧f2.type=3∧f1.offset=0∧f2.offset=1:=⟨_,_,rfl,by decide,by decide,rfl,rfl,rfl,rfl⟩
 obtain ⟨hf,n1,n2,t1,t2,o1,o2⟩:=hf
 rw [hf]
 simp only [Op.eqFields,Sem.run_bind,Sem.run_ite,n1,n2,t1,t2,o1,o2,p1,p2,e3,Result.andThen_ok,ne_eq,not_false_eq_true,if_true]
 generalize (a == c)=q1
 generalize (b == e)=q2
 cases q1
 ·rfl
 ·cases q2 <;> rfl
set_option maxRecDepth 40000 in
theorem aed {o:Oper} {ρ:Operand→Value} {x y:Operand} {t:TypeId} (ho:o.op=.binOp .eql 98 x y t) {a b:List (Int × Int)} (hx:ρ x=.agg (pY a).toArray) (hy:ρ y=.agg (pY b).toArray) (ha:a.length=6) (hb:b.length=6) (w:World) :
  (execOp ρ o).run Tryd.prog w=.ok (.value (.bool (decide (a=b)))) w:=by
 have six:∀ l:List (Int × Int),l.length=6→∃ p0 p1 p2 p3 p4 p5,l=[p0,p1,p2,p3,p4,p5]:=fun l h=>by
  match l,h with
  | [p0,p1,p2,p3,p4,p5],_=>exact ⟨p0,p1,p2,p3,p4,p5,rfl⟩
 obtain ⟨⟨a0,a0'⟩,⟨a1,a1'⟩,⟨a2,a2'⟩,⟨a3,a3'⟩,⟨a4,a4'⟩,⟨a5,a5'⟩,rfl⟩:=six a ha
 obtain ⟨⟨b0,b0'⟩,⟨b1,b1'⟩,⟨b2,b2'⟩,⟨b3,b3'⟩,⟨b4,b4'⟩,⟨b5,b5'⟩,rfl⟩:=six b hb
 have hd:decide ([(a0,a0'),(a1,a1'),(a2,a2'),(a3,a3'),(a4,a4'),(a5,a5')]=[(b0,b0'),(b1,b1'),(b2,b2'),(b3,b3'),(b4,b4'),(b5,b5')])=((a0 == b0 && a0' == b0') && ((a1 == b1 && a1' == b1') && ((a2 == b2 && a2' == b2') && ((a3 == b3 && a3' == b3') && ((a4 == b4 && a4' == b4') && (a5 == b5 && a5' == b5')))))):=by
  rw [Bool.eq_iff_iff]
  simp [and_assoc]
 rw [hd]
 have hg:∀ u v:Array Value,(eqGuard .eql 98 x y (.agg u) (.agg v)).run Tryd.prog w=.ok () w:=fun u v=>by kernel_rfl
 have hc:Tryd.prog.cellsOf 27=2:=by kernel_rfl
 have hi:∃ i,Tryd.prog.info? 27=some i:=⟨_,rfl⟩
 obtain ⟨i,hi⟩:=hi
 have hr:∀ u v:Array Value,(Op.equalIn 10000 98 (.agg u) (.agg v)).run Tryd.prog w=(Op.eqItems 9999 27 2 u v [0,1,2,3,4,5]).run Tryd.prog w:=fun u v=>by
  rw [show (10000:Nat)=9999+1 from rfl,run_equalIn_array (P:=Tryd.prog) w 9999 (t:=98) (e:=27) (n:=6) u v (by kernel_rfl) hi,hc]
  rfl
 have pt:∀ (x0 x1 x2 x3 x4 x5 x6 x7 x8 x9 x10 x11:Int),(part 27 (pY [(x0,x1),(x2,x3),(x4,x5),(x6,x7),(x8,x9),(x10,x11)]).toArray (0 * 2)).run Tryd.prog w=.ok (.agg #[.int .i64 x0,.int .i64 x1]) w∧(part 27 (pY [(x0,x1),(x2,x3),(x4,x5),(x6,x7),(x8,x9),(x10,x11)]).toArray (1 * 2)).run Tryd.prog w=.ok (.agg #[.int .i64 x2,.int .i64 x3]) w ∧
   (part 27 (pY [(x0,x1),(x2,x3),(x4,x5),(x6,x7),(x8,x9),(x10,x11)]).toArray (2 * 2)).run Tryd.prog w=.ok (.agg #[.int .i64 x4,.int .i64 x5]) w∧(part 27 (pY [(x0,x1),(x2,x3),(x4,x5),(x6,x7),(x8,x9),(x10,x11)]).toArray (3 * 2)).run Tryd.prog w=.ok (.agg #[.int .i64 x6,.int .i64 x7]) w ∧
   (part 27 (pY [(x0,x1),(x2,x3),(x4,x5),(x6,x7),(x8,x9),(x10,x11)]).toArray (4 * 2)).run Tryd.prog w=.ok (.agg #[.int .i64 x8,.int .i64 x9]) w∧(part 27 (pY [(x0,x1),(x2,x3),(x4,x5),(x6,x7),(x8,x9),(x10,x11)]).toArray (5 * 2)).run Tryd.prog w=.ok (.agg #[.int .i64 x10,.int .i64 x11]) w:=fun x0 x1 x2 x3 x4 x5 x6 x7 x8 x9 x10 x11 =>
  ⟨by kernel_rfl,by kernel_rfl,by kernel_rfl,by kernel_rfl,by kernel_rfl,by kernel_rfl⟩
 obtain ⟨g0,g1,g2,g3,g4,g5⟩:=pt a0 a0' a1 a1' a2 a2' a3 a3' a4 a4' a5 a5'
 obtain ⟨k0,k1,k2,k3,k4,k5⟩:=pt b0 b0' b1 b1' b2 b2' b3 b3' b4 b4' b5 b5'
 unfold execOp
 simp only [ho,hx,hy,Sem.run_bind,hg,Result.andThen_ok,run_eql_struct,hr,Op.eqItems,Sem.run_ite,g0,g1,g2,g3,g4,g5,k0,k1,k2,k3,k4,k5,show (9999:Nat)=9997+2 from rfl,aeJ]
 generalize (a0 == b0 && a0' == b0')=c0
 generalize (a1 == b1 && a1' == b1')=c1
 generalize (a2 == b2 && a2' == b2')=c2
 generalize (a3 == b3 && a3' == b3')=c3
 generalize (a4 == b4 && a4' == b4')=c4
 generalize (a5 == b5 && a5' == b5')=c5
 cases c0
 ·rfl
 cases c1
 ·rfl
 cases c2
 ·rfl
 cases c3
 ·rfl
 cases c4
 ·rfl
 cases c5 <;> rfl
theorem adC {o:Oper} {ρ:Operand→Value} {x y:Operand} {t:TypeId} (ho:o.op=.binOp .eql 98 x y t) {a b:List (Int × Int)} {c:Bool} (hx:ρ x=.agg (pY a).toArray) (hy:ρ y=.agg (pY b).toArray) (ha:a.length=6) (hb:b.length=6) (hc:decide (a=b)=c) (w:World) :
  (execOp ρ o).run Tryd.prog w=.ok (.value (.bool c)) w:=by rw [← hc];exact aed ho hx hy ha hb w
theorem aem {ops:Array Oper} {Q:Exit→Act→World→Prop} {d:Option Tmp} {x y:Operand} {t t2:TypeId} {p:String} {af:Array Edge} {g:Option (Nat × Bool)} {rest:List Oper} {a:Act} (h:wpList Tryd.prog ops Q (⟨d,.binOp .eql 98 x y t2,t,p,af,g⟩ :: rest) a w):wpList Tryd.prog ops Q (⟨d,.binOp .eql 98 x y t2,t,p,af,g⟩ :: rest) a w:=h
theorem adq {X:List Nat} {vv rv:Value} {k:Wk} {R:Ending→World→Prop} (hS:St w0 X V L w) (hk:iJ V vv rv k) (hok:k.Ok)
  (h:∀ p V' w',(∀ j o,V j=some o→V' j=some o)→jh V' p k→St w0 X V' L w'→R (.returned (.pointer (some ⟨p,0,none⟩))) w'):Calls Tryd.prog 114 #[.agg #[vv,rv]] w R :=
 (Xh V vv rv k hk hok w hS.view).mono fun e w' ⟨p,he,hkp,hin,hcel,_⟩=>by
  subst he
  exact h p _ w' (rD hS.view) hcel (hS.call hkp hin Ku)
theorem aee {p:Nat} {k:Wk} {ts:List Nat} {vv rv:Value} {D:List Nat} (hC:zO V p k ts vv rv) (hok:k.Ok) (hD:Closed V D) (hp:p∈D):iJ V vv rv k:=by
 have h1:=hok.le
 have h2:=hok.rdl
 obtain ⟨cs,t,e1,e2⟩:=hD.cells p hp
 have hin:∀ {i v},V.Cell p i v→IZ D v:=fun ⟨cs',t',fr',h3,h4⟩=>by
  rw [e1] at h3
  cases h3
  exact e2 _ (Array.mem_of_getElem? h4)
 exact ⟨hC.ves,hC.rdg,⟨by omega,by omega⟩,D,hD,hin hC.c0,hin hC.c1⟩
theorem ad9 {D D':List Nat} (h:Closed V D) (h':Closed V D'):Closed V (D ++ D'):=by
 refine ⟨fun b hb=>?_,fun b hb=>?_,h.last⟩
 ·rcases List.mem_append.1 hb with hb | hb
  ·obtain ⟨cs,t,e1,e2⟩:=h.cells b hb
   exact ⟨cs,t,e1,fun v hv=>KY (fun x hx=>List.mem_append_left _ hx) (e2 v hv)⟩
  ·obtain ⟨cs,t,e1,e2⟩:=h'.cells b hb
   exact ⟨cs,t,e1,fun v hv=>KY (fun x hx=>List.mem_append_right _ hx) (e2 v hv)⟩
 ·rcases List.mem_append.1 hb with hb | hb
  ·exact h.ge b hb
  ·exact h'.ge b hb
theorem ad6 {k:Wk} {vv rv rw:Value} {g off n cap i:Nat} (hk:iJ V vv rv k) (hq:iJ V rw (.slice (some ⟨g,off,none⟩) n cap) k) (hi:i≤k.rdg.length) (hr:∀ j,j < k.rdg.length→V.Range g (off+j * 4) (k.rdg.getD j default).cells) :
  iJ V vv (.slice (some ⟨g,off,none⟩) i i) ⟨k.ves,k.rdg.take i⟩:=by
 obtain ⟨D,h1,h2,_⟩:=hk.cl
 obtain ⟨D',h1',_,h3⟩:=hq.cl
 have hs:=hk.small
 have hl:(k.rdg.take i).length=i:=by rw [List.length_take];omega
 refine ⟨hk.ves,⟨_,i,?_,Nat.le_of_eq hl,by unfold maxLen;omega,fun _=>⟨g,off,rfl,fun j hj=>?_⟩⟩,⟨hs.1,by show (k.rdg.take i).length≤100;omega⟩,D ++ D',ad9 h1 h1',KY (fun x hx=>List.mem_append_left _ hx) h2,?_⟩
 ·show Value.slice _ i i=Value.slice _ (k.rdg.take i).length i
  rw [hl]
 ·have hj':j < i:=by
   have:j < (k.rdg.take i).length:=hj
   omega
  have e:(k.rdg.take i).getD j default=k.rdg.getD j default:=by
   rw [List.getD_eq_getElem?_getD,List.getElem?_take,if_pos hj',← List.getD_eq_getElem?_getD]
  show V.Range g (off+j * 4) ((k.rdg.take i).getD j default).cells
  rw [e]
  exact hr j (by omega)
 ·rcases h3 with h3 | ⟨b,o,h3,_⟩ | ⟨b,o,n',c',h3,hb⟩
  ·cases h3
  ·cases h3
  ·cases h3
   exact .inr (.inr ⟨_,_,_,_,rfl,List.mem_append_right _ hb⟩)
theorem aea {k:Wk} {i:Nat} (h:k.rdg.length - (i+1)=0):k.less i=⟨k.ves,k.rdg.take i⟩:=by
 show (⟨k.ves,k.rdg.take i ++ k.rdg.drop (i+1)⟩:Wk)=_
 rw [List.drop_eq_nil_of_le (by omega),List.append_nil]
set_option maxRecDepth 40000 in
theorem adY (vv rv:Value) (k:Wk) (hk:iJ V vv rv k) (hB:Bs V) (hgN:Go.Wg.gN≤w.heap.size) (hV:V.In w) :
  Calls Tryd.prog 73 #[.agg #[vv,rv]] w fun r w'=>∃ v,r=.returned (.tuple #[v,.int .i64 (ac0 k).2])∧Kp w w'∧tY w w' v (ac0 k).1:=by
 have hG:=hB.gv
 have hk0:=hk
 obtain ⟨va,vcap,hvv,hvc,hvm,hve⟩:=hk0.ves.is
 obtain ⟨ra,rcap,hrv,hrc,hrm,hre⟩:=hk0.rdg.is
 subst hvv;subst hrv
 have hS:=(St.start w V hV).nilRow 3 1
 clear hk0 hve
 by_cases hb:aS k []=0
 ·have hok:=dP hb
  have hpos:=hok.pos
  have hn6:=hok.le
  have hr6:=hok.rdl
  cases hst:Go.Wg.settle k (aN k aC) with
  | none =>
   have hcan:can k (aN k aC)=true:=by unfold can;rw [hst];rfl
   have hC:ac0 k=(ru k k.rdg.length,0):=by unfold ac0;rw [if_pos hb,hst];rfl
   rw [hC]
   simp only
   have hs:=gG k aC
   have hls:(dJ (aN k aC)).length=18:=dG hs
   have hlo:=QU k hok aC
   have hhi:∀ i,((aN k aC).aP i).2≤100:=fun i=>Int.le_trans (adD hok aC i) (by decide)
   have HT0:ru k 0=[]:=rfl
   have HU:∀ i,ru k (i+1)=if ac2 (k.less i) (aN (k.less i) aC) k.n=ac2 k (aN k aC) k.n∧ac3 (k.less i) (aN (k.less i) aC) k.n=ac3 k (aN k aC) k.n then ru k i ++ [(i:Int)] else ru k i:=fun _=>rfl
   have HM:∀ (V':View) p,jh V' p k→∀ w,V'.In w→Calls Tryd.prog 83 #[ptr p] w fun r w'=>r=.returned (.agg (dJ (aN k aC)).toArray)∧Kp w w':=fun V' p hcel w hV=>y8 V' p k hcel hok hcan w hV
   have HB:∀ (V':View) p,jh V' p k→GV V'→∀ w,V'.In w→Calls Tryd.prog 113 #[ptr p,.agg (dJ (aN k aC)).toArray] w fun r w'=>r=.returned (.tuple #[.agg (pY (ac2 k (aN k aC) k.n)).toArray,.agg (pY (ac3 k (aN k aC) k.n)).toArray])∧Kp w w':=fun V' p hcel hG w hV=>adA V' p k hcel hG _ hs hlo hhi w hV
   have hw0:=ac9 k (aN k aC) k.n
   have hl0:=ac7 k (aN k aC) k.n
   generalize ac2 k (aN k aC) k.n=W0 at HU HB hw0
   generalize ac3 k (aN k aC) k.n=L0 at HU HB hl0
   generalize aN k aC=s at HM HB hls
   have hW0:(pY W0).length=12:=by rw [eU,hw0]
   have hL0:(pY L0).length=12:=by rw [eU,hl0]
   have hoW:=ac5 W0
   have hoL:=ac5 L0
   clear hcan hst hlo hhi hs
   replace hC:=aj hC;replace hb:=aj hb;replace HT0:=aj HT0;replace HU:=aj HU;replace HM:=aj HM;replace HB:=aj HB
   go_enter_defers Tryd.func73,Tryd.ntmps73
   go_wp2_with (first | (first | ((first | ((with_reducible refine gL ?_);first | refine gY hS rfl rfl rfl ?_ | refine lW hS rfl rfl rfl ?_ | refine nC hS rfl rfl rfl ?_) | ((with_reducible refine gS ?_);first | refine pX hS rfl rfl rfl ?_ | refine bQ hS rfl rfl rfl ?_));refine ⟨_,zd,?_⟩;clear hS;(try clear w');refine zF ?_;intro w' hS;(try simp only [sE] at hS)) | ((with_reducible refine gB ?_);refine iK 1 rfl hS rfl rfl rfl ?_;refine ⟨_,za,?_⟩;clear hS;(try clear w');intro b1;refine zF ?_;intro w' hS) | ((with_reducible refine gA ?_);refine aT 3 rfl hS rfl rfl ?_;clear hS;(try clear w');intro b3;refine zF ?_;intro w' hS) | ((with_reducible refine gA ?_);refine aT 5 rfl hS rfl rfl ?_;clear hS;(try clear w');intro b5;refine zF ?_;intro w' hS) | ((with_reducible refine gA ?_);refine aT 6 rfl hS rfl rfl ?_;clear hS;(try clear w');intro b6;refine zF ?_;intro w' hS)) |
    (go_at_call 77;refine zG hS hk pG (by simp) hb.out ?_;clear hS;(try clear w');intro p V' w' D hVV hcel hD hpD hS;have hG':GV V':=hG.mono hVV;obtain ⟨ts,vv',rv',hC'⟩:=id hcel;have hkc:=aee hC' hok hD hpD;have hcr:V'.Range p 0 [vv',rv']:=(fun j v hj=>by rw [Nat.zero_add];(match j,hj with | 0,hj=>cases hj;exact hC'.c0 | 1,hj=>cases hj;exact hC'.c1));have hcr1:V'.Cell p 1 rv':=hC'.c1;have hcrl:([vv',rv']).length=2:=rfl;obtain ⟨ra',rcap',hrv',_⟩:=hC'.rdg.is;subst hrv';clear hC') |
    (go_at_call 83;refine aH hS ⟨_,HM.out V' p hcel _ (St.view hS),?_⟩;clear hS;(try clear w');intro w' hS) |
    (go_at_call 113;refine aH hS ⟨_,HB.out V' p hcel hG' _ (St.view hS),?_⟩;clear hS;(try clear w');intro w' hS))
   have hre':0 < k.rdg.length→∃ g off,ra=some ⟨g,off,none⟩∧∀ j,j < k.rdg.length→V'.Range g (off+j * 4) (k.rdg.getD j default).cells:=fun h=>by
    obtain ⟨g,off,h1,h2⟩:=hre h
    exact ⟨g,off,h1,fun j hj=>(h2 j hj).mono hVV⟩
   have hk':=jf hk hVV
   have hgc:=hB.mono hVV
   have honec:=qB (wO hkc.ves) (wO hkc.rdg)
   have hvo1:=wO hkc.ves
   clear hre hk hB hG hcel hD hpD
   go_loopw [2,33] (fun sv iv wr=>∃ i:Nat,i≤k.rdg.length∧iv=.int .i64 (i:Int)∧sv.oneCell'=true∧St w [] V' [.blk b6 98 (pY L0),.blk b5 98 (pY W0),.blk b3 38 [.int .i64 0],.blk b1 25 [.slice va k.n vcap,.slice ra k.rdg.length rcap],.row sv 3 1 (ru k i).length (aV (ru k i))] wr) (fun _ iv _=>k.rdg.length - (intOf iv).toNat)
   case atStart=>exact ⟨0,by omega,rfl,rfl,by
    have h2:St w [] V' [.blk b6 98 (pY L0),.blk b5 98 (pY W0),.blk b3 38 [.int .i64 0],.blk b1 25 [.slice va k.n vcap,.slice ra k.rdg.length rcap],.row (.slice none 0 0) 3 1 0 []] w':=hS.aG
    exact h2⟩
   case round =>
    clear hS
    obtain ⟨i,hi,rfl,hone,hS⟩:=hrel
    by_cases hlt:i < k.rdg.length
    ·have h0:(0:Int)≤i:=by omega
     have h1:(i:Int) < k.rdg.length:=by omega
     have hll:=adl k i
     have HT:=HU.out i
     have hok':=adh hok hlt
     have HN:∀ (V2:View) p2,jh V2 p2 (k.less i)→∀ w,V2.In w→Calls Tryd.prog 79 #[ptr p2,.func (.func 80) #[] #[]] w fun r w'=>r=.returned (.agg (dJ (aN (k.less i) aC)).toArray)∧Kp w w':=fun V2 p2 hcel w hV=>zL V2 p2 _ hcel hok' _ rfl w hV
     have HB2:∀ (V2:View) p2,jh V2 p2 (k.less i)→GV V2→∀ w,V2.In w→Calls Tryd.prog 113 #[ptr p2,.agg (dJ (aN (k.less i) aC)).toArray] w fun r w'=>r=.returned (.tuple #[.agg (pY (ac2 (k.less i) (aN (k.less i) aC) k.n)).toArray,.agg (pY (ac3 (k.less i) (aN (k.less i) aC) k.n)).toArray])∧Kp w w' :=
      fun V2 p2 hcel hG w hV=>adA V2 p2 (k.less i) hcel hG _ (gG _ _) (QU _ hok' aC) (fun j=>Int.le_trans (adD hok' aC j) (by decide)) w hV
     have hw1:=ac9 (k.less i) (aN (k.less i) aC) k.n
     have hl1:=ac7 (k.less i) (aN (k.less i) aC) k.n
     have hls1:(dJ (aN (k.less i) aC)).length=18:=dG (gG _ _)
     generalize ac2 (k.less i) (aN (k.less i) aC) k.n=W1 at HT HB2 hw1
     generalize ac3 (k.less i) (aN (k.less i) aC) k.n=L1 at HT HB2 hl1
     generalize aN (k.less i) aC=s1 at HN HB2 hls1
     have hW1:(pY W1).length=12:=by rw [eU,hw1]
     have hL1:(pY L1).length=12:=by rw [eU,hl1]
     have hoW1:=ac5 W1
     have hoL1:=ac5 L1
     generalize ru k i=l at hS hll HT
     have hil:=iD l
     have hnh:(fH (k.rdg.take i)).length=i * 4:=by
      rw [fH,jK _ (fun _=>rfl),List.length_take]
      congr 1
      omega
     have hnt:(fH (k.rdg.drop (i+1))).length=(k.rdg.length - (i+1)) * 4:=by rw [fH,jK _ (fun _=>rfl),List.length_drop]
     have hlen:(k.less i).rdg.length=i+(k.rdg.length - (i+1)):=by
      show (k.rdg.take i ++ k.rdg.drop (i+1)).length=_
      rw [List.length_append,List.length_take,List.length_drop]
      omega
     have hcc:fH (k.less i).rdg=fH (k.rdg.take i) ++ fH (k.rdg.drop (i+1)):=by
      show fH (k.rdg.take i ++ k.rdg.drop (i+1))=_
      simp [fH]
     have hic:i≤rcap:=by omega
     have hi1:i+1≤k.rdg.length:=hlt
     have hhr:=head_range (V:=V') (l:=k.rdg) (i:=i) rfl (by omega) hre'
     have htr:=tail_range (V:=V') (l:=k.rdg) (i:=i+1) rfl hrc hre'
     have hview:∀ (rv':Value) (L:List dF) (w':World),St w [] V' (.row rv' 59 4 (i+(k.rdg.length - (i+1))) (fH (k.rdg.take i) ++ fH (k.rdg.drop (i+1))) :: L) w'→∃ V2,(∀ j o,V' j=some o→V2 j=some o)∧St w [] V2 L w'∧iJ V2 vv' rv' (k.less i):=fun rv' L w' h=>by
      rw [← hlen,← hcc] at h
      exact xG (k:=k) (l:=(k.less i).rdg) h hgN hkc (Nat.le_trans hok'.rdl (by decide))
     obtain ⟨rg,ro,hra,hrr⟩:=hre' (by omega)
     subst hra
     have htake:k.rdg.length - (i+1)=0→iJ V' vv' (.slice (some ⟨rg,ro,none⟩) i i) (k.less i):=fun h=>by
      rw [aea h]
      exact ad6 hkc hk' (by omega) hrr
     have hol:V'.Range rg ro (fH (k.rdg.take i)):=fun j v hj=>by
      have h3:0 < i:=by
       have:=(List.getElem?_eq_some_iff.1 hj).1
       omega
      obtain ⟨b,off,e,h4⟩:=hhr h3
      cases e
      exact h4 j v hj
     clear hhr hcc hlen hrr
     generalize fH (k.rdg.take i)=olds at hol hnh hview
     generalize fH (k.rdg.drop (i+1))=news at htr hnt hview
     obtain ⟨c1,hc1⟩:∃ c1,decide (W1=W0)=c1:=⟨_,rfl⟩
     obtain ⟨c2,hc2⟩:∃ c2,decide (L1=L0)=c2:=⟨_,rfl⟩
     have HT2:ru k (i+1)=if c1 && c2 then l ++ [(i:Int)] else l:=by
      rw [HT,← hc1,← hc2]
      by_cases q1:W1=W0
      ·by_cases q2:L1=L0
       ·rw [if_pos ⟨q1,q2⟩,decide_eq_true q1,decide_eq_true q2];rfl
       ·rw [if_neg fun h=>q2 h.2,decide_eq_false q2,Bool.and_false];rfl
      ·rw [if_neg fun h=>q1 h.1,decide_eq_false q1,Bool.false_and];rfl
     clear HT
     replace HT2:=aj HT2;replace HN:=aj HN;replace HB2:=aj HB2;replace hview:=aj hview;replace htake:=aj htake
     have hgo:∀ (P:Prop),True:=fun _=>trivial
     clear hgo
     by_cases hm:k.rdg.length - (i+1)=0
     case' pos =>
      go_wp2_with (first | ((first | ((with_reducible refine gL ?_);refine zQ hS rfl rfl rfl ?_) | ((with_reducible refine gS ?_);refine bQ hS rfl rfl rfl ?_));refine ⟨_,zd,?_⟩;clear hS;(try clear w');refine zF ?_;intro w' hS;(try simp only [sE] at hS)) | ((with_reducible refine gA ?_);refine aT 8 rfl hS rfl rfl ?_;clear hS;(try clear w');intro b8;refine zF ?_;intro w' hS))
      (refine bF (S:=(St w [] V' [.blk b1 25 [.slice va k.n vcap,.slice (some ⟨rg,ro,none⟩) k.rdg.length rcap]])) [false,false,false,false,false,false,false,false,false,false,false,false,false] rfl (by kernel_rfl) ?_;replace hS:=St.eY hS;(iterate 4 ((first | refine hxp 0 rfl ?_ | refine hxa 1 rfl ?_ | refine hxm 2 rfl ?_ | refine hxm 3 rfl ?_);refine zH ?_));(refine dw 4 rfl (by kernel_rfl) (by kernel_rfl) (by kernel_rfl) (fun _ _ _ _ h=>zX (by kernel_rfl) h) rfl (St.aG hS) ?_;refine ⟨_,adt rfl rfl rfl rfl hic,?_⟩;refine zH ?_);(iterate 4 ((first | refine hxp 5 rfl ?_ | refine hxa 6 rfl ?_ | refine hxm 7 rfl ?_ | refine hxp 8 rfl ?_);refine zH ?_));(refine dw 9 rfl (by kernel_rfl) (by kernel_rfl) (by kernel_rfl) (fun _ _ _ _ h=>zX (by kernel_rfl) h) rfl (St.aG hS) ?_;refine ⟨_,abq (i:=i+1) rfl rfl rfl hi1,?_⟩;refine zH ?_);(refine qJ 10 (by kernel_rfl) rfl rfl ?_;refine ⟨_,_,adp rfl rfl rfl hm _,?_⟩;refine zH ?_;refine ⟨(St.aG hS),?_⟩);(refine hxp 11 rfl ?_;refine zH ?_);((refine jl 12 (by kernel_rfl) rfl hS rfl  rfl rfl ?_;refine ⟨_,zd,?_⟩);clear hS;(try clear w');refine zH ?_;intro w' hS;(try simp only [sE] at hS);refine ⟨(St.aG hS),?_⟩);refine wpAnyH_done (by kernel_rfl) ?_ _)
      obtain ⟨V2,hV2,hS2,hk8⟩:∃ V2,(∀ j o,V' j=some o→V2 j=some o)∧St w [] V2 [.blk b8 25 [vv',.slice (some ⟨rg,ro,none⟩) i i],.blk b6 98 (pY L0),.blk b5 98 (pY W0),.blk b3 38 [.int .i64 0],.blk b1 25 [.slice va k.n vcap,.slice (some ⟨rg,ro,none⟩) k.rdg.length rcap],.row u2 3 1 l.length (aV l)] w'∧iJ V2 vv' (.slice (some ⟨rg,ro,none⟩) i i) (k.less i):=⟨V',fun _ _ h=>h,hS,htake.out hm⟩
      clear hS
      have hS:=hS2
      clear hS2
     case' neg =>
      obtain ⟨tb,to,hte,htv⟩:=htr (by omega)
      go_wp2_with (first | ((first | ((with_reducible refine gL ?_);refine zQ hS rfl rfl rfl ?_) | ((with_reducible refine gS ?_);refine bQ hS rfl rfl rfl ?_));refine ⟨_,zd,?_⟩;clear hS;(try clear w');refine zF ?_;intro w' hS;(try simp only [sE] at hS)) | ((with_reducible refine gA ?_);refine aT 8 rfl hS rfl rfl ?_;clear hS;(try clear w');intro b8;refine zF ?_;intro w' hS))
      (refine bF (S:=(St w [] V' [.blk b1 25 [.slice va k.n vcap,.slice (some ⟨rg,ro,none⟩) k.rdg.length rcap]])) [false,false,false,false,false,false,false,false,false,false,false,false,false] rfl (by kernel_rfl) ?_;replace hS:=St.eY hS;(iterate 4 ((first | refine hxp 0 rfl ?_ | refine hxa 1 rfl ?_ | refine hxm 2 rfl ?_ | refine hxm 3 rfl ?_);refine zH ?_));(refine dw 4 rfl (by kernel_rfl) (by kernel_rfl) (by kernel_rfl) (fun _ _ _ _ h=>zX (by kernel_rfl) h) rfl (St.aG hS) ?_;refine ⟨_,adt rfl rfl rfl rfl hic,?_⟩;refine zH ?_);(iterate 4 ((first | refine hxp 5 rfl ?_ | refine hxa 6 rfl ?_ | refine hxm 7 rfl ?_ | refine hxp 8 rfl ?_);refine zH ?_));(refine dw 9 rfl (by kernel_rfl) (by kernel_rfl) (by kernel_rfl) (fun _ _ _ _ h=>zX (by kernel_rfl) h) rfl (St.aG hS) ?_;refine ⟨_,abq (i:=i+1) rfl rfl rfl hi1,?_⟩;refine zH ?_);(refine qJ 10 (by kernel_rfl) rfl rfl ?_;refine iG (adu (e:=59) (size:=4) hS rfl (by kernel_rfl) hol rfl hnh htv rfl hte hnt (by omega) (by omega)) ?_;clear hS;(try clear w');intro v50 w' hS;refine zH ?_;have hv50:=dY hS v50;refine ⟨(St.aG hS),?_⟩);(refine hxp 11 rfl ?_;refine zH ?_);((refine jl 12 (by kernel_rfl) rfl hS rfl  rfl rfl ?_;refine ⟨_,zd,?_⟩);clear hS;(try clear w');refine zH ?_;intro w' hS;(try simp only [sE] at hS);refine ⟨(St.aG hS),?_⟩);refine wpAnyH_done (by kernel_rfl) ?_ _)
      obtain ⟨V2,hV2,hS2,hk8⟩:=hview.out _ _ _ hS
      clear hS
      have hS:=hS2
      clear hS2
     all_goals (
      have hone8:=qB (wO hk8.ves) (wO hk8.rdg)
      have hG2:GV V2:=hG'.mono hV2
      cases c1
      all_goals (
       cases c2
       all_goals (
        simp only [Bool.and_true,Bool.and_false,Bool.true_and,Bool.false_and,Bool.false_eq_true,if_true,if_false] at HT2
        go_wp2_with (first | (first | ((first | ((with_reducible refine gL ?_);refine lW hS rfl rfl rfl ?_) | ((with_reducible refine gS ?_);refine bQ hS rfl rfl rfl ?_));refine ⟨_,zd,?_⟩;clear hS;(try clear w');refine zF ?_;intro w' hS;(try simp only [sE] at hS)) | (((with_reducible refine gA ?_);refine dM hS rfl rfl ?_);clear hS;(try clear w');intro _;refine zF ?_;intro w' hS)) | ((with_reducible refine uP ?_);refine rE hS rfl rfl ?_;refine ⟨_,zq,zd,?_⟩;clear hS;(try clear w');intro _;refine zF ?_;intro w' hS) | ((with_reducible refine Q5 ?_);refine Ui rfl rfl ?_;refine ⟨_,_,_,_,by exact rfl,by exact rfl,?_⟩;refine eH hS zd ?_;clear hS;(try clear w');intro va w' hS;refine zF ?_;(try simp only [sE] at hS);have hva:=dY hS va) | (go_at_call 114;refine adq hS hk8 hok' ?_;clear hS;(try clear w');intro p2 V3 w' hV3 hcel2 hS;have hG3:GV V3:=hG2.mono hV3) | (go_at_call 79;refine aH hS ⟨_,HN.out V3 p2 hcel2 _ (St.view hS),?_⟩;clear hS;(try clear w');intro w' hS) | (go_at_call 113;refine aH hS ⟨_,HB2.out V3 p2 hcel2 hG3 _ (St.view hS),?_⟩;clear hS;(try clear w');intro w' hS) | ((with_reducible refine aem ?_);refine Gx rfl (adC rfl rfl rfl (by assumption) (by assumption) (by assumption)) ?_;refine zF ?_))
        go_roundw
        case rel =>
         refine ⟨i+1,by omega,by go_num,(by first | exact hva | exact hone),?_⟩
         have hS9:=hS.weaken fun j o h=>hV3 _ _ (hV2 _ _ h)
         rw [HT2.out]
         have ei:aV (l ++ [(i:Int)])=aV l ++ [.int .i64 (i:Int)]:=by simp [aV]
         (try simp only [ei,List.length_append,List.length_cons,List.length_nil,Nat.zero_add])
         exact hS9.aG
        case measure=>simp only [intOf];omega)))
    ·obtain rfl:i=k.rdg.length:=by omega
     go_wp2_with (((with_reducible refine gS ?_);refine pX hS rfl rfl rfl ?_);refine ⟨_,zd,?_⟩;clear hS;(try clear w');refine zF ?_;intro w' hS;(try simp only [sE] at hS))
     (refine iF hS ?_;clear hS;(try clear w');intro w' hS;(try simp only [sE] at hS);refine ⟨_,by exact dA (r1:=.tmp 2) (r2:=.cell 3 38) (by kernel_rfl) (by exact bD rfl) (by exact zA hS rfl zd),?_⟩)
     exact ⟨_,rfl,hS.bM,vK hS (j:=4) rfl⟩
  | some i =>
   have hC:ac0 k=([],9):=by unfold ac0;rw [if_pos hb,hst];rfl
   rw [hC]
   simp only
   replace hC:=aj hC;replace hst:=aj hst;replace hb:=aj hb
   go_enter_defers Tryd.func73,Tryd.ntmps73
   go_wp2_with (first | (first | ((first | ((with_reducible refine gL ?_);first | refine gY hS rfl rfl rfl ?_ | refine lW hS rfl rfl rfl ?_) | ((with_reducible refine gS ?_);refine pX hS rfl rfl rfl ?_));refine ⟨_,zd,?_⟩;clear hS;(try clear w');refine zF ?_;intro w' hS;(try simp only [sE] at hS)) | ((with_reducible refine gB ?_);refine iK 1 rfl hS rfl rfl rfl ?_;refine ⟨_,za,?_⟩;clear hS;(try clear w');intro b1;refine zF ?_;intro w' hS) | ((with_reducible refine gA ?_);refine aT 3 rfl hS rfl rfl ?_;clear hS;(try clear w');intro b3;refine zF ?_;intro w' hS)) |
    (go_at_call 77;refine eG hS hk pG (by simp) hb.out ?_;clear hS;(try clear w');intro p V' w' hVV hcel hS;have hG':GV V':=hG.mono hVV) |
    (go_at_call 83;refine nH hS (zN V' p k hcel hok i hst.out _ (St.view hS)) ?_;clear hS;(try clear w');intro w' hS))
   (refine vJ hS ?_;clear hS;(try clear w');intro w' hS;(try simp only [sE] at hS);refine ⟨_,by exact dA (r1:=.tmp 2) (r2:=.cell 3 38) (by kernel_rfl) (by exact bD rfl) (by exact zA hS rfl zd),?_⟩)
   exact ⟨_,rfl,hS.bM,vK hS (l:=[]) (j:=2) rfl⟩
 ·have hC:ac0 k=([],aS k []):=by unfold ac0;rw [if_neg hb]
  rw [hC]
  simp only
  have hb':(aS k [] == 0)=false:=by rw [beq_eq_false_iff_ne];exact hb
  have hE:Go.RowKit.Hid (∃ e,aS k []=e):=aj ⟨_,rfl⟩
  obtain ⟨e,he⟩:=hE.out
  rw [he] at hb' ⊢
  replace hC:=aj hC;replace he:=aj he
  go_enter_defers Tryd.func73,Tryd.ntmps73
  go_wp2_with (first | (first | ((first | ((with_reducible refine gL ?_);first | refine gY hS rfl rfl rfl ?_ | refine lW hS rfl rfl rfl ?_) | ((with_reducible refine gS ?_);refine pX hS rfl rfl rfl ?_));refine ⟨_,zd,?_⟩;clear hS;(try clear w');refine zF ?_;intro w' hS;(try simp only [sE] at hS)) | ((with_reducible refine gB ?_);refine iK 1 rfl hS rfl rfl rfl ?_;refine ⟨_,za,?_⟩;clear hS;(try clear w');intro b1;refine zF ?_;intro w' hS) | ((with_reducible refine gA ?_);refine aT 3 rfl hS rfl rfl ?_;clear hS;(try clear w');intro b3;refine zF ?_;intro w' hS)) |
   (go_at_call 77;refine fF hS hk pG (by simp) hb ?_;rw [he.out];clear hS;(try clear w');intro w' hS))
  (refine bF (S:=(St w [] V [.blk b3 38 [.int .i64 e]])) [false,false,false] rfl (by kernel_rfl) ?_;replace hS:=St.eY hS;(refine hxa 0 rfl ?_;refine zH ?_);(refine C9 1 (by kernel_rfl) rfl rfl (St.aG hS) ?_;refine ⟨_,zp,?_⟩;refine zH ?_);((refine jl 2 (by kernel_rfl) rfl hS rfl  rfl rfl ?_;refine ⟨_,zd,?_⟩);clear hS;(try clear w');refine zH ?_;intro w' hS;(try simp only [sE] at hS);refine ⟨(St.aG hS),?_⟩);refine wpAnyH_done (by kernel_rfl) ?_ _)
  go_wp2_with (fail)
  (refine iF hS ?_;clear hS;(try clear w');intro w' hS;(try simp only [sE] at hS);refine ⟨_,by exact dA (r1:=.tmp 2) (r2:=.cell 3 38) (by kernel_rfl) (by exact bD rfl) (by exact zA hS rfl zd),?_⟩)
  exact ⟨_,rfl,hS.bM,vK hS (l:=[]) (j:=2) rfl⟩
end Go.Proofs.YtjjmefieegcddaaDoor
namespace Go.Proofs.YtjjmefieegcddaaDoor
open Go.RowKit Go.Wg Go.Mm Go.Wk
open Go Go.Sr Go.Ph Go.Tm Go.Conc
variable {w w0:World} {V:View}
noncomputable def B18:Code:=match Tryd.f18.body with | some c=>c | none=>.skip
noncomputable def E18:Code:=match B18 with | .seq _ (.seq _ (.seq _ (.seq _ r)))=>r | _=>.skip
noncomputable def aeI:Code:=match E18 with | .seq _ (.seq _ (.seq _ r))=>r | _=>.skip
noncomputable def adn:Array Oper:=match aeI with | .seq (.region _ o _) _=>o | _=>#[]
set_option maxRecDepth 40000 in
theorem adN {o:Oper} {ρ:Operand→Value} {x y:Operand} {t:TypeId} (ho:o.op=.binOp .eql 59 x y t) {a b:je} {c:Bool} (hx:ρ x=.agg a.cells.toArray) (hy:ρ y=.agg b.cells.toArray) (hc:decide (a=b)=c) (w:World) :
  (execOp ρ o).run Tryd.prog w=.ok (.value (.bool c)) w:=by
 subst hc
 obtain ⟨a0,a1,a2,a3⟩:=a
 obtain ⟨b0,b1,b2,b3⟩:=b
 have hd:decide ((⟨a0,a1,a2,a3⟩:je)=⟨b0,b1,b2,b3⟩)=((a0 == b0) && ((a1 == b1) && ((a2 == b2) && (a3 == b3)))):=by
  rw [Bool.eq_iff_iff]
  simp
 rw [hd]
 have hg:∀ u v:Array Value,(eqGuard .eql 59 x y (.agg u) (.agg v)).run Tryd.prog w=.ok () w:=fun u v=>by kernel_rfl
 have hu:Tryd.prog.underlying 3=some (.int .i64):=by kernel_rfl
 have p:∀ x y z u:Int,(part 3 (⟨x,y,z,u⟩:je).cells.toArray 0).run Tryd.prog w=.ok (.int .i64 x) w∧(part 3 (⟨x,y,z,u⟩:je).cells.toArray 1).run Tryd.prog w=.ok (.int .i64 y) w∧(part 3 (⟨x,y,z,u⟩:je).cells.toArray 2).run Tryd.prog w=.ok (.int .i64 z) w∧(part 3 (⟨x,y,z,u⟩:je).cells.toArray 3).run Tryd.prog w=.ok (.int .i64 u) w:=fun x y z u=>⟨by kernel_rfl,by kernel_rfl,by kernel_rfl,by kernel_rfl⟩
 obtain ⟨g0,g1,g2,g3⟩:=p a0 a1 a2 a3
 obtain ⟨k0,k1,k2,k3⟩:=p b0 b1 b2 b3
 have e3:∀ x y:Int,(Op.equalIn 9999 3 (.int .i64 x) (.int .i64 y)).run Tryd.prog w=.ok (x == y) w:=fun x y=>run_equalIn_int w 9998 3 .i64 .i64 x y hu
 obtain ⟨f1,f2,f3,f4,hf,n1,n2,n3,n4,t1,t2,t3,t4,o1,o2,o3,o4⟩:∃ f1 f2 f3 f4:Field,(Tryd.prog.fieldsOf 59).toList=[f1,f2,f3,f4]∧f1.name ≠ "_" ∧ f2.name ≠ "_" ∧ f3.name ≠ "_" ∧ f4.name ≠ "_" ∧ f1.type=3∧f2.type=3∧f3.type=3∧f4.type=3∧f1.offset=0∧f2.offset=1∧f3.offset=2∧f4.offset=3:=⟨_,_,_,_,rfl,by decide,by decide,by decide,by decide,rfl,rfl,rfl,rfl,rfl,rfl,rfl,rfl⟩
 have hr:∀ u v:Array Value,(Op.equalIn 10000 59 (.agg u) (.agg v)).run Tryd.prog w=(Op.eqFields 9999 u v [f1,f2,f3,f4]).run Tryd.prog w:=fun u v=>by
  rw [show (10000:Nat)=9999+1 from rfl,run_equalIn_struct w 9999 59 _ _ (by kernel_rfl) (by kernel_rfl),hf]
 unfold execOp
 simp only [ho,hx,hy,Sem.run_bind,hg,Result.andThen_ok,run_eql_struct,hr,Op.eqFields,Sem.run_ite,n1,n2,n3,n4,t1,t2,t3,t4,o1,o2,o3,o4,g0,g1,g2,g3,k0,k1,k2,k3,e3,ne_eq,not_false_eq_true,if_true]
 generalize (a0 == b0)=c0
 generalize (a1 == b1)=c1
 generalize (a2 == b2)=c2
 generalize (a3 == b3)=c3
 cases c0
 ·rfl
 cases c1
 ·rfl
 cases c2
 ·rfl
 cases c3 <;> rfl
theorem adS {o:Oper} {ρ:Operand→Value} {x y:Operand} {t:TypeId} (ho:o.op=.binOp .neq 3 x y t) {a b:Int} {c:Bool} (hx:ρ x=.int .i64 a) (hy:ρ y=.int .i64 b) (hc:(a != b)=c) (w:World) :
  (execOp ρ o).run Tryd.prog w=.ok (.value (.bool c)) w:=by
 subst hc
 unfold execOp
 simp only [ho,hx,hy]
 kernel_rfl
theorem adJ {X:List Nat} {L:List dF} {vv rv xv sv:Value} {b:Bool} {R:Ending→World→Prop} (hS:St w0 X V L w)
  (hc:∀ w,V.In w→Calls Tryd.prog 65 #[.agg #[vv,rv],.agg #[xv,sv],.bool true] w fun e w'=>e=.returned (.bool b)∧Kp w w') (h:∀ w',St w0 X V L w'→R (.returned (.bool b)) w'):Calls Tryd.prog 65 #[.agg #[vv,rv],.agg #[xv,sv],.bool true] w R :=
 aH hS ⟨_,hc _ hS.view,h⟩
theorem adU {vv rv xv sv:Value} {k:Wk} {i:Nat} (hB:Bs V) (hk:iJ V vv rv k) (hok:k.Ok) (hi:i < k.rdg.length) (hx:iJ V xv sv (k.less i)) {w1:Nat→Nat} (h0:Hu k (aN k aC) w1) (hV:V.In w) :
  Calls Tryd.prog 65 #[.agg #[vv,rv],.agg #[xv,sv],.bool true] w fun e w'=>e=.returned (.bool (adi k (k.less i)))∧Kp w w':=by
 have hok':=adh hok hi
 have h1:=ad5 hok hi h0
 have h:=ad4 (w:=w) hB hk hx hok.le (A:=aO k (aN k aC)) (B:=aO (k.less i) (aN (k.less i) aC)) (C:=ac1 k (aN k aC)) (D:=ac1 (k.less i) (aN (k.less i) aC))
  (fun v hv=>uj hok h0 hv) (fun v hv=>uj hok' h1 hv) (fun v hv=>adQ hok h0 hv) (fun v hv=>adQ hok' h1 hv) hV
 have e:decide (∀ v,v < k.n→aO k (aN k aC) v=aO (k.less i) (aN (k.less i) aC) v∧ac1 k (aN k aC) v=ac1 (k.less i) (aN (k.less i) aC) v)=adi k (k.less i):=by
  rw [Bool.eq_iff_iff,decide_eq_true_eq,adB hok.le]
  exact ⟨fun h v hv=>⟨(h v hv).1.symm,(h v hv).2.symm⟩,fun h v hv=>⟨(h v hv).1.symm,(h v hv).2.symm⟩⟩
 rw [e] at h
 exact h
theorem adV {k:Wk} (hok:k.Ok) {w:Nat→Nat} (h:Hu k (aN k aC) w):ac0 k=(ru k k.rdg.length,0):=by
 unfold ac0
 rw [if_pos (G7 hok [] (fun n hn=>nomatch hn)),if_pos (Qu hok h)]
set_option maxRecDepth 40000 in
theorem adF {k:Wk} {vv rv lv v3:Value} {b4:Nat} (hB:Bs V) (hg:Go.Wg.gN≤w0.heap.size) (hk:iJ V vv rv k) (hok:k.Ok) (hr4:V.Range b4 0 [vv,rv]) {w1:Nat→Nat} (h0:Hu k (aN k aC) w1) (w:World) (hS:St w0 [] V [] w) (u1 u2 u5 u6 u7 u8 u9 u10 u11 u12 u13 u14 u15 u16 u17 u18 u19 u20 u21 u22 u23 u24 u25 u26 u27 u28 u29 u30 u31 u32 u33 u34 u35 u36 u37 u38 u39 u40 u41 u42 u43 u44 u45 u46 u47 u48 u49 u50 u51 u52 u53 u54 u55 u56 u57 u58 u59 u60 u61 u62 u63 u64 u65 u66 u67 u68 u69 u70 u71 u72 u73 u74 u75 u76 u77 u78 u79 u80 u81 u82 u83 u84 u85 u86 u87 u88 u89 u90 u91 u92 u93:Value) :
  fA Tryd.prog [.inRegion adn [0,1],.code .ret] (Y6 94 w0) [.code E18] ⟨#[lv,u1,u2,v3,.pointer (some ⟨b4,0,none⟩),u5,u6,u7,u8,u9,u10,u11,u12,u13,u14,u15,u16,u17,u18,u19,u20,u21,u22,u23,u24,u25,u26,u27,u28,u29,u30,u31,u32,u33,u34,u35,u36,u37,u38,u39,u40,u41,u42,u43,u44,u45,u46,u47,u48,u49,u50,u51,u52,u53,u54,u55,u56,u57,u58,u59,u60,u61,u62,u63,u64,u65,u66,u67,u68,u69,u70,u71,u72,u73,u74,u75,u76,u77,u78,u79,u80,u81,u82,u83,u84,u85,u86,u87,u88,u89,u90,u91,u92,u93],[]⟩ w:=by
 have hk0:=hk
 obtain ⟨va,vcap,hvv,hvc,hvm,hve⟩:=hk0.ves.is
 obtain ⟨ra,rcap,hrv,hrc,hrm,hre⟩:=hk0.rdg.is
 subst hvv;subst hrv
 clear hk0 hve
 have hr4':([Value.slice va k.n vcap,.slice ra k.rdg.length rcap]).length=2:=rfl
 have hc4:V.Cell b4 1 (.slice ra k.rdg.length rcap):=hr4 1 _ rfl
 have hr6:=hok.rdl
 have hone4:∀ u∈[Value.slice va k.n vcap,.slice ra k.rdg.length rcap],u.oneCell'=true:=qB rfl rfl
 have hUV:=adV hok h0
 have hUO:=fun (w:World) (hwg:Go.Wg.gN≤w.heap.size) (hV:V.In w)=>adY (w:=w) _ _ k hk hB hwg hV
 rw [hUV] at hUO
 have hmem:=fun (i:Nat)=>adT k i k.rdg.length
 have hlen:=adl k k.rdg.length
 have htw:=fun i j (hi:i < k.rdg.length) (hj:j < k.rdg.length) (hij:j≠i) he=>ady hok hi hj hij he
 generalize ru k k.rdg.length=gl at hUO hmem hlen
 clear hUV
 replace hmem:=aj hmem;replace htw:=aj htw
 refine au (aA ?_)
 go_wp2_with (first | (((with_reducible refine gL ?_);refine zQ hS rfl rfl rfl ?_);refine ⟨_,zd,?_⟩;clear hS;(try clear w');refine zF ?_;intro w' hS) | (go_at_call 73;refine xZ hS (hUO _ (Nat.le_trans hg hS.size) (St.view hS)) ?_;clear hS;(try clear w');intro V1 v1 w' hV1 hv1 hone1 hS))
 clear hUO
 have hB1:=hB.mono hV1
 have hk1:=jf hk hV1
 have hr41:=hr4.mono hV1
 have hc41:V1.Cell b4 1 (.slice ra k.rdg.length rcap):=hr41 1 _ rfl
 have hre1:0 < k.rdg.length→∃ g off,ra=some ⟨g,off,none⟩∧∀ j,j < k.rdg.length→V1.Range g (off+j * 4) (k.rdg.getD j default).cells:=fun h=>by
  obtain ⟨g,off,h1,h2⟩:=hre h
  exact ⟨g,off,h1,fun j hj=>(h2 j hj).mono hV1⟩
 have hvl:gl.length≤100:=by omega
 clear hB hk hr4 hc4 hre hlen
 refine au (aA ?_)
 go_wp2_with (fail)
 refine au (aA ?_)
 go_wp2_with (fail)
 go_loopw [9] (fun iv wr=>∃ i:Nat,i≤k.rdg.length∧iv=.int .i64 (i:Int)∧St w0 [] V1 [] wr) (fun iv _=>k.rdg.length - (intOf iv).toNat)
 case atStart=>exact ⟨0,by omega,rfl,hS.aG⟩
 case round =>
  clear hS
  obtain ⟨i,hi,rfl,hS⟩:=hrel
  have h0i:(0:Int)≤i:=by omega
  by_cases hlt:i < k.rdg.length
  ·have hlt':(i:Int) < k.rdg.length:=by omega
   obtain ⟨rg,ro,hra,hrr⟩:=hre1 (by omega)
   subst hra
   have hws:=fun (V2:View) (hV2:∀ j o,V1 j=some o→V2 j=some o) xv sv (hx:iJ V2 xv sv (k.less i)) w (hV:V2.In w)=>adU (w:=w) (hB1.mono hV2) (jf hk1 hV2) hok hlt hx h0 hV
   have hwo:=fun w (hV:V1.In w)=>adX (w:=w) hk1 hlt hV
   have hvw:∀ (rv':Value) (L:List dF) (w':World),St w0 [] V1 (.row rv' 59 4 (k.less i).rdg.length (fH (k.less i).rdg) :: L) w'→∃ V2,(∀ j o,V1 j=some o→V2 j=some o)∧St w0 [] V2 L w'∧iJ V2 (.slice va k.n vcap) rv' (k.less i):=fun _ _ _ h=>xG (k:=k) (l:=(k.less i).rdg) h hg hk1 (Nat.le_trans (adh hok hlt).rdl (by decide))
   have hmi:=hmem.out i
   have hti:=fun j (hj:j < k.rdg.length) (hij:j≠i) he=>htw.out i j hlt hj hij he
   have hrri:=hrr i hlt
   have hril:((k.rdg.getD i default).cells).length=4:=rfl
   generalize hsb:adi k (k.less i)=sb at hws hmi hti
   have hmi':((i:Int)∈gl)↔sb=true:=by rw [hmi];exact ⟨fun h=>h.2,fun h=>⟨hlt,h⟩⟩
   clear hmi hsb
   replace hws:=aj hws;replace hwo:=aj hwo;replace hvw:=aj hvw;replace hti:=aj hti;replace hrr:=aj hrr
   obtain ⟨ri,hri⟩:∃ ri,k.rdg.getD i default=ri:=⟨_,rfl⟩
   rw [hri] at hrri hril
   have hti2:∀ j,j < k.rdg.length→j≠i→k.rdg.getD j default=ri→sb=true:=fun j hj hij he=>hti.out j hj hij (by rw [he,hri])
   clear hti hri
   replace hti2:=aj hti2
   cases sb
   all_goals (
    (first | (have hm:(i:Int)∈gl:=hmi'.2 rfl) | (have hm:¬ (i:Int)∈gl:=fun h=>nomatch hmi'.1 h))
    clear hmi'
    go_wp2_with (first | (((with_reducible refine gL ?_);refine nC hS rfl rfl rfl ?_);refine ⟨_,zd,?_⟩;clear hS;(try clear w');refine zF ?_;intro w' hS) | (go_at_call 37;refine (aek hv1 hvl _ (St.view hS)).mono ?_;rintro _ w1 ⟨x,rfl,hx,hkp⟩;replace hS:=hS.kp hkp;clear hkp;(first | (have hx':0≤x:=hx.2 hm) | (have hx':¬ 0≤x:=(fun h=>hm (hx.1 h))));clear hx))
    (refine bF (S:=(St w0 [] V1 [])) [false,false,false,false,false,false,false] rfl (by kernel_rfl) ?_;replace hS:=St.eY hS;(iterate 4 ((first | refine hxm 0 rfl ?_ | refine hxd 1 rfl ?_ | refine hxd 2 rfl ?_ | refine hxm 3 rfl ?_);refine zH ?_));(refine oZ 4 (by kernel_rfl) rfl rfl ⟨_,_,zo,?_⟩;refine (hwo.out _ (St.view hS)).mono ?_;rintro _ w2 ⟨rv',rfl,hS1⟩;have hS2:=hS.Nq hS1;simp only [List.cons_append,List.nil_append] at hS2;obtain ⟨V2,hV2,hS3,hk2⟩:=hvw.out _ _ _ hS2;clear hS hS1 hS2;(try clear w');have hS:=hS3;clear hS3;have hone2:=qB (wO hk2.ves) (wO hk2.rdg);refine ⟨_,rfl,?_⟩;refine zH ?_;refine ⟨(hS.weaken hV2).aG,?_⟩);(refine oZ 5 (by kernel_rfl) rfl rfl ⟨_,_,zo,?_⟩;refine adJ hS (fun w hV=>hws.out V2 hV2 _ _ hk2 w hV) ?_;clear hS;(try clear w');intro w' hS;replace hS:=hS.weaken hV2;refine ⟨_,rfl,?_⟩;refine zH ?_;refine ⟨(St.aG hS),?_⟩);(refine hxp 6 rfl ?_;refine zH ?_);refine wpAnyH_done (by kernel_rfl) ?_ _)
    go_wp2_with (fail)
    go_loopw [11] (fun iv wr=>∃ q:Nat,q≤k.rdg.length∧iv=.int .i64 (q:Int)∧St w0 [] V1 [] wr) (fun iv _=>k.rdg.length - (intOf iv).toNat)
    case atStart=>exact ⟨0,by omega,rfl,hS.aG⟩
    case round =>
     clear hS
     obtain ⟨q,hq,rfl,hS⟩:=hrel
     have h0q:(0:Int)≤q:=by omega
     by_cases hql:q < k.rdg.length
     ·have hql':(q:Int) < k.rdg.length:=by omega
      have hrrq:=hrr.out q hql
      have hrql:((k.rdg.getD q default).cells).length=4:=rfl
      have htq:=hti2.out q hql
      generalize k.rdg.getD q default=rq at hrrq hrql htq
      by_cases hqi:q=i
      ·subst hqi
       clear htq
       go_wp2_with (((with_reducible refine gL ?_);refine nC hS rfl rfl rfl ?_);refine ⟨_,zd,?_⟩;clear hS;(try clear w');refine zF ?_;intro w' hS)
       (refine bF (S:=(St w0 [] V1 [])) [false,false,false,false,false,false,false,false,false,false,false,false,false,false,false,false,false,false,false,false] rfl (by kernel_rfl) ?_;replace hS:=St.eY hS;(iterate 4 ((first | refine hxm 0 rfl ?_ | refine hxm 1 rfl ?_ | refine hxp 2 rfl ?_ | refine hxm 3 rfl ?_);refine zH ?_));(refine acA 4 rfl (by kernel_rfl) (by kernel_rfl) (by kernel_rfl) (fun _ _ _ h=>nomatch h.1) rfl (St.aG hS) ?_;refine zH ?_);(refine acA 5 rfl (by kernel_rfl) (by kernel_rfl) (by kernel_rfl) (fun _ _ _ h=>nomatch h.1) rfl (St.aG hS) ?_;refine zH ?_);(refine acA 6 rfl (by kernel_rfl) (by kernel_rfl) (by kernel_rfl) (fun _ _ _ h=>nomatch h.1) rfl (St.aG hS) ?_;refine zH ?_);(refine acA 7 rfl (by kernel_rfl) (by kernel_rfl) (by kernel_rfl) (fun _ _ _ h=>nomatch h.1) rfl (St.aG hS) ?_;refine zH ?_);(refine acA 8 rfl (by kernel_rfl) (by kernel_rfl) (by kernel_rfl) (fun _ _ _ h=>nomatch h.1) rfl (St.aG hS) ?_;refine zH ?_);(refine acA 9 rfl (by kernel_rfl) (by kernel_rfl) (by kernel_rfl) (fun _ _ _ h=>nomatch h.1) rfl (St.aG hS) ?_;refine zH ?_);(refine acA 10 rfl (by kernel_rfl) (by kernel_rfl) (by kernel_rfl) (fun _ _ _ h=>nomatch h.1) rfl (St.aG hS) ?_;refine zH ?_);(refine acA 11 rfl (by kernel_rfl) (by kernel_rfl) (by kernel_rfl) (fun _ _ _ h=>nomatch h.1) rfl (St.aG hS) ?_;refine zH ?_);(refine acA 12 rfl (by kernel_rfl) (by kernel_rfl) (by kernel_rfl) (fun _ _ _ h=>nomatch h.1) rfl (St.aG hS) ?_;refine zH ?_);(refine acA 13 rfl (by kernel_rfl) (by kernel_rfl) (by kernel_rfl) (fun _ _ _ h=>nomatch h.1) rfl (St.aG hS) ?_;refine zH ?_);(refine acA 14 rfl (by kernel_rfl) (by kernel_rfl) (by kernel_rfl) (fun _ _ _ h=>nomatch h.1) rfl (St.aG hS) ?_;refine zH ?_);(iterate 2 ((first | refine hxp 15 rfl ?_ | refine hxm 16 rfl ?_);refine zH ?_));(refine acA 17 rfl (by kernel_rfl) (by kernel_rfl) (by kernel_rfl) (fun _ _ _ h=>nomatch h.1) rfl (St.aG hS) ?_;refine zH ?_);(refine acA 18 rfl (by kernel_rfl) (by kernel_rfl) (by kernel_rfl) (fun _ _ _ h=>nomatch h.1) rfl (St.aG hS) ?_;refine zH ?_);(refine hxp 19 rfl ?_;refine zH ?_);refine wpAnyH_done (by kernel_rfl) ?_ _)
       go_wp2_with (fail)
       go_roundw
       case rel=>exact ⟨q+1,by omega,by go_num,hS.aG⟩
       case measure=>simp only [intOf];omega
      ·have hqn:((q:Int) != (i:Int))=true:=by rw [bne_iff_ne];omega
       obtain ⟨c,hc⟩:∃ c,decide (rq=ri)=c:=⟨_,rfl⟩
       have hcc:=fun h:c=true=>htq hqi (of_decide_eq_true (hc.trans h))
       clear htq
       cases c with
       | false =>
        clear hcc
        go_wp2_with (((with_reducible refine gL ?_);refine nC hS rfl rfl rfl ?_);refine ⟨_,zd,?_⟩;clear hS;(try clear w');refine zF ?_;intro w' hS)
        (refine bF (S:=(St w0 [] V1 [])) [false,false,false,false,false,false,false,false,false,false,false,false,false,false,false,false,false,false,false,false] rfl (by kernel_rfl) ?_;replace hS:=St.eY hS;(iterate 2 ((first | refine hxm 0 rfl ?_ | refine hxm 1 rfl ?_);refine zH ?_));(refine dw 2 rfl (by kernel_rfl) (by kernel_rfl) (by kernel_rfl) (fun _ _ _ _ h=>nomatch h.1) rfl (St.aG hS) ?_;refine ⟨_,adS rfl rfl rfl hqn,?_⟩;refine zH ?_);(iterate 11 ((first | refine hxm 3 rfl ?_ | refine hxp 4 rfl ?_ | refine hxc 5 rfl ?_ | refine hxm 6 rfl ?_ | refine hxp 7 rfl ?_ | refine hxd 8 rfl ?_ | refine hxp 9 rfl ?_ | refine hxc 10 rfl ?_ | refine hxm 11 rfl ?_ | refine hxp 12 rfl ?_ | refine hxd 13 rfl ?_);refine zH ?_));(refine dw 14 rfl (by kernel_rfl) (by kernel_rfl) (by kernel_rfl) (fun _ _ _ _ h=>nomatch h.1) rfl (St.aG hS) ?_;refine ⟨_,adN rfl rfl rfl hc,?_⟩;refine zH ?_);(iterate 2 ((first | refine hxp 15 rfl ?_ | refine hxm 16 rfl ?_);refine zH ?_));(refine acA 17 rfl (by kernel_rfl) (by kernel_rfl) (by kernel_rfl) (fun _ _ _ h=>nomatch h.1) rfl (St.aG hS) ?_;refine zH ?_);(refine acA 18 rfl (by kernel_rfl) (by kernel_rfl) (by kernel_rfl) (fun _ _ _ h=>nomatch h.1) rfl (St.aG hS) ?_;refine zH ?_);(refine hxp 19 rfl ?_;refine zH ?_);refine wpAnyH_done (by kernel_rfl) ?_ _)
        go_wp2_with (fail)
        go_roundw
        case rel=>exact ⟨q+1,by omega,by go_num,hS.aG⟩
        case measure=>simp only [intOf];omega
       | true =>
        first | (exact Bool.noConfusion (hcc rfl)) | skip
        all_goals (
        clear hcc
        go_wp2_with (((with_reducible refine gL ?_);refine nC hS rfl rfl rfl ?_);refine ⟨_,zd,?_⟩;clear hS;(try clear w');refine zF ?_;intro w' hS)
        (refine bF (S:=(St w0 [] V1 [])) [false,false,false,false,false,false,false,false,false,false,false,false,false,false,false,false,false,false,false,false] rfl (by kernel_rfl) ?_;replace hS:=St.eY hS;(iterate 2 ((first | refine hxm 0 rfl ?_ | refine hxm 1 rfl ?_);refine zH ?_));(refine dw 2 rfl (by kernel_rfl) (by kernel_rfl) (by kernel_rfl) (fun _ _ _ _ h=>nomatch h.1) rfl (St.aG hS) ?_;refine ⟨_,adS rfl rfl rfl hqn,?_⟩;refine zH ?_);(iterate 11 ((first | refine hxm 3 rfl ?_ | refine hxp 4 rfl ?_ | refine hxc 5 rfl ?_ | refine hxm 6 rfl ?_ | refine hxp 7 rfl ?_ | refine hxd 8 rfl ?_ | refine hxp 9 rfl ?_ | refine hxc 10 rfl ?_ | refine hxm 11 rfl ?_ | refine hxp 12 rfl ?_ | refine hxd 13 rfl ?_);refine zH ?_));(refine dw 14 rfl (by kernel_rfl) (by kernel_rfl) (by kernel_rfl) (fun _ _ _ _ h=>nomatch h.1) rfl (St.aG hS) ?_;refine ⟨_,adN rfl rfl rfl hc,?_⟩;refine zH ?_);(iterate 5 ((first | refine hxp 15 rfl ?_ | refine hxm 16 rfl ?_ | refine hxm 17 rfl ?_ | refine hxp 18 rfl ?_ | refine hxp 19 rfl ?_);refine zH ?_));refine wpAnyH_done (by kernel_rfl) ?_ _)
        go_wp2_with (fail)
        go_roundw
        case rel=>exact ⟨q+1,by omega,by go_num,hS.aG⟩
        case measure=>simp only [intOf];omega)
     ·obtain rfl:q=k.rdg.length:=by omega
      go_wp2_with (((with_reducible refine gL ?_);refine nC hS rfl rfl rfl ?_);refine ⟨_,zd,?_⟩;clear hS;(try clear w');refine zF ?_;intro w' hS)
      go_roundw
      case rel=>exact ⟨i+1,by omega,by go_num,hS.aG⟩
      case measure=>simp only [intOf];omega)
  ·obtain rfl:i=k.rdg.length:=by omega
   go_wp2_with (((with_reducible refine gL ?_);refine nC hS rfl rfl rfl ?_);refine ⟨_,zd,?_⟩;clear hS;(try clear w');refine zF ?_;intro w' hS)
   refine au (ig ?_)
   exact bG (tgt:=[.inRegion adn [0,1],.code .ret]) ⟨rfl,rfl,hS.bM⟩
end Go.Proofs.YtjjmefieegcddaaDoor
