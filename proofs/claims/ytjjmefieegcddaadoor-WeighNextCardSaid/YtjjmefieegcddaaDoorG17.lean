/- A part of the proof: W52, W53, W54, W55, W67, W68, W69, W70, W82, T29, S30, S31, W89. -/
import Derived.Test.YtjjmefieegcddaaDoorG16
import Derived.Test.YtjjmefieegcddaaDoorG14
set_option linter.unusedVariables false
set_option linter.unusedSimpArgs false
set_option maxHeartbeats 8000000
set_option maxRecDepth 20000
namespace Go.Proofs.YtjjmefieegcddaaDoor
open Go.RowKit Go.Wg Go.Mm Go.Wk
open Go Go.Sr Go.Ph Go.Tm Go.Conc
theorem yJ {w:World} {b n:Nat} {l:List Nat} (h:jk w b n l) (τ:Nat→Question→Nat) (d:Nat):jk (w.re τ d) b n l:=h.of_heap rfl
theorem Yn {w w':World} {b:Nat} {τ:Nat→Question→Nat} {d:Nat} (h:ni b (w.re τ d) w'):ni b w w':=⟨h.os,h.output,h.size,h.old⟩
theorem Yb {w w':World} {b:Nat} (h:ni b w w') (τ:Nat→Question→Nat) (d:Nat):ni b w (w'.re τ d):=⟨h.os,h.output,h.size,h.old⟩
section
variable {V:View} {w0 w:World} {p:Nat} {k:Wk} {D:List Nat} {b6 b8:Nat} {s:SS} {b:Frame} {cs:List Frame} {Q:Goroutine→World→Prop}
structure N2 (w0:World) (V:View) (b6 b14 mb c:Nat) (r:Int × Int) (l:List Nat) (w:World):Prop where
 n:N1 w0 V b6 w
 r:V.Range b14 0 [.int .i64 r.1,.int .i64 r.2]
 m:∃ cnt,cnt≤c∧jk w mb cnt l
 lm:w0.heap.size≤mb
 vm:V mb=none
 m6:mb≠b6
theorem inner (hX:NX V p k D b8 s) (hok:k.Ok) (hs:s.WF) (hlo:∀ i,0≤(s.aP i).1) (hhi:∀ i,(s.aP i).2≤1000) (err:Int) (he0:0≤err) (he9:err≤9) (i:Nat) (hi:i < k.n) (b14 mb:Nat) (hbf:b.fn=43) (hbk:b.kind=.normal) (v9 v10:Value)
  (hend:∀ w f sh,N1 w0 V b6 w→V.Range b14 0 [.int .i64 (aO k s i).1,.int .i64 (aO k s i).2]→(aO k s i).2+err < sh→ay OC w →
   kU Tryd.prog (G (b.at ⟨kH (.int .i64 err) (ptr b6) (ptr p) (ptr b8) v9 v10 (.int .i64 i) (.int .i64 (qK k s i err)) (.map (some mb)) (ptr b14) (.int .i64 sh) (.int .i64 k.n) (.int .i64 i) f,[dC b6]⟩ iH) cs) w Q) :
  ∀ (m c:Nat),c+m=Ia (aO k s i) err→∀ w f,N2 w0 V b6 b14 mb c (aO k s i) (Kw k s i err ((aO k s i).1 - err) c).1 w→ay OC w →
   kU Tryd.prog (G (b.at ⟨kH (.int .i64 err) (ptr b6) (ptr p) (ptr b8) v9 v10 (.int .i64 i) (.int .i64 (Kw k s i err ((aO k s i).1 - err) c).2) (.map (some mb)) (ptr b14) (.int .i64 ((aO k s i).1 - err+c)) (.int .i64 k.n) (.int .i64 i) f,[dC b6]⟩ iH) cs) w Q:=by
 have hn6:k.n≤6:=hok.le
 obtain ⟨q1,q2,q3,q4⟩:=qE k s i 41 (Nat.le_refl _)
 rw [show bZ k s i 41=aO k s i from rfl] at q1 q2 q3 q4
 have hM:qK k s i err=(Kw k s i err ((aO k s i).1 - err) (Ia (aO k s i) err)).2:=rfl
 have hNx:∀ c:Nat,Kw k s i err ((aO k s i).1 - err) (c+1)=PL k s i err (Kw k s i err ((aO k s i).1 - err) c) ((aO k s i).1 - err+c):=fun c=>rfl
 rw [hM] at hend
 clear hM
 have hCnt:Ia (aO k s i) err=((aO k s i).2+err - ((aO k s i).1 - err)+1).toNat:=rfl
 generalize aO k s i=r at *
 intro m
 induction m with
 | zero =>
  intro c hc w f hN hh
  obtain rfl:c=Ia r err:=by omega
  refine hend w f _ hN.n hN.r ?_ hh
  rw [hCnt]
  omega
 | succ m ih =>
  intro c hc w f hN hh
  have hsh0:-9≤r.1 - err+(c:Int):=by omega
  have hsh:r.1 - err+(c:Int)≤r.2+err:=by omega
  have hnx:=hNx c
  obtain ⟨st,hst⟩:∃ st,Kw k s i err (r.1 - err) c=st:=⟨_,rfl⟩
  rw [hst] at hN hnx ⊢
  generalize he1:r.1 - err+(c:Int)=sh at *
  have he2:r.1 - err+((c+1:Nat):Int)=sh+1:=by omega
  have hx:(s.cu i (jA s i err sh)).WF:=hs.cu (Nat.lt_of_le_of_lt Nat.and_le_right (rG _ _))
  have hxl:(s.cu i (jA s i err sh)).aK i=jA s i err sh:=by
   unfold SS.cu SS.aK
   have:i < s.lim.length:=by rw [hs.lim];omega
   simp [List.getD_eq_getElem?_getD,this]
  refine vI (tgt:=OM) hbf hbk Az (CB b6 rfl) hh (S:=fun a w'=>∃ b16,((∃ f,a=⟨kH (.int .i64 err) (ptr b6) (ptr p) (ptr b8) v9 v10 (.int .i64 i) (.int .i64 st.2) (.map (some mb)) (ptr b14) (.int .i64 sh) (.int .i64 k.n) (.int .i64 i) f,[dC b6]⟩)∧a.tmps[16]? = some (ptr b16))∧St w [] V [.blk b16 100 (dJ (s.cu i (jA s i err sh)))] w')
   (fun a w' τ d ⟨b16,h1,h2⟩=>⟨b16,h1,h2.re1 τ d⟩) (fun τ d=>?_) ?_
  ·refine (Z5 (w:=w.re τ d) hX hs err he0 he9 i hi mb b14 r hN.r q3 q4 sh hsh0 hsh (ptr b6) v9 v10 (.int .i64 st.2) (.int .i64 k.n) (.int .i64 i) f hN.n.vin).mono ?_
   rintro a w' ⟨b16,h1,h2⟩
   exact ⟨b16,h1,h2.re0⟩
  ·rintro a w1 ⟨b16,⟨⟨f1,rfl⟩,h16⟩,hS1⟩ hh1
   have hf16:f1 16=ptr b16:=Option.some.inj h16
   have hkp1:=hS1.bM
   have hN1:=hN.n.step hkp1
   have hb16:=hS1.dR (b:=b16)
   have hl16:w.heap.size≤b16:=(hS1.new (.blk b16 100 (dJ (s.cu i (jA s i err sh)))) (by simp) b16 rfl).elim id (fun h=>nomatch h)
   have h16b6:b16≠b6:=by
    have:=lt_of_heap hN.n.e6
    omega
   obtain ⟨cnt,hcnt,hmap⟩:=hN.m
   have hmap1:jk w1 mb cnt st.1:=hmap.of_heap (hkp1.old mb hmap.lt)
   have h16m:b16≠mb:=by
    have:=hmap.lt
    omega
   obtain ⟨V',hVV,hV16,hVo,hN2⟩:=hN1.more hb16 h16b6 (hS1.off _ (List.mem_cons_self ..) b16 rfl)
   have hX':=hX.mono hVV
   have hr16:V'.Range b16 0 (dJ (s.cu i (jA s i err sh))):=fun j v hj=>⟨_,_,_,hV16,by rw [Nat.zero_add];simpa using hj⟩
   have hV'm:V' mb=none:=(hVo mb (Ne.symm h16m)).trans hN.vm
   have back:∀ {w2:World} {l2:List Nat} {n2:Nat},n2≤c+1→jk w2 mb n2 l2→N1 w0 V' b6 w2→N2 w0 V b6 b14 mb (c+1) r l2 w2:=fun h1 h2 h3 =>
    ⟨⟨h3.kp,fun j u hj=>h3.vin j u (hVV j u hj),h3.e6,h3.n6,hN.n.off⟩,hN.r,⟨_,h1,h2⟩,hN.lm,hN.vm,hN.m6⟩
   have ihc:=ih (c+1) (by omega)
   rw [hnx,he2] at ihc
   have hcase:PL k s i err st sh=if st.1.contains (jA s i err sh) || !can k (s.cu i (jA s i err sh)) then st else (jA s i err sh :: st.1,max st.2 (oQ (dW k (s.cu i (jA s i err sh)) false))):=rfl
   cases hmet:st.1.contains (jA s i err sh) with
   | true =>
    rw [hmet] at hcase
    simp only [Bool.true_or,if_true] at hcase
    rw [hcase] at ihc
    refine vI (tgt:=iH) hbf hbk IK (CB b6 rfl) hh1 (S:=fun a w'=>(∃ f,a=⟨kH (.int .i64 err) (ptr b6) (ptr p) (ptr b8) v9 v10 (.int .i64 i) (.int .i64 st.2) (.map (some mb)) (ptr b14) (.int .i64 (sh+1)) (.int .i64 k.n) (.int .i64 i) f,[dC b6]⟩)∧Kp w1 w')
     (fun a w' τ d h=>⟨h.1,aaw h.2 τ d⟩) (fun τ d=>?_) ?_
    ·refine (UD (w:=w1.re τ d) hX' hx err i hi mb b14 b16 cnt st.1 (yJ hmap1 τ d) hr16 sh hsh0 (by omega) _ _ _ _ _ _ f1 hf16 hN2.vin (by rw [hxl];exact hmet)).mono ?_
     rintro a w' ⟨h1,h2⟩
     exact ⟨h1,uq h2⟩
    ·rintro a w2 ⟨⟨f2,rfl⟩,hk2⟩ hh2
     exact ihc w2 f2 (back (by omega) (hmap1.of_heap (hk2.old mb hmap1.lt)) (hN2.step hk2)) hh2
   | false =>
    cases hcan:can k (s.cu i (jA s i err sh)) with
    | false =>
     rw [hmet,hcan] at hcase
     simp only [Bool.false_or,Bool.not_false,if_true] at hcase
     rw [hcase] at ihc
     refine vI (tgt:=iH) hbf hbk IK (CB b6 rfl) hh1 (S:=fun a w'=>(∃ f,a=⟨kH (.int .i64 err) (ptr b6) (ptr p) (ptr b8) v9 v10 (.int .i64 i) (.int .i64 st.2) (.map (some mb)) (ptr b14) (.int .i64 (sh+1)) (.int .i64 k.n) (.int .i64 i) f,[dC b6]⟩)∧Kp w1 w')
      (fun a w' τ d h=>⟨h.1,aaw h.2 τ d⟩) (fun τ d=>?_) ?_
     ·refine (XY (w:=w1.re τ d) hX' hx err i hi mb b14 b16 cnt st.1 (yJ hmap1 τ d) hr16 sh hsh0 (by omega) _ _ _ _ _ _ f1 hf16 hN2.vin (by rw [hxl];exact hmet) hcan).mono ?_
      rintro a w' ⟨h1,h2⟩
      exact ⟨h1,uq h2⟩
     ·rintro a w2 ⟨⟨f2,rfl⟩,hk2⟩ hh2
      exact ihc w2 f2 (back (by omega) (hmap1.of_heap (hk2.old mb hmap1.lt)) (hN2.step hk2)) hh2
    | true =>
     rw [hmet,hcan] at hcase
     simp only [Bool.false_or,Bool.not_true,Bool.false_eq_true,if_false] at hcase
     rw [hcase] at ihc
     simp only at ihc
     have hcb:cnt < 1000000:=by omega
     refine vI (tgt:=Ep [3,4,5,6]) hbf hbk IK (CB b6 rfl) hh1 (S:=fun a w'=>((∃ f,a=⟨kH (.int .i64 err) (ptr b6) (ptr p) (ptr b8) v9 v10 (.int .i64 i) (.int .i64 st.2) (.map (some mb)) (ptr b14) (.int .i64 sh) (.int .i64 k.n) (.int .i64 i) f,[dC b6]⟩) ∧
       a.tmps[90]? = some (.int .i64 st.2)∧a.tmps[91]? = some (ptr p)∧a.tmps[92]? = some (.agg (dJ (s.cu i (jA s i err sh))).toArray))∧jk w' mb (cnt+1) ((s.cu i (jA s i err sh)).aK i :: st.1)∧ni mb w1 w')
      (fun a w' τ d h=>⟨h.1,yJ h.2.1 τ d,Yb h.2.2 τ d⟩) (fun τ d=>?_) ?_
     ·refine (U8 (w:=w1.re τ d) hX' hx err i hi mb b14 b16 cnt st.1 (yJ hmap1 τ d) hr16 sh hsh0 (by omega) _ _ _ _ _ _ f1 hf16 hN2.vin (by rw [hxl];exact hmet) hcan hcb hV'm).mono ?_
      rintro a w' ⟨h1,h2,h3⟩
      exact ⟨h1,h2,Yn h3⟩
     ·rintro a w2 ⟨⟨⟨f2,rfl⟩,h90,h91,h92⟩,hm2,hk2⟩ hh2
      rw [hxl] at hm2
      have hN3:=hN2.but hk2 hN.lm hN.m6 hV'm
      have e91:f2 91=ptr p:=Option.some.inj h91
      have e92:f2 92=.agg (dJ (s.cu i (jA s i err sh))).toArray:=Option.some.inj h92
      have e90:f2 90=.int .i64 st.2:=Option.some.inj h90
      refine Qn hX' hok hx hlo hhi hN3.vin hh2 hbk (o:=YE[3]!) (y:=.tmp 91) (z:=.tmp 92) (d:=93) rfl rfl rfl rfl rfl e91 e92 fun w3 hk3 hh3=>?_
      have hN4:=hN3.step hk3
      have hb:=GH k hn6 (s.cu i (jA s i err sh)) false hlo
      obtain ⟨tt,htt⟩:∃ tt,dW k (s.cu i (jA s i err sh)) false=tt:=⟨_,rfl⟩
      rw [htt] at hb ihc ⊢
      have eA:(Act.put ⟨kH (.int .i64 err) (ptr b6) (ptr p) (ptr b8) v9 v10 (.int .i64 i) (.int .i64 st.2) (.map (some mb)) (ptr b14) (.int .i64 sh) (.int .i64 k.n) (.int .i64 i) f2,[dC b6]⟩ (some 93) (aJ tt)) =
        ⟨kH (.int .i64 err) (ptr b6) (ptr p) (ptr b8) v9 v10 (.int .i64 i) (.int .i64 st.2) (.map (some mb)) (ptr b14) (.int .i64 sh) (.int .i64 k.n) (.int .i64 i) (fun j=>if j=93 then aJ tt else f2 j),[dC b6]⟩:=rfl
      rw [eA]
      refine vI (tgt:=iH) hbf hbk (U7 [4,5,6]) (CB b6 rfl) hh3 (S:=fun a w'=>(∃ f,a=⟨kH (.int .i64 err) (ptr b6) (ptr p) (ptr b8) v9 v10 (.int .i64 i) (.int .i64 (max st.2 (oQ tt))) (.map (some mb)) (ptr b14) (.int .i64 (sh+1)) (.int .i64 k.n) (.int .i64 i) f,[dC b6]⟩)∧Kp w3 w')
       (fun a w' τ d h=>⟨h.1,aaw h.2 τ d⟩) (fun τ d=>?_) ?_
      ·refine (aat (w:=w3.re τ d) st.2 sh hsh0 (by omega) _ _ _ _ _ _ _ _ _ _ _ (fun j=>if j=93 then aJ tt else f2 j) tt (hb.mono (by omega)) (by simp) (by simp [e90]) hN4.vin).mono ?_
       rintro a w' ⟨h1,h2⟩
       exact ⟨h1,uq h2⟩
      ·rintro a w4 ⟨⟨f4,rfl⟩,hk4⟩ hh4
       have hm3:=hm2.of_heap (hk3.old mb hm2.lt)
       exact ihc w4 f4 (back (by omega) (hm3.of_heap (hk4.old mb hm3.lt)) (hN4.step hk4)) hh4
end
section
variable {V:View} {w0 w:World} {p:Nat} {k:Wk} {D:List Nat} {b6 b8:Nat} {s:SS} {b:Frame} {cs:List Frame} {Q:Goroutine→World→Prop}
theorem outer (hX:NX V p k D b8 s) (hok:k.Ok) (hs:s.WF) (hlo:∀ i,0≤(s.aP i).1) (hhi:∀ i,(s.aP i).2≤1000) (err:Int) (he0:0≤err) (he9:err≤9) (hbf:b.fn=43) (hbk:b.kind=.normal)
  (hend:∀ w f v11 v12 v13 v14 v15,N1 w0 V b6 w→ay OC w→kU Tryd.prog (G (b.at ⟨kH (.int .i64 err) (ptr b6) (ptr p) (ptr b8) (.int .i64 (fM k s err k.n).1) (.int .i64 (fM k s err k.n).2) v11 v12 v13 v14 v15 (.int .i64 k.n) (.int .i64 k.n) f,[dC b6]⟩ jO) cs) w Q) :
  ∀ (m i:Nat),i+m=k.n→∀ w f v11 v12 v13 v14 v15,N1 w0 V b6 w→ay OC w →
   kU Tryd.prog (G (b.at ⟨kH (.int .i64 err) (ptr b6) (ptr p) (ptr b8) (.int .i64 (fM k s err i).1) (.int .i64 (fM k s err i).2) v11 v12 v13 v14 v15 (.int .i64 k.n) (.int .i64 i) f,[dC b6]⟩ jO) cs) w Q:=by
 have hn6:k.n≤6:=hok.le
 intro m
 induction m with
 | zero =>
  intro i hi w f v11 v12 v13 v14 v15 hN hh
  obtain rfl:i=k.n:=by omega
  exact hend w f v11 v12 v13 v14 v15 hN hh
 | succ m ih =>
  intro i hi w f v11 v12 v13 v14 v15 hN hh
  have hlt:i < k.n:=by omega
  have hwb:=qE k s i 41 (Nat.le_refl _)
  rw [show bZ k s i 41=aO k s i from rfl] at hwb
  have ihc:=ih (i+1) (by omega)
  have hB:fM k s err (i+1)=if qK k s i err < (fM k s err i).2 then ((i:Int),qK k s i err) else fM k s err i:=rfl
  refine vI (tgt:=iH) hbf hbk Ah (CB b6 rfl) hh (S:=fun a w'=>∃ mb b14,(∃ f,a=⟨kH (.int .i64 err) (ptr b6) (ptr p) (ptr b8) (.int .i64 (fM k s err i).1) (.int .i64 (fM k s err i).2) (.int .i64 i) (.int .i64 0) (.map (some mb)) (ptr b14) (.int .i64 ((aO k s i).1 - err)) (.int .i64 k.n) (.int .i64 i) f,[dC b6]⟩) ∧
    Kp w w'∧jk w' mb 0 []∧w.heap.size≤mb∧w.heap.size≤b14∧w'.heap[b14]? = some (.cells #[.int .i64 (aO k s i).1,.int .i64 (aO k s i).2] 27 (0,0)))
   (fun a w' τ d ⟨mb,b14,h1,h2,h3,h4⟩=>⟨mb,b14,h1,aaw h2 τ d,yJ h3 τ d,h4⟩) (fun τ d=>?_) ?_
  ·refine (GK (w:=w.re τ d) hX hs err he0 he9 i hlt (ptr b6) _ _ v11 v12 v13 v14 v15 f hN.vin).mono ?_
   rintro a w' ⟨mb,b14,h1,h2,h3,h4⟩
   exact ⟨mb,b14,h1,uq h2,h3,h4⟩
  ·rintro a w1 ⟨mb,b14,⟨f1,rfl⟩,hk1,hm1,lm,l14,h14⟩ hh1
   have hN1:=hN.step hk1
   have h6lt:=lt_of_heap hN.e6
   have hVn:∀ {j:Nat},w.heap.size≤j→V j=none:=fun {j} hj=>by
    cases hv:V j with
    | none=>rfl
    | some o =>
     have:=lt_of_heap (hN.vin j o hv)
     omega
   have hne:mb≠b14:=by
    rintro rfl
    obtain ⟨es,cl,ho⟩:=hm1.obj
    rw [h14] at ho
    cases ho
   obtain ⟨V2,hVV,hV14,hVo,hN2⟩:=hN1.more h14 (by omega) (hVn l14)
   have hr14:V2.Range b14 0 [.int .i64 (aO k s i).1,.int .i64 (aO k s i).2]:=fun j v hj=>⟨_,_,_,hV14,by rw [Nat.zero_add];simpa using hj⟩
   have hin:=inner (b:=b) (cs:=cs) (Q:=Q) (w0:=w0) (b6:=b6) (hX.mono hVV) hok hs hlo hhi err he0 he9 i hlt b14 mb hbf hbk (.int .i64 (fM k s err i).1) (.int .i64 (fM k s err i).2) (fun w2 f2 sh hN3 hr3 hsh hh2=>?_) (Ia (aO k s i) err) 0 (by omega) w1 f1
    ⟨hN2,hr14,⟨0,Nat.le_refl _,hm1⟩,Nat.le_trans hN.kp.size lm,(hVo mb hne).trans (hVn lm),by omega⟩ hh1
   ·have e0:(aO k s i).1 - err+((0:Nat):Int)=(aO k s i).1 - err:=by omega
    rw [e0] at hin
    exact hin
   ·have hback:N1 w0 V b6 w2→N1 w0 V b6 w2:=id
    have hN4:N1 w0 V b6 w2:=⟨hN3.kp,fun j u hj=>hN3.vin j u (hVV j u hj),hN3.e6,hN3.n6,hN.off⟩
    by_cases hlt':qK k s i err < (fM k s err i).2
    ·rw [if_pos hlt'] at hB
     rw [hB] at ihc
     refine vI (tgt:=jO) hbf hbk Az (CB b6 rfl) hh2 (S:=fun a w'=>(∃ f,a=⟨kH (.int .i64 err) (ptr b6) (ptr p) (ptr b8) (.int .i64 i) (.int .i64 (qK k s i err)) (.int .i64 i) (.int .i64 (qK k s i err)) (.map (some mb)) (ptr b14) (.int .i64 sh) (.int .i64 k.n) (.int .i64 ((i:Int)+1)) f,[dC b6]⟩)∧Kp w2 w')
      (fun a w' τ d h=>⟨h.1,aaw h.2 τ d⟩) (fun τ d=>?_) ?_
     ·refine (YP (w:=w2.re τ d) err _ _ _ sh i k.n b14 _ hr3 hwb.2.2.1 hwb.2.2.2 he0 he9 hsh hlt hn6 hlt' _ _ _ _ f2 hN3.vin).mono ?_
      rintro a w' ⟨h1,h2⟩
      exact ⟨h1,uq h2⟩
     ·rintro a w3 ⟨⟨f3,rfl⟩,hk3⟩ hh3
      exact ihc w3 f3 _ _ _ _ _ (hN4.step hk3) hh3
    ·rw [if_neg hlt'] at hB
     rw [hB] at ihc
     refine vI (tgt:=jO) hbf hbk Az (CB b6 rfl) hh2 (S:=fun a w'=>(∃ f,a=⟨kH (.int .i64 err) (ptr b6) (ptr p) (ptr b8) (.int .i64 (fM k s err i).1) (.int .i64 (fM k s err i).2) (.int .i64 i) (.int .i64 (qK k s i err)) (.map (some mb)) (ptr b14) (.int .i64 sh) (.int .i64 k.n) (.int .i64 ((i:Int)+1)) f,[dC b6]⟩)∧Kp w2 w')
      (fun a w' τ d h=>⟨h.1,aaw h.2 τ d⟩) (fun τ d=>?_) ?_
     ·refine (ZK (w:=w2.re τ d) err _ _ _ sh i k.n b14 _ hr3 hwb.2.2.1 hwb.2.2.2 he0 he9 hsh hlt hn6 hlt' _ _ _ _ f2 hN3.vin).mono ?_
      rintro a w' ⟨h1,h2⟩
      exact ⟨h1,uq h2⟩
     ·rintro a w3 ⟨⟨f3,rfl⟩,hk3⟩ hh3
      exact ihc w3 f3 _ _ _ _ _ (hN4.step hk3) hh3
theorem KU {a:Act} {x y e:Int} {k0:List Item} (hk0:k0.all qy=true) (hbf:b.fn=43) (hbk:b.kind=.normal) (hh:ay OC w) (h4:a.tmps[4]? = some (.int .i64 x)) (h5:a.tmps[5]? = some (.int .i64 y)) (h6:a.tmps[6]? = some (ptr b6)) (hd:a.defers=[dC b6])
  (hS:St w0 [] V [.blk b6 38 [.int .i64 e]] w) :
  kU Tryd.prog (G (b.at a (.code .ret :: k0)) cs) w (fun a' w'=>∃ e' fr,a'=G fr cs∧(e'=.returned (.tuple #[.int .i64 x,.int .i64 y,.int .i64 e])∧Kp w0 w')∧fr.fn=43∧fr.leaving Tryd.prog w' e'∧e'≠.outgrown∧ay OC w'):=by
 obtain ⟨tm,df⟩:=a
 simp only at h4 h5 h6 hd
 subst hd
 refine CV ?_
 refine Bq (fr:={ b.at ⟨tm,[dC b6]⟩ (.code .ret :: k0) with mode:=.returning }) (R:=fun e' w'=>e'=.returned (.tuple #[.int .i64 x,.int .i64 y,.int .i64 e])∧Kp w0 w') lT xM (fun w h=>nomatch h.1) (fn:=Tryd.f43) ⟨⟨fun z hz=>?_,CB b6 (a:=⟨tm,[dC b6]⟩) rfl,.inl hbk⟩,rfl,hbk,hbf⟩ Tryd.func43 hh rfl (fun τ d=>?_) cs
 ·rcases List.mem_cons.1 (show z∈Item.code .ret :: k0 from hz) with rfl | hz
  ·exact (show bY true .ret=true from rfl)
  ·exact Gz hk0 z hz
 ·have g:∀ {j:Nat} {v:Value},tm[j]? = some v→tm.getD j undef=v:=fun h=>by
   rw [Array.getD_eq_getD_getElem?,h]
   rfl
  exact iF (R:=fun e' w'=>e'=.returned (.tuple #[.int .i64 x,.int .i64 y,.int .i64 e])∧Kp w0 w') (hS.re1 τ d) fun w3 hS3=>⟨_,results3 (r1:=.tmp 4) (r2:=.tmp 5) (r3:=.cell 6 38) (by kernel_rfl) (yS (g h4)) (yS (g h5)) (AO hS3 0 (g h6) rfl (by kernel_rfl) rfl),rfl,hS3.bM⟩
end
variable {w:World} {V:View}
theorem Vu (vv rv:Value) (k:Wk) (hk:iJ V vv rv k) (hG:GV V) (hV:V.In w) (err:Int) (hbs:¬ (aS k []=0∧fQ err 0 9=false∧Go.Wg.settle k (aN k aC)=none)) :
  Calls Tryd.prog 43 #[.agg #[vv,rv],.int .i64 err] w fun r w'=>r=.returned (.tuple #[.int .i64 (oW k err).1.1,.int .i64 (oW k err).1.2,.int .i64 (oW k err).2])∧Kp w w':=by
 have hk0:=hk
 obtain ⟨va,vcap,rfl,hvc,hvm,hve⟩:=hk0.ves.is
 obtain ⟨ra,rcap,rfl,hrc,hrm,hre⟩:=hk0.rdg.is
 have hS:=St.start w V hV
 clear hk0 hve hre
 by_cases hb:aS k []=0
 ·have hok:=dP hb
  cases ho:fQ err 0 9 with
  | true =>
   have hC:oW k err=((0,0),1):=by
    unfold oW
    rw [if_neg (by simp [hb]),ho]
    rfl
   rw [hC]
   simp only
   replace hC:=aj hC;replace hb:=aj hb
   clear hbs
   go_enter_defers Tryd.func43,Tryd.ntmps43
   go_wp2_with (first | (first | ((first | ((with_reducible refine gL ?_);first | refine gY hS rfl rfl rfl ?_ | refine lW hS rfl rfl rfl ?_) | ((with_reducible refine gS ?_);refine pX hS rfl rfl rfl ?_));refine ⟨_,zd,?_⟩;clear hS;(try clear w');refine zF ?_;intro w' hS;(try simp only [sE] at hS)) | ((with_reducible refine gA ?_);refine aT 6 rfl hS rfl rfl ?_;clear hS;(try clear w');intro b6;refine zF ?_;intro w' hS) | (((with_reducible refine gB ?_);refine jQ hS rfl rfl rfl ?_;refine ⟨_,za,?_⟩);clear hS;(try clear w');intro _;refine zF ?_;intro w' hS)) |
    (go_at_call 77;refine eG hS hk pG (by simp) hb.out ?_;clear hS;(try clear w');intro p V' w' hVV hcel hS;have hG':GV V':=hG.mono hVV) |
    (go_at_call 88;refine aH hS ⟨_,fB _ _ _ _,?_⟩;rw [ho];clear hS;(try clear w');intro w' hS))
   (refine iF hS ?_;clear hS;(try clear w');intro w' hS;(try simp only [sE] at hS);refine ⟨_,by exact results3 (r1:=.tmp 4) (r2:=.tmp 5) (r3:=.cell 6 38) (by kernel_rfl) (by exact bD rfl) (by exact bD rfl) (by exact zA hS rfl zd),?_⟩)
   exact ⟨rfl,hS.bM⟩
  | false =>
   cases hst:Go.Wg.settle k (aN k aC) with
   | none=>exact (hbs ⟨hb,ho,hst⟩).elim
   | some i =>
    have hC:oW k err=((0,0),9):=by
     unfold oW
     rw [if_neg (by simp [hb]),ho,hst]
     rfl
    rw [hC]
    simp only
    replace hC:=aj hC;replace hst:=aj hst;replace hb:=aj hb
    clear hbs
    go_enter_defers Tryd.func43,Tryd.ntmps43
    go_wp2_with (first | (first | ((first | ((with_reducible refine gL ?_);first | refine gY hS rfl rfl rfl ?_ | refine lW hS rfl rfl rfl ?_) | ((with_reducible refine gS ?_);refine pX hS rfl rfl rfl ?_));refine ⟨_,zd,?_⟩;clear hS;(try clear w');refine zF ?_;intro w' hS;(try simp only [sE] at hS)) | ((with_reducible refine gA ?_);refine aT 6 rfl hS rfl rfl ?_;clear hS;(try clear w');intro b6;refine zF ?_;intro w' hS) | (((with_reducible refine gB ?_);refine jQ hS rfl rfl rfl ?_;refine ⟨_,za,?_⟩);clear hS;(try clear w');intro _;refine zF ?_;intro w' hS)) |
     (go_at_call 77;refine eG hS hk pG (by simp) hb.out ?_;clear hS;(try clear w');intro p V' w' hVV hcel hS;have hG':GV V':=hG.mono hVV) |
     (go_at_call 88;refine aH hS ⟨_,fB _ _ _ _,?_⟩;rw [ho];clear hS;(try clear w');intro w' hS) |
     (go_at_call 83;refine nH hS (zN V' p k hcel hok i hst.out _ (St.view hS)) ?_;clear hS;(try clear w');intro w' hS))
    (refine vJ hS ?_;clear hS;(try clear w');intro w' hS;(try simp only [sE] at hS);refine ⟨_,by exact results3 (r1:=.tmp 4) (r2:=.tmp 5) (r3:=.cell 6 38) (by kernel_rfl) (by exact bD rfl) (by exact bD rfl) (by exact zA hS rfl zd),?_⟩)
    exact ⟨rfl,hS.bM⟩
 ·clear hbs
  have hC:oW k err=((0,0),aS k []):=by unfold oW;rw [if_pos hb]
  rw [hC]
  simp only
  have hb':(aS k [] == 0)=false:=by rw [beq_eq_false_iff_ne];exact hb
  have hE:Go.RowKit.Hid (∃ e,aS k []=e):=aj ⟨_,rfl⟩
  obtain ⟨e,he⟩:=hE.out
  rw [he] at hb' ⊢
  replace hC:=aj hC;replace he:=aj he
  go_enter_defers Tryd.func43,Tryd.ntmps43
  go_wp2_with (first | (first | ((first | ((with_reducible refine gL ?_);first | refine gY hS rfl rfl rfl ?_ | refine lW hS rfl rfl rfl ?_) | ((with_reducible refine gS ?_);refine pX hS rfl rfl rfl ?_));refine ⟨_,zd,?_⟩;clear hS;(try clear w');refine zF ?_;intro w' hS;(try simp only [sE] at hS)) | ((with_reducible refine gA ?_);refine aT 6 rfl hS rfl rfl ?_;clear hS;(try clear w');intro b6;refine zF ?_;intro w' hS) | (((with_reducible refine gB ?_);refine jQ hS rfl rfl rfl ?_;refine ⟨_,za,?_⟩);clear hS;(try clear w');intro _;refine zF ?_;intro w' hS)) |
   (go_at_call 77;refine fF hS hk pG (by simp) hb ?_;rw [he.out];clear hS;(try clear w');intro w' hS))
  (refine bF (S:=(St w [] V [.blk b6 38 [.int .i64 e]])) [false,false,false,false] rfl (by kernel_rfl) ?_;replace hS:=St.eY hS;(refine hxa 0 rfl ?_;refine zH ?_);(refine C9 1 (by kernel_rfl) rfl rfl (St.aG hS) ?_;refine ⟨_,zp,?_⟩;refine zH ?_);(refine C9 2 (by kernel_rfl) rfl rfl (St.aG hS) ?_;refine ⟨_,zp,?_⟩;refine zH ?_);((refine jl 3 (by kernel_rfl) rfl hS rfl  rfl rfl ?_;refine ⟨_,zd,?_⟩);clear hS;(try clear w');refine zH ?_;intro w' hS;(try simp only [sE] at hS);refine ⟨(St.aG hS),?_⟩);refine wpAnyH_done (by kernel_rfl) ?_ _)
  go_wp2_with (fail)
  (refine iF hS ?_;clear hS;(try clear w');intro w' hS;(try simp only [sE] at hS);refine ⟨_,by exact results3 (r1:=.tmp 4) (r2:=.tmp 5) (r3:=.cell 6 38) (by kernel_rfl) (by exact bD rfl) (by exact bD rfl) (by exact zA hS rfl zd),?_⟩)
  exact ⟨by rfl,(hS.bM)⟩
theorem Zn (vv rv:Value) (k:Wk) (hk:iJ V vv rv k) (hG:GV V) (hV:V.In w) (hh:ay OC w) (err:Int) :
  kL Tryd.prog 43 #[.agg #[vv,rv],.int .i64 err] w fun r w'=>r=.returned (.tuple #[.int .i64 (oW k err).1.1,.int .i64 (oW k err).1.2,.int .i64 (oW k err).2])∧Kp w w':=by
 by_cases hbs:aS k []=0∧fQ err 0 9=false∧Go.Wg.settle k (aN k aC)=none
 ·obtain ⟨hb,ho,hst⟩:=hbs
  have hC:oW k err=if (fM k (aN k aC) err k.n).1 < 0 then ((0,0),11) else (fM k (aN k aC) err k.n,0):=by
   unfold oW
   rw [if_neg (by simp [hb]),ho,hst]
   rfl
  have hok:=dP hb
  have he:0≤err∧err≤9:=by
   unfold fQ at ho
   simp only [Bool.or_eq_false_iff,decide_eq_false_iff_not] at ho
   omega
  have hs:=gG k aC
  have hlo:=QU k hok aC
  have hhi:∀ i,((aN k aC).aP i).2≤1000:=fun i=>Int.le_trans (Jy k hok aC i) (by decide)
  refine jD Tryd.func43 (show Tryd.f43.body=some B43 from rfl) fun cs b hbf hbk hbr=>?_
  have e104:Tryd.f43.ntmps - (#[.agg #[vv,rv],.int .i64 err]:Array Value).size=104:=by kernel_rfl
  rw [e104]
  obtain ⟨tm0,htm⟩:∃ tm0,#[Value.agg #[vv,rv],.int .i64 err] ++ Array.replicate 104 undef=tm0:=⟨_,rfl⟩
  rw [htm]
  refine vI (tgt:=TT [2,3,4,5]) hbf hbk (show [Item.code B43].all qy=true by kernel_rfl) (fun d hd=>nomatch hd) hh
   (S:=fun a w'=>∃ p V' D b6 b8,((∃ f,a=⟨kH (.int .i64 err) (ptr b6) (ptr p) (ptr b8) undef undef undef undef undef undef undef undef undef f,[dC b6]⟩)∧a.tmps[29]? = some (ptr p)∧a.tmps[30]? = some (.agg (dJ (aN k aC)).toArray)) ∧
    NX V' p k D b8 (aN k aC)∧St w [] V' [.blk b6 38 [.int .i64 0]] w')
   (fun a w' τ d ⟨p,V',D,b6,b8,h1,h2,h3⟩=>⟨p,V',D,b6,b8,h1,h2,h3.re1 τ d⟩) (fun τ d=>?_) ?_
  ·rw [← htm]
   refine (PX (w:=w.re τ d) vv rv k hk hG hV err hb ho hst).mono ?_
   rintro a w' ⟨p,V',D,b6,b8,h1,h2,h3⟩
   exact ⟨p,V',D,b6,b8,h1,h2,h3.re0⟩
  ·rintro a w1 ⟨p,V',D,b6,b8,⟨⟨f1,rfl⟩,h29,h30⟩,hX,hS1⟩ hh1
   have e29:f1 29=ptr p:=Option.some.inj h29
   have e30:f1 30=.agg (dJ (aN k aC)).toArray:=Option.some.inj h30
   refine Qn hX hok hs hlo hhi hS1.view hh1 hbk (o:=ops8[2]!) (y:=.tmp 29) (z:=.tmp 30) (d:=31) rfl rfl rfl rfl rfl e29 e30 fun w2 hk2 hh2=>?_
   have hN2:=(N1.aaO hS1).step hk2
   have hbd:=GH k hok.le (aN k aC) false hlo
   have hB0:fM k (aN k aC) err 0=(-1,oQ (dW k (aN k aC) false)):=rfl
   obtain ⟨tt,htt⟩:∃ tt,dW k (aN k aC) false=tt:=⟨_,rfl⟩
   rw [htt] at hbd hB0 ⊢
   have hout:=fun Q h=>outer (w0:=w) (b6:=b6) (b:=b) (cs:=cs) (Q:=Q) hX hok hs hlo hhi err he.1 he.2 hbf hbk h k.n 0 (Nat.zero_add _)
   rw [hB0] at hout
   have eA:(Act.put ⟨kH (.int .i64 err) (ptr b6) (ptr p) (ptr b8) undef undef undef undef undef undef undef undef undef f1,[dC b6]⟩ (some 31) (aJ tt)) =
     ⟨kH (.int .i64 err) (ptr b6) (ptr p) (ptr b8) undef undef undef undef undef undef undef undef undef (fun j=>if j=31 then aJ tt else f1 j),[dC b6]⟩:=rfl
   rw [eA]
   refine vI (tgt:=jO) hbf hbk (Yl [3,4,5]) (CB b6 rfl) hh2 (S:=fun a w'=>(∃ f,a=⟨kH (.int .i64 err) (ptr b6) (ptr p) (ptr b8) (.int .i64 (-1)) (.int .i64 (oQ tt)) undef undef undef undef undef (.int .i64 k.n) (.int .i64 0) f,[dC b6]⟩)∧Kp w2 w')
    (fun a w' τ d h=>⟨h.1,aaw h.2 τ d⟩) (fun τ d=>?_) ?_
   ·refine (aas (w:=w2.re τ d) hX _ _ _ _ _ _ _ _ _ _ _ _ (fun j=>if j=31 then aJ tt else f1 j) tt (hbd.mono (by omega)) (by simp) hN2.vin).mono ?_
    rintro a w' ⟨h1,h2⟩
    exact ⟨h1,uq h2⟩
   ·rintro a w3 ⟨⟨f3,rfl⟩,hk3⟩ hh3
    refine hout _ (fun w f v11 v12 v13 v14 v15 hN hh=>?_) w3 f3 undef undef undef undef undef (hN2.step hk3) hh3
    by_cases hneg:(fM k (aN k aC) err k.n).1 < 0
    ·rw [if_pos hneg] at hC
     rw [hC]
     refine vI (tgt:=[.code .ret,.code N28]) hbf hbk Ah (CB b6 rfl) hh (S:=fun a w'=>(a.tmps[4]? = some (.int .i64 0)∧a.tmps[5]? = some (.int .i64 0)∧a.tmps[6]? = some (ptr b6)∧a.defers=[dC b6])∧St _ [] V' [.blk b6 38 [.int .i64 11]] w')
      (fun a w' τ d h=>⟨h.1,h.2.re1 τ d⟩) (fun τ d=>Zb _ _ k.n b6 hok.le hneg _ _ _ _ _ _ _ _ f (hN.st.re1 τ d)) ?_
     rintro a w4 ⟨⟨h4,h5,h6,hd⟩,hS4⟩ hh4
     exact KU (k0:=[.code N28]) (by kernel_rfl) hbf hbk hh4 h4 h5 h6 hd hS4
    ·rw [if_neg hneg] at hC
     rw [hC]
     refine vI (tgt:=[.code .ret]) hbf hbk Ah (CB b6 rfl) hh (S:=fun a w'=>(a.tmps[4]? = some (.int .i64 (fM k (aN k aC) err k.n).1)∧a.tmps[5]? = some (.int .i64 (fM k (aN k aC) err k.n).2)∧a.tmps[6]? = some (ptr b6)∧a.defers=[dC b6])∧St _ [] V' [.blk b6 38 [.int .i64 0]] w')
      (fun a w' τ d h=>⟨h.1,h.2.re1 τ d⟩) (fun τ d=>YQ _ _ k.n b6 hok.le hneg _ _ _ _ _ _ _ _ f (hN.st.re1 τ d)) ?_
     rintro a w4 ⟨⟨h4,h5,h6,hd⟩,hS4⟩ hh4
     exact KU (k0:=[]) rfl hbf hbk hh4 h4 h5 h6 hd hS4
 ·refine uF lT xM (fun w h=>nomatch h.1) hh fun τ d=>?_
  exact (Vu (w:=w.re τ d) vv rv k hk hG hV err hbs).mono fun e w' h=>⟨h.1,⟨h.2.os,h.2.output,h.2.size,h.2.old⟩⟩
end Go.Proofs.YtjjmefieegcddaaDoor
namespace Go.Proofs.YtjjmefieegcddaaDoor
open Go.RowKit Go.Wg Go.Mm
theorem SK:qN (nJ [])=([29,15,11,15],0):=by kernel_rfl
theorem JR:iw (nJ []) 1=((15,17),0):=by kernel_rfl
theorem Vg:vX (nJ [])=((1,5),0):=by kernel_rfl
theorem SE:qQ (nJ [⟨1,0,20,1⟩])=([1],0):=by kernel_rfl
theorem Xa:oW (nJ []) 0=((0,3),0):=by kernel_rfl
theorem NZ:qx (nJ [⟨1,0,20,1⟩]) 1=(2,0):=by kernel_rfl
open Go.Wk
open Go Go.Sr Go.Ph Go.Tm Go.Conc
variable {w:World} {V:View} {w0:World} {X:List Nat} {L:List dF}
theorem Bz {k:Wk} {args:Array Value} {R:Ending→World→Prop} (hS:St w0 X V L w) (hm:Calls Tryd.prog 75 args w (U5 V w k)) (h:∀ (V':View) (vv rv:Value) (w':World),(∀ j o,V j=some o→V' j=some o)→iJ V' vv rv k→St w0 X V' L w'→R (.returned (.agg #[vv,rv])) w'):Calls Tryd.prog 75 args w R:=by
 refine hm.mono ?_
 rintro e w' ⟨V',vv,rv,rfl,hk,hn,hin,hwk⟩
 exact h V' vv rv w' (fun j o hj=>by rw [hn j (lt_of_heap (hS.view j o hj))];exact hj) hwk (hS.call hk hin hn)
theorem tZ {R:Ending→World→Prop} (hS:St w0 X V L w) (hB:Bs V) (h:∀ (V':View) (vv rv:Value) (w':World),(∀ j o,V j=some o→V' j=some o)→iJ V' vv rv (nJ [])→St w0 X V' L w'→R (.returned (.agg #[vv,rv])) w'):Calls Tryd.prog 75 #[.slice none 0 0] w R:=Bz hS (UM hB hS.view) h
theorem Ba {R:Ending→World→Prop} (hS:St w0 X V L w) (hB:Bs V) {bm:Nat} {r:je} (hm:∀ i v,(fH [r])[i]? = some v→V.Cell bm i v) (h:∀ (V':View) (vv rv:Value) (w':World),(∀ j o,V j=some o→V' j=some o)→iJ V' vv rv (nJ [r])→St w0 X V' L w'→R (.returned (.agg #[vv,rv])) w') :
  Calls Tryd.prog 75 #[.slice (some ⟨bm,0,none⟩) 1 1] w R:=Bz hS (Va hB hS.view r fun j v hj=>by rw [Nat.zero_add];exact hm j v hj) h
theorem xZ {f:FuncId} {args:Array Value} {R:Ending→World→Prop} {u:Value} {l:List Int} (hS:St w0 X V L w) (hc:Calls Tryd.prog f args w fun r w'=>∃ v,r=.returned (.tuple #[v,u])∧Kp w w'∧tY w w' v l)
  (h:∀ (V':View) (v:Value) (w':World),(∀ j o,V j=some o→V' j=some o)→VI V' v l→v.oneCell'=true→St w0 X V' L w'→R (.returned (.tuple #[v,u])) w'):Calls Tryd.prog f args w R:=by
 refine hc.mono ?_
 rintro e w' ⟨v,rfl,hk,ho⟩
 obtain ⟨V',h1,h2,h3⟩:=Um hS hk ho
 refine h V' v w' h1 h3 ?_ h2
 obtain ⟨a,cap,rfl,_⟩:=h3.is
 rfl
theorem Ls {vv rv:Value} {k:Wk} {R:Ending→World→Prop} {l:List Int} {e:Int} (hS:St w0 X V L w) (hB:Bs V) (hk:iJ V vv rv k) (hv:qN k=(l,e))
  (h:∀ (V':View) (v:Value) (w':World),(∀ j o,V j=some o→V' j=some o)→VI V' v l→v.oneCell'=true→St w0 X V' L w'→R (.returned (.tuple #[v,.int .i64 e])) w'):Calls Tryd.prog 27 #[.agg #[vv,rv]] w R:=by
 have hc:=Vh vv rv k hk hB.gv hS.view
 rw [hv] at hc
 exact xZ hS hc h
theorem MV {vv rv:Value} {k:Wk} {R:Ending→World→Prop} {l:List Int} {e:Int} (hS:St w0 X V L w) (hB:Bs V) (hk:iJ V vv rv k) (hv:qQ k=(l,e))
  (h:∀ (V':View) (v:Value) (w':World),(∀ j o,V j=some o→V' j=some o)→VI V' v l→v.oneCell'=true→St w0 X V' L w'→R (.returned (.tuple #[v,.int .i64 e])) w'):Calls Tryd.prog 34 #[.agg #[vv,rv]] w R:=by
 have hc:=VK vv rv k hk hB.gv hS.view
 rw [hv] at hc
 exact xZ hS hc h
theorem oq {vv rv:Value} {k:Wk} {R:Ending→World→Prop} {v a b e:Int} (hS:St w0 X V L w) (hB:Bs V) (hk:iJ V vv rv k) (hv:iw k v=((a,b),e))
  (h:∀ w',St w0 X V L w'→R (.returned (.tuple #[.agg #[.int .i64 a,.int .i64 b],.int .i64 e])) w'):Calls Tryd.prog 54 #[.agg #[vv,rv],.int .i64 v] w R:=by
 have hc:=RY vv rv k hk hB.gv hS.view v
 rw [hv] at hc
 exact aH hS ⟨_,hc,h⟩
theorem JC {vv rv:Value} {k:Wk} {R:Ending→World→Prop} {v a e:Int} (hS:St w0 X V L w) (hB:Bs V) (hk:iJ V vv rv k) (hv:qx k v=(a,e))
  (h:∀ w',St w0 X V L w'→R (.returned (.tuple #[.int .i64 a,.int .i64 e])) w'):Calls Tryd.prog 51 #[.agg #[vv,rv],.int .i64 v] w R:=by
 have hc:=RS vv rv k hk hB.gv hS.view v
 rw [hv] at hc
 exact aH hS ⟨_,hc,h⟩
theorem zu {l1 l2:List Int} {a b:Value} {R:Ending→World→Prop} (hS:St w0 X V L w) (h1:VI V a l1) (h2:VI V b l2) (n1:l1.length≤100) (n2:l2.length≤100) (he:l1=l2) (h:∀ w',St w0 X V L w'→R (.returned (.bool true)) w'):Calls Tryd.prog 31 #[a,b] w R:=by
 have hc:=SI l1 l2 a b h1 h2 n1 n2 hS.view
 rw [decide_eq_true he] at hc
 exact aH hS ⟨_,hc,h⟩
theorem YD {V:View} {b:Nat} {l:List Int} (hl:l.length≤100) (h:∀ i x,(aV l)[i]? = some x→V.Cell b i x):VI V (.slice (some ⟨b,0,none⟩) l.length l.length) l:=by
 refine ⟨⟨some ⟨b,0,none⟩,l.length,rfl,Nat.le_refl _,by unfold maxLen;omega,fun _=>⟨b,0,rfl,fun i hi j x hj=>?_⟩⟩⟩
 cases j with
 | succ j=>simp at hj
 | zero =>
  simp at hj
  subst hj
  have:=h i (.int .i64 (l.getD i 0)) (by simp [aV,List.getD_eq_getElem?_getD,List.getElem?_eq_getElem hi])
  simpa using this
noncomputable def B21:Code:=match Tryd.f21.body with | some c=>c | none=>.skip
noncomputable def Yz:Code:=match B21 with | .seq _ (.seq _ (.seq _ (.seq _ r)))=>r | _=>.skip
noncomputable def Zq:Code:=match Yz with | .seq _ (.seq _ r)=>r | _=>.skip
noncomputable def Gv:Array Oper:=match B21 with | .seq _ (.seq _ (.seq _ (.seq (.region _ o _) _)))=>o | _=>#[]
noncomputable def qm:Array Oper:=match Yz with | .seq _ (.seq (.region _ o _) _)=>o | _=>#[]
def Wd1 (w:World) (V:View) (a:Act) (w':World):Prop :=
 ∃ (V':View) (vv rv v1:Value) (b3:Nat),(∃ f:Nat→Value,a=⟨#[.bool false,v1,.int .i64 0,.pointer (some ⟨b3,0,none⟩),.int .i64 0,f 5,f 6,f 7,f 8,f 9,f 10,f 11,f 12,f 13,f 14,f 15,f 16,f 17,f 18,f 19,f 20,f 21,f 22,f 23,f 24,.agg #[vv,rv],f 26,f 27,f 28,f 29,f 30,f 31,f 32,f 33,f 34,f 35,f 36,f 37,f 38,f 39,f 40,f 41,f 42,f 43,f 44,f 45,f 46,f 47,f 48,f 49,f 50,f 51,f 52,f 53,f 54,f 55,f 56,f 57,f 58,f 59,f 60,f 61,f 62,f 63,f 64,f 65,f 66,f 67,f 68,f 69,f 70,f 71,f 72,f 73,f 74,f 75,f 76,f 77,f 78,f 79,f 80,f 81,f 82,f 83,f 84,f 85,f 86,f 87,f 88,f 89,f 90,f 91,f 92,f 93,f 94,f 95,f 96,f 97,f 98,f 99,f 100,f 101,f 102],[]⟩)∧(∀ j o,V j=some o→V' j=some o)∧iJ V' vv rv (nJ [])∧VI V' v1 [29,15,11,15]∧v1.oneCell'=true∧(∀ i v,[Value.int .i64 15,.int .i64 17][i]? = some v→V'.Cell b3 i v)∧St w [] V' [] w'
theorem U2 (hB:Bs V) (hV:V.In w):fA Tryd.prog [.inRegion Gv [1,2,3,4,5,6,7],.code Yz] (Wd1 w V) [.code B21] { tmps:=#[] ++ Array.replicate 103 undef,defers:=[] } w:=by
 have hS:=St.start w V hV
 simp only [Array.replicate_succ,Array.replicate_zero,List.push_toArray,List.append_toArray,List.nil_append,List.cons_append]
 refine au (aA ?_)
 go_wp2_with (fail)
 refine au (aA ?_)
 go_wp2_with (first | (go_at_call 75;refine tZ hS hB ?_;clear hS;(try clear w');intro V1 vv1 rv1 w' hV1 hk1 hS) | (go_at_call 27;refine Ls hS (hB.mono hV1) hk1 SK ?_;clear hS;(try clear w');intro V2 v1 w' hV2 hv1 hone hS))
 have hB2:Bs V2:=hB.mono fun j o h=>hV2 j o (hV1 j o h)
 refine au (aA ?_)
 go_wp2_with (first | (first | (((with_reducible refine gS ?_);refine bQ hS rfl rfl rfl ?_);refine ⟨_,zd,?_⟩;clear hS;(try clear w');refine zF ?_;intro w' hS;(try simp only [sE] at hS)) | ((with_reducible refine gA ?_);refine aT 3 rfl hS rfl rfl ?_;clear hS;(try clear w');intro b3;refine zF ?_;intro w' hS)) | (go_at_call 75;refine tZ hS hB2 ?_;clear hS;(try clear w');intro V3 vv3 rv3 w' hV3 hk3 hS) | (go_at_call 54;refine oq hS (hB2.mono hV3) hk3 JR ?_;clear hS;(try clear w');intro w' hS))
 obtain ⟨V4,hV4,hc4,hS4⟩:=pin hS
 clear hS
 have hS:=hS4
 clear hS4
 have hB4:Bs V4:=hB2.mono fun j o h=>hV4 j o (hV3 j o h)
 refine au (ig ?_)
 refine rZ (i:=0) rfl rfl (run_call_body rfl Tryd.func75 (by kernel_rfl) rfl) ?_
 simp only [List.map_toArray,List.map_cons,List.map_nil]
 show Calls Tryd.prog 75 #[.slice none 0 0] _ _
 refine tZ hS hB4 ?_
 clear hS
 intro V5 vv rv w' hV5 hk5 hS
 refine ⟨_,rfl,?_⟩
 have key:∀ a:Act,a=⟨#[.bool false,v1,.int .i64 0,.pointer (some ⟨b3,0,none⟩),.int .i64 0,a.tmps.getD 5 undef,a.tmps.getD 6 undef,a.tmps.getD 7 undef,a.tmps.getD 8 undef,a.tmps.getD 9 undef,a.tmps.getD 10 undef,a.tmps.getD 11 undef,a.tmps.getD 12 undef,a.tmps.getD 13 undef,a.tmps.getD 14 undef,a.tmps.getD 15 undef,a.tmps.getD 16 undef,a.tmps.getD 17 undef,a.tmps.getD 18 undef,a.tmps.getD 19 undef,a.tmps.getD 20 undef,a.tmps.getD 21 undef,a.tmps.getD 22 undef,a.tmps.getD 23 undef,a.tmps.getD 24 undef,.agg #[vv,rv],a.tmps.getD 26 undef,a.tmps.getD 27 undef,a.tmps.getD 28 undef,a.tmps.getD 29 undef,a.tmps.getD 30 undef,a.tmps.getD 31 undef,a.tmps.getD 32 undef,a.tmps.getD 33 undef,a.tmps.getD 34 undef,a.tmps.getD 35 undef,a.tmps.getD 36 undef,a.tmps.getD 37 undef,a.tmps.getD 38 undef,a.tmps.getD 39 undef,a.tmps.getD 40 undef,a.tmps.getD 41 undef,a.tmps.getD 42 undef,a.tmps.getD 43 undef,a.tmps.getD 44 undef,a.tmps.getD 45 undef,a.tmps.getD 46 undef,a.tmps.getD 47 undef,a.tmps.getD 48 undef,a.tmps.getD 49 undef,a.tmps.getD 50 undef,a.tmps.getD 51 undef,a.tmps.getD 52 undef,a.tmps.getD 53 undef,a.tmps.getD 54 undef,a.tmps.getD 55 undef,a.tmps.getD 56 undef,a.tmps.getD 57 undef,a.tmps.getD 58 undef,a.tmps.getD 59 undef,a.tmps.getD 60 undef,a.tmps.getD 61 undef,a.tmps.getD 62 undef,a.tmps.getD 63 undef,a.tmps.getD 64 undef,a.tmps.getD 65 undef,a.tmps.getD 66 undef,a.tmps.getD 67 undef,a.tmps.getD 68 undef,a.tmps.getD 69 undef,a.tmps.getD 70 undef,a.tmps.getD 71 undef,a.tmps.getD 72 undef,a.tmps.getD 73 undef,a.tmps.getD 74 undef,a.tmps.getD 75 undef,a.tmps.getD 76 undef,a.tmps.getD 77 undef,a.tmps.getD 78 undef,a.tmps.getD 79 undef,a.tmps.getD 80 undef,a.tmps.getD 81 undef,a.tmps.getD 82 undef,a.tmps.getD 83 undef,a.tmps.getD 84 undef,a.tmps.getD 85 undef,a.tmps.getD 86 undef,a.tmps.getD 87 undef,a.tmps.getD 88 undef,a.tmps.getD 89 undef,a.tmps.getD 90 undef,a.tmps.getD 91 undef,a.tmps.getD 92 undef,a.tmps.getD 93 undef,a.tmps.getD 94 undef,a.tmps.getD 95 undef,a.tmps.getD 96 undef,a.tmps.getD 97 undef,a.tmps.getD 98 undef,a.tmps.getD 99 undef,a.tmps.getD 100 undef,a.tmps.getD 101 undef,a.tmps.getD 102 undef],[]⟩→Wd1 w V a w':=fun a ha =>
  ⟨V5,vv,rv,v1,b3,⟨fun j=>a.tmps.getD j undef,ha⟩,fun j o h=>hV5 j o (hV4 j o (hV3 j o (hV2 j o (hV1 j o h)))),hk5,pW.mono (pW.mono (pW.mono hv1 hV3) hV4) hV5,hone,fun i v h=>(hc4 i v h).mono hV5,hS⟩
 exact bG (tgt:=[.inRegion Gv [1,2,3,4,5,6,7],.code Yz]) (key _ rfl)
def Wd2 (w:World) (V:View) (v1:Value) (b3:Nat) (a:Act) (w':World):Prop :=
 ∃ (V':View) (vv rv v7:Value) (b5:Nat),(∃ f:Nat→Value,a=⟨#[.bool false,v1,.int .i64 0,.pointer (some ⟨b3,0,none⟩),.int .i64 0,.pointer (some ⟨b5,0,none⟩),.int .i64 0,v7,.int .i64 0,f 9,f 10,f 11,f 12,f 13,f 14,f 15,f 16,f 17,f 18,f 19,f 20,f 21,f 22,f 23,f 24,f 25,f 26,f 27,f 28,f 29,f 30,f 31,f 32,f 33,f 34,f 35,f 36,.agg #[vv,rv],f 38,f 39,f 40,f 41,f 42,f 43,f 44,f 45,f 46,f 47,f 48,f 49,f 50,f 51,f 52,f 53,f 54,f 55,f 56,f 57,f 58,f 59,f 60,f 61,f 62,f 63,f 64,f 65,f 66,f 67,f 68,f 69,f 70,f 71,f 72,f 73,f 74,f 75,f 76,f 77,f 78,f 79,f 80,f 81,f 82,f 83,f 84,f 85,f 86,f 87,f 88,f 89,f 90,f 91,f 92,f 93,f 94,f 95,f 96,f 97,f 98,f 99,f 100,f 101,f 102],[]⟩)∧(∀ j o,V j=some o→V' j=some o)∧iJ V' vv rv (nJ [])∧VI V' v7 [1]∧v7.oneCell'=true∧(∀ i v,[Value.int .i64 1,.int .i64 5][i]? = some v→V'.Cell b5 i v)∧St w [] V' [] w'
theorem Vp (hB:Bs V) (hV:V.In w) (v1:Value) (b3:Nat) (f:Nat→Value):fA Tryd.prog [.inRegion qm [1,2,3,4,5,6,7,8],.code Zq] (Wd2 w V v1 b3) [.inRegion Gv [2,3,4,5,6,7],.code Yz] ⟨#[.bool false,v1,.int .i64 0,.pointer (some ⟨b3,0,none⟩),.int .i64 0,f 5,f 6,f 7,f 8,f 9,f 10,f 11,f 12,f 13,f 14,f 15,f 16,f 17,f 18,f 19,f 20,f 21,f 22,f 23,f 24,f 25,.tuple #[.agg #[.int .i64 1,.int .i64 5],.int .i64 0],f 27,f 28,f 29,f 30,f 31,f 32,f 33,f 34,f 35,f 36,f 37,f 38,f 39,f 40,f 41,f 42,f 43,f 44,f 45,f 46,f 47,f 48,f 49,f 50,f 51,f 52,f 53,f 54,f 55,f 56,f 57,f 58,f 59,f 60,f 61,f 62,f 63,f 64,f 65,f 66,f 67,f 68,f 69,f 70,f 71,f 72,f 73,f 74,f 75,f 76,f 77,f 78,f 79,f 80,f 81,f 82,f 83,f 84,f 85,f 86,f 87,f 88,f 89,f 90,f 91,f 92,f 93,f 94,f 95,f 96,f 97,f 98,f 99,f 100,f 101,f 102],[]⟩ w:=by
 have hS:=St.start w V hV
 refine cO (i:=2) (v:=.tuple #[.agg #[.int .i64 1,.int .i64 5],.int .i64 0]) (w':=w) rfl rfl rfl ?_
 refine cO (i:=3) (v:=.agg #[.int .i64 1,.int .i64 5]) (w':=w) rfl rfl rfl ?_
 refine cO (i:=4) (v:=.int .i64 0) (w':=w) rfl rfl rfl ?_
 refine cO (i:=5) rfl rfl (Aq (P:=Tryd.prog) hS (cs:=[.int .i64 0,.int .i64 0]) rfl (by kernel_rfl) (by kernel_rfl)).1 ?_
 replace hS:=hS.alloc 27 [.int .i64 0,.int .i64 0]
 generalize w.alloc (.cells [Value.int .i64 0,.int .i64 0].toArray 27)=w1 at hS ⊢
 obtain ⟨b5,hb5⟩:∃ b5,w.heap.size=b5:=⟨_,rfl⟩
 rw [hb5] at hS ⊢
 refine xK hS (i:=6) (vs:=[.int .i64 1,.int .i64 5]) rfl rfl rfl (j:=0) (i':=0) (n:=2) rfl rfl rfl (by simp [Value.oneCell']) (by kernel_rfl) rfl (by simp) ?_
 clear hS
 intro w2 hS
 simp only [List.set_cons_zero,splice,List.take_zero,List.nil_append,List.length_cons,List.length_nil,Nat.zero_add,List.append_nil,List.drop_nil,Nat.reduceAdd,List.drop_succ_cons,List.drop_zero] at hS
 refine cO (i:=7) (v:=.int .i64 0) (w':=w2) rfl rfl rfl ?_
 refine dH ?_
 show fA Tryd.prog [.inRegion qm [1,2,3,4,5,6,7,8],.code Zq] (Wd2 w V v1 b3) [.code Yz] ⟨#[.bool false,v1,.int .i64 0,.pointer (some ⟨b3,0,none⟩),.int .i64 0,.pointer (some ⟨b5,0,none⟩),.int .i64 0,f 7,f 8,f 9,f 10,f 11,f 12,f 13,f 14,f 15,f 16,f 17,f 18,f 19,f 20,f 21,f 22,f 23,.tuple #[.agg #[.int .i64 1,.int .i64 5],.int .i64 0],f 25,.tuple #[.agg #[.int .i64 1,.int .i64 5],.int .i64 0],.agg #[.int .i64 1,.int .i64 5],.int .i64 0,f 29,f 30,f 31,f 32,f 33,f 34,f 35,f 36,f 37,f 38,f 39,f 40,f 41,f 42,f 43,f 44,f 45,f 46,f 47,f 48,f 49,f 50,f 51,f 52,f 53,f 54,f 55,f 56,f 57,f 58,f 59,f 60,f 61,f 62,f 63,f 64,f 65,f 66,f 67,f 68,f 69,f 70,f 71,f 72,f 73,f 74,f 75,f 76,f 77,f 78,f 79,f 80,f 81,f 82,f 83,f 84,f 85,f 86,f 87,f 88,f 89,f 90,f 91,f 92,f 93,f 94,f 95,f 96,f 97,f 98,f 99,f 100,f 101,f 102],[]⟩ w2
 obtain ⟨V1,hV1,hc1,hS1⟩:=pin hS
 clear hS
 have hS:=hS1
 clear hS1
 have hB1:=hB.mono hV1
 refine au (aA ?_)
 go_wp2_with (first | (fail) | (go_at_call 42;refine aH hS ⟨_,y9 _ _ _ _ _,?_⟩;clear hS;(try clear w');intro w' hS) |
  ((with_reducible refine uP ?_);refine zU hS rfl (oP (a:=⟨1,0,20,1⟩) rfl rfl) ?_;clear hS;(try clear w');intro bm a' hp;(try simp only [fr] at hp);subst hp;intro w' hS;obtain ⟨V2,hV2,hc2,hS2⟩:=pin hS;clear hS;have hS:=hS2;clear hS2) |
  (go_at_call 75;refine Ba hS (hB1.mono hV2) hc2 ?_;clear hS;(try clear w');intro V3 vv3 rv3 w' hV3 hk3 hS) |
  (go_at_call 34;refine MV hS ((hB1.mono hV2).mono hV3) hk3 SE ?_;clear hS;(try clear w');intro V4 v7 w' hV4 hv7 hone hS))
 have hB4:Bs V4:=((hB1.mono hV2).mono hV3).mono hV4
 refine au (ig ?_)
 refine rZ (i:=0) rfl rfl (run_call_body rfl Tryd.func75 (by kernel_rfl) rfl) ?_
 simp only [List.map_toArray,List.map_cons,List.map_nil]
 show Calls Tryd.prog 75 #[.slice none 0 0] _ _
 refine tZ hS hB4 ?_
 clear hS
 intro V5 vv rv w' hV5 hk5 hS
 refine ⟨_,rfl,?_⟩
 have key:∀ a:Act,a=⟨#[.bool false,v1,.int .i64 0,.pointer (some ⟨b3,0,none⟩),.int .i64 0,.pointer (some ⟨b5,0,none⟩),.int .i64 0,v7,.int .i64 0,a.tmps.getD 9 undef,a.tmps.getD 10 undef,a.tmps.getD 11 undef,a.tmps.getD 12 undef,a.tmps.getD 13 undef,a.tmps.getD 14 undef,a.tmps.getD 15 undef,a.tmps.getD 16 undef,a.tmps.getD 17 undef,a.tmps.getD 18 undef,a.tmps.getD 19 undef,a.tmps.getD 20 undef,a.tmps.getD 21 undef,a.tmps.getD 22 undef,a.tmps.getD 23 undef,a.tmps.getD 24 undef,a.tmps.getD 25 undef,a.tmps.getD 26 undef,a.tmps.getD 27 undef,a.tmps.getD 28 undef,a.tmps.getD 29 undef,a.tmps.getD 30 undef,a.tmps.getD 31 undef,a.tmps.getD 32 undef,a.tmps.getD 33 undef,a.tmps.getD 34 undef,a.tmps.getD 35 undef,a.tmps.getD 36 undef,.agg #[vv,rv],a.tmps.getD 38 undef,a.tmps.getD 39 undef,a.tmps.getD 40 undef,a.tmps.getD 41 undef,a.tmps.getD 42 undef,a.tmps.getD 43 undef,a.tmps.getD 44 undef,a.tmps.getD 45 undef,a.tmps.getD 46 undef,a.tmps.getD 47 undef,a.tmps.getD 48 undef,a.tmps.getD 49 undef,a.tmps.getD 50 undef,a.tmps.getD 51 undef,a.tmps.getD 52 undef,a.tmps.getD 53 undef,a.tmps.getD 54 undef,a.tmps.getD 55 undef,a.tmps.getD 56 undef,a.tmps.getD 57 undef,a.tmps.getD 58 undef,a.tmps.getD 59 undef,a.tmps.getD 60 undef,a.tmps.getD 61 undef,a.tmps.getD 62 undef,a.tmps.getD 63 undef,a.tmps.getD 64 undef,a.tmps.getD 65 undef,a.tmps.getD 66 undef,a.tmps.getD 67 undef,a.tmps.getD 68 undef,a.tmps.getD 69 undef,a.tmps.getD 70 undef,a.tmps.getD 71 undef,a.tmps.getD 72 undef,a.tmps.getD 73 undef,a.tmps.getD 74 undef,a.tmps.getD 75 undef,a.tmps.getD 76 undef,a.tmps.getD 77 undef,a.tmps.getD 78 undef,a.tmps.getD 79 undef,a.tmps.getD 80 undef,a.tmps.getD 81 undef,a.tmps.getD 82 undef,a.tmps.getD 83 undef,a.tmps.getD 84 undef,a.tmps.getD 85 undef,a.tmps.getD 86 undef,a.tmps.getD 87 undef,a.tmps.getD 88 undef,a.tmps.getD 89 undef,a.tmps.getD 90 undef,a.tmps.getD 91 undef,a.tmps.getD 92 undef,a.tmps.getD 93 undef,a.tmps.getD 94 undef,a.tmps.getD 95 undef,a.tmps.getD 96 undef,a.tmps.getD 97 undef,a.tmps.getD 98 undef,a.tmps.getD 99 undef,a.tmps.getD 100 undef,a.tmps.getD 101 undef,a.tmps.getD 102 undef],[]⟩→Wd2 w V v1 b3 a w':=fun a ha =>
  ⟨V5,vv,rv,v7,b5,⟨fun j=>a.tmps.getD j undef,ha⟩,fun j o h=>hV5 j o (hV4 j o (hV3 j o (hV2 j o (hV1 j o h)))),hk5,pW.mono hv7 hV5,hone,fun i v h=>(((hc1 i v h).mono hV2).mono hV3 |>.mono hV4).mono hV5,hS⟩
 exact bG (tgt:=[.inRegion qm [1,2,3,4,5,6,7,8],.code Zq]) (key _ rfl)
theorem TD {o:Oper} {ρ:Operand→Value} {x y:Operand} (ho:o.op=.binOp .eql 27 x y 27) (hx:ρ x=.agg #[.int .i64 15,.int .i64 17]) (hy:ρ y=.agg #[.int .i64 15,.int .i64 17]) (w:World):(execOp ρ o).run Tryd.prog w=.ok (.value (.bool true)) w:=by
 unfold execOp
 simp only [ho,hx,hy]
 kernel_rfl
theorem Sm {o:Oper} {ρ:Operand→Value} {x y:Operand} (ho:o.op=.binOp .eql 27 x y 27) (hx:ρ x=.agg #[.int .i64 1,.int .i64 5]) (hy:ρ y=.agg #[.int .i64 1,.int .i64 5]) (w:World):(execOp ρ o).run Tryd.prog w=.ok (.value (.bool true)) w:=by
 unfold execOp
 simp only [ho,hx,hy]
 kernel_rfl
theorem aaX {ops:Array Oper} {Q:Exit→Act→World→Prop} {d:Option Tmp} {x y:Operand} {t:TypeId} {p:String} {af:Array Edge} {g:Option (Nat × Bool)} {rest:List Oper} {a:Act} (h:wpList Tryd.prog ops Q (⟨d,.binOp .eql 27 x y 27,t,p,af,g⟩ :: rest) a w):wpList Tryd.prog ops Q (⟨d,.binOp .eql 27 x y 27,t,p,af,g⟩ :: rest) a w:=h
theorem UN (hB:Bs V) (hV:V.In w) (v1 v7:Value) (b3 b5:Nat) (o1:v1.oneCell'=true) (o7:v7.oneCell'=true) (h1:VI V v1 [29,15,11,15]) (h7:VI V v7 [1]) (h3:∀ i v,[Value.int .i64 15,.int .i64 17][i]? = some v→V.Cell b3 i v) (h5:∀ i v,[Value.int .i64 1,.int .i64 5][i]? = some v→V.Cell b5 i v) (f:Nat→Value) :
  fA Tryd.prog [.code .ret] (fun a w'=>a.tmps[0]? = some (.bool true)∧a.defers=[]∧Kp w w') [.inRegion qm [2,3,4,5,6,7,8],.code Zq] ⟨#[.bool false,v1,.int .i64 0,.pointer (some ⟨b3,0,none⟩),.int .i64 0,.pointer (some ⟨b5,0,none⟩),.int .i64 0,v7,.int .i64 0,f 9,f 10,f 11,f 12,f 13,f 14,f 15,f 16,f 17,f 18,f 19,f 20,f 21,f 22,f 23,f 24,f 25,f 26,f 27,f 28,f 29,f 30,f 31,f 32,f 33,f 34,f 35,f 36,f 37,.tuple #[.int .i64 0,.int .i64 3,.int .i64 0],f 39,f 40,f 41,f 42,f 43,f 44,f 45,f 46,f 47,f 48,f 49,f 50,f 51,f 52,f 53,f 54,f 55,f 56,f 57,f 58,f 59,f 60,f 61,f 62,f 63,f 64,f 65,f 66,f 67,f 68,f 69,f 70,f 71,f 72,f 73,f 74,f 75,f 76,f 77,f 78,f 79,f 80,f 81,f 82,f 83,f 84,f 85,f 86,f 87,f 88,f 89,f 90,f 91,f 92,f 93,f 94,f 95,f 96,f 97,f 98,f 99,f 100,f 101,f 102],[]⟩ w:=by
 have hS:=St.start w V hV
 refine cO (i:=2) (v:=.tuple #[.int .i64 0,.int .i64 3,.int .i64 0]) (w':=w) rfl rfl rfl ?_
 show fA Tryd.prog [.code .ret] _ (.inRegion qm [3,4,5,6,7,8] :: _) ⟨#[.bool false,v1,.int .i64 0,.pointer (some ⟨b3,0,none⟩),.int .i64 0,.pointer (some ⟨b5,0,none⟩),.int .i64 0,v7,.int .i64 0,f 9,f 10,f 11,f 12,f 13,f 14,f 15,f 16,f 17,f 18,f 19,f 20,f 21,f 22,f 23,f 24,f 25,f 26,f 27,f 28,f 29,f 30,f 31,f 32,f 33,f 34,f 35,.tuple #[.int .i64 0,.int .i64 3,.int .i64 0],f 37,.tuple #[.int .i64 0,.int .i64 3,.int .i64 0],f 39,f 40,f 41,f 42,f 43,f 44,f 45,f 46,f 47,f 48,f 49,f 50,f 51,f 52,f 53,f 54,f 55,f 56,f 57,f 58,f 59,f 60,f 61,f 62,f 63,f 64,f 65,f 66,f 67,f 68,f 69,f 70,f 71,f 72,f 73,f 74,f 75,f 76,f 77,f 78,f 79,f 80,f 81,f 82,f 83,f 84,f 85,f 86,f 87,f 88,f 89,f 90,f 91,f 92,f 93,f 94,f 95,f 96,f 97,f 98,f 99,f 100,f 101,f 102],[]⟩ w
 refine cO (i:=3) (v:=.int .i64 0) (w':=w) rfl rfl rfl ?_
 show fA Tryd.prog [.code .ret] _ (.inRegion qm [4,5,6,7,8] :: _) ⟨#[.bool false,v1,.int .i64 0,.pointer (some ⟨b3,0,none⟩),.int .i64 0,.pointer (some ⟨b5,0,none⟩),.int .i64 0,v7,.int .i64 0,f 9,f 10,f 11,f 12,f 13,f 14,f 15,f 16,f 17,f 18,f 19,f 20,f 21,f 22,f 23,f 24,f 25,f 26,f 27,f 28,f 29,f 30,f 31,f 32,f 33,f 34,f 35,.tuple #[.int .i64 0,.int .i64 3,.int .i64 0],f 37,.tuple #[.int .i64 0,.int .i64 3,.int .i64 0],.int .i64 0,f 40,f 41,f 42,f 43,f 44,f 45,f 46,f 47,f 48,f 49,f 50,f 51,f 52,f 53,f 54,f 55,f 56,f 57,f 58,f 59,f 60,f 61,f 62,f 63,f 64,f 65,f 66,f 67,f 68,f 69,f 70,f 71,f 72,f 73,f 74,f 75,f 76,f 77,f 78,f 79,f 80,f 81,f 82,f 83,f 84,f 85,f 86,f 87,f 88,f 89,f 90,f 91,f 92,f 93,f 94,f 95,f 96,f 97,f 98,f 99,f 100,f 101,f 102],[]⟩ w
 refine cO (i:=4) (v:=.int .i64 3) (w':=w) rfl rfl rfl ?_
 show fA Tryd.prog [.code .ret] _ (.inRegion qm [5,6,7,8] :: _) ⟨#[.bool false,v1,.int .i64 0,.pointer (some ⟨b3,0,none⟩),.int .i64 0,.pointer (some ⟨b5,0,none⟩),.int .i64 0,v7,.int .i64 0,f 9,f 10,f 11,f 12,f 13,f 14,f 15,f 16,f 17,f 18,f 19,f 20,f 21,f 22,f 23,f 24,f 25,f 26,f 27,f 28,f 29,f 30,f 31,f 32,f 33,f 34,f 35,.tuple #[.int .i64 0,.int .i64 3,.int .i64 0],f 37,.tuple #[.int .i64 0,.int .i64 3,.int .i64 0],.int .i64 0,.int .i64 3,f 41,f 42,f 43,f 44,f 45,f 46,f 47,f 48,f 49,f 50,f 51,f 52,f 53,f 54,f 55,f 56,f 57,f 58,f 59,f 60,f 61,f 62,f 63,f 64,f 65,f 66,f 67,f 68,f 69,f 70,f 71,f 72,f 73,f 74,f 75,f 76,f 77,f 78,f 79,f 80,f 81,f 82,f 83,f 84,f 85,f 86,f 87,f 88,f 89,f 90,f 91,f 92,f 93,f 94,f 95,f 96,f 97,f 98,f 99,f 100,f 101,f 102],[]⟩ w
 refine cO (i:=5) (v:=.int .i64 0) (w':=w) rfl rfl rfl ?_
 show fA Tryd.prog [.code .ret] _ (.inRegion qm [6,7,8] :: _) ⟨#[.bool false,v1,.int .i64 0,.pointer (some ⟨b3,0,none⟩),.int .i64 0,.pointer (some ⟨b5,0,none⟩),.int .i64 0,v7,.int .i64 0,f 9,f 10,f 11,f 12,f 13,f 14,f 15,f 16,f 17,f 18,f 19,f 20,f 21,f 22,f 23,f 24,f 25,f 26,f 27,f 28,f 29,f 30,f 31,f 32,f 33,f 34,f 35,.tuple #[.int .i64 0,.int .i64 3,.int .i64 0],f 37,.tuple #[.int .i64 0,.int .i64 3,.int .i64 0],.int .i64 0,.int .i64 3,.int .i64 0,f 42,f 43,f 44,f 45,f 46,f 47,f 48,f 49,f 50,f 51,f 52,f 53,f 54,f 55,f 56,f 57,f 58,f 59,f 60,f 61,f 62,f 63,f 64,f 65,f 66,f 67,f 68,f 69,f 70,f 71,f 72,f 73,f 74,f 75,f 76,f 77,f 78,f 79,f 80,f 81,f 82,f 83,f 84,f 85,f 86,f 87,f 88,f 89,f 90,f 91,f 92,f 93,f 94,f 95,f 96,f 97,f 98,f 99,f 100,f 101,f 102],[]⟩ w
 refine cO (i:=6) (v:=.int .i64 0) (w':=w) rfl rfl rfl ?_
 show fA Tryd.prog [.code .ret] _ (.inRegion qm [7,8] :: _) ⟨#[.bool false,v1,.int .i64 0,.pointer (some ⟨b3,0,none⟩),.int .i64 0,.pointer (some ⟨b5,0,none⟩),.int .i64 0,v7,.int .i64 0,.int .i64 0,f 10,f 11,f 12,f 13,f 14,f 15,f 16,f 17,f 18,f 19,f 20,f 21,f 22,f 23,f 24,f 25,f 26,f 27,f 28,f 29,f 30,f 31,f 32,f 33,f 34,f 35,.tuple #[.int .i64 0,.int .i64 3,.int .i64 0],f 37,.tuple #[.int .i64 0,.int .i64 3,.int .i64 0],.int .i64 0,.int .i64 3,.int .i64 0,f 42,f 43,f 44,f 45,f 46,f 47,f 48,f 49,f 50,f 51,f 52,f 53,f 54,f 55,f 56,f 57,f 58,f 59,f 60,f 61,f 62,f 63,f 64,f 65,f 66,f 67,f 68,f 69,f 70,f 71,f 72,f 73,f 74,f 75,f 76,f 77,f 78,f 79,f 80,f 81,f 82,f 83,f 84,f 85,f 86,f 87,f 88,f 89,f 90,f 91,f 92,f 93,f 94,f 95,f 96,f 97,f 98,f 99,f 100,f 101,f 102],[]⟩ w
 refine cO (i:=7) (v:=.int .i64 3) (w':=w) rfl rfl rfl ?_
 show fA Tryd.prog [.code .ret] _ (.inRegion qm [8] :: _) ⟨#[.bool false,v1,.int .i64 0,.pointer (some ⟨b3,0,none⟩),.int .i64 0,.pointer (some ⟨b5,0,none⟩),.int .i64 0,v7,.int .i64 0,.int .i64 0,.int .i64 3,f 11,f 12,f 13,f 14,f 15,f 16,f 17,f 18,f 19,f 20,f 21,f 22,f 23,f 24,f 25,f 26,f 27,f 28,f 29,f 30,f 31,f 32,f 33,f 34,f 35,.tuple #[.int .i64 0,.int .i64 3,.int .i64 0],f 37,.tuple #[.int .i64 0,.int .i64 3,.int .i64 0],.int .i64 0,.int .i64 3,.int .i64 0,f 42,f 43,f 44,f 45,f 46,f 47,f 48,f 49,f 50,f 51,f 52,f 53,f 54,f 55,f 56,f 57,f 58,f 59,f 60,f 61,f 62,f 63,f 64,f 65,f 66,f 67,f 68,f 69,f 70,f 71,f 72,f 73,f 74,f 75,f 76,f 77,f 78,f 79,f 80,f 81,f 82,f 83,f 84,f 85,f 86,f 87,f 88,f 89,f 90,f 91,f 92,f 93,f 94,f 95,f 96,f 97,f 98,f 99,f 100,f 101,f 102],[]⟩ w
 refine cO (i:=8) (v:=.int .i64 0) (w':=w) rfl rfl rfl ?_
 show fA Tryd.prog [.code .ret] _ (.inRegion qm [] :: _) ⟨#[.bool false,v1,.int .i64 0,.pointer (some ⟨b3,0,none⟩),.int .i64 0,.pointer (some ⟨b5,0,none⟩),.int .i64 0,v7,.int .i64 0,.int .i64 0,.int .i64 3,.int .i64 0,f 12,f 13,f 14,f 15,f 16,f 17,f 18,f 19,f 20,f 21,f 22,f 23,f 24,f 25,f 26,f 27,f 28,f 29,f 30,f 31,f 32,f 33,f 34,f 35,.tuple #[.int .i64 0,.int .i64 3,.int .i64 0],f 37,.tuple #[.int .i64 0,.int .i64 3,.int .i64 0],.int .i64 0,.int .i64 3,.int .i64 0,f 42,f 43,f 44,f 45,f 46,f 47,f 48,f 49,f 50,f 51,f 52,f 53,f 54,f 55,f 56,f 57,f 58,f 59,f 60,f 61,f 62,f 63,f 64,f 65,f 66,f 67,f 68,f 69,f 70,f 71,f 72,f 73,f 74,f 75,f 76,f 77,f 78,f 79,f 80,f 81,f 82,f 83,f 84,f 85,f 86,f 87,f 88,f 89,f 90,f 91,f 92,f 93,f 94,f 95,f 96,f 97,f 98,f 99,f 100,f 101,f 102],[]⟩ w
 refine dH ?_
 show fA Tryd.prog [.code .ret] _ [.code Zq] ⟨#[.bool false,v1,.int .i64 0,.pointer (some ⟨b3,0,none⟩),.int .i64 0,.pointer (some ⟨b5,0,none⟩),.int .i64 0,v7,.int .i64 0,.int .i64 0,.int .i64 3,.int .i64 0,f 12,f 13,f 14,f 15,f 16,f 17,f 18,f 19,f 20,f 21,f 22,f 23,f 24,f 25,f 26,f 27,f 28,f 29,f 30,f 31,f 32,f 33,f 34,f 35,.tuple #[.int .i64 0,.int .i64 3,.int .i64 0],f 37,.tuple #[.int .i64 0,.int .i64 3,.int .i64 0],.int .i64 0,.int .i64 3,.int .i64 0,f 42,f 43,f 44,f 45,f 46,f 47,f 48,f 49,f 50,f 51,f 52,f 53,f 54,f 55,f 56,f 57,f 58,f 59,f 60,f 61,f 62,f 63,f 64,f 65,f 66,f 67,f 68,f 69,f 70,f 71,f 72,f 73,f 74,f 75,f 76,f 77,f 78,f 79,f 80,f 81,f 82,f 83,f 84,f 85,f 86,f 87,f 88,f 89,f 90,f 91,f 92,f 93,f 94,f 95,f 96,f 97,f 98,f 99,f 100,f 101,f 102],[]⟩ w
 refine au (aA ?_)
 go_wp2_with (first | (fail) | (go_at_call 42;refine aH hS ⟨_,y9 _ _ _ _ _,?_⟩;clear hS;(try clear w');intro w' hS) |
  ((with_reducible refine uP ?_);refine zU hS rfl (oP (a:=⟨1,0,20,1⟩) rfl rfl) ?_;clear hS;(try clear w');intro bm a' hp;(try simp only [fr] at hp);subst hp;intro w' hS;obtain ⟨V2,hV2,hc2,hS2⟩:=pin hS;clear hS;have hS:=hS2;clear hS2) |
  (go_at_call 75;refine Ba hS (hB.mono hV2) hc2 ?_;clear hS;(try clear w');intro V3 vv3 rv3 w' hV3 hk3 hS) |
  (go_at_call 51;refine JC hS ((hB.mono hV2).mono hV3) hk3 NZ ?_;clear hS;(try clear w');intro w' hS))
 have hB3:Bs V3:=(hB.mono hV2).mono hV3
 have h1':VI V3 v1 [29,15,11,15]:=pW.mono (pW.mono h1 hV2) hV3
 have h7':VI V3 v7 [1]:=pW.mono (pW.mono h7 hV2) hV3
 have hr3:V3.Range b3 0 [.int .i64 15,.int .i64 17]:=fun j v hj=>by rw [Nat.zero_add];exact ((h3 j v hj).mono hV2).mono hV3
 have hr5:V3.Range b5 0 [.int .i64 1,.int .i64 5]:=fun j v hj=>by rw [Nat.zero_add];exact ((h5 j v hj).mono hV2).mono hV3
 clear h1 h7 h3 h5 hc2
 refine au (aA ?_)
 go_wp2_with (first | (((with_reducible refine gL ?_);refine zQ hS rfl rfl rfl ?_);refine ⟨_,zd,?_⟩;clear hS;(try clear w');refine zF ?_;intro w' hS) | ((with_reducible refine aaX ?_);first | (refine Gx rfl (TD rfl rfl rfl) ?_;refine zF ?_) | (refine Gx rfl (Sm rfl rfl rfl) ?_;refine zF ?_)) |
  (((with_reducible refine uP ?_);refine rE hS rfl rfl ?_;refine ⟨_,zq,zd,?_⟩;clear hS;(try clear w');intro _;refine zF ?_;intro w' hS);obtain ⟨V4,hV4,hc4,hS4⟩:=pin hS;clear hS;have hS:=hS4;clear hS4) |
  (go_at_call 31;first | (refine zu hS (pW.mono h1' hV4) (YD (l:=[29,15,11,15]) (by decide) hc4) (by decide) (by decide) rfl ?_;clear hS;(try clear w');clear h1';intro w' hS;replace h7':=pW.mono h7' hV4;clear hc4 hV4) | (refine zu hS (pW.mono h7' hV4) (YD (l:=[1]) (by decide) hc4) (by decide) (by decide) rfl ?_;clear hS;(try clear w');intro w' hS)))
 exact bG (tgt:=[.code .ret]) ⟨rfl,rfl,hS.bM⟩
theorem Oh {b:Frame} {cs:List Frame} {Q:Goroutine→World→Prop} {a:Act} {N:FuncId} {args:Array Value} {R:Ending→World→Prop} {ops:Array Oper} {l:List Nat} {k0:List Item} {i:Nat} {o:Oper} (hc:kL Tryd.prog N args w R) (hh:ay OC w) (hbk:b.kind=.normal)
  (ho:ops[i]? = some o) (hw:Region.wanted o (yielded ops a.tmps)=true) (hok':qj true o.op=true) (hr:∀ w,(execOp a.eval o).run Tryd.prog w=.ok (.enter N args) w) (hpan:∀ ch w,¬ R (.panicked ch) w)
  (hk:∀ v w',R (.returned v) w'→ay OC w'→kU Tryd.prog (G (b.at (a.put o.dst v) (.inRegion ops l :: k0)) cs) w' Q):kU Tryd.prog (G (b.at a (.inRegion ops (i :: l) :: k0)) cs) w Q:=by
 refine Ou lT ho hw (by rw [hbk];decide) hok' hh (fun _ _ _=>trivial) fun d=>?_
 rw [hr]
 intro hhd
 have hat:∀ {Q:Goroutine→World→Prop} {g:Goroutine},kU Tryd.prog g w Q→kU Tryd.prog g (w.at d) Q:=fun h=>h.at
 exact hat (xI ho hc (fun v w1 hv hh1=>hk v w1 hv hh1) fun ch w1 hv _=>(hpan ch w1 hv).elim)
theorem Vo {P:Program} {b:Frame} {cs:List Frame} {a:Act} {f:FuncId} {fn:Func} {v:Value} {R:Ending→World→Prop} {k0:List Item} (hb:b.fn=f) (hbk:b.kind=.normal) (hd:a.defers=[]) (hf:P.funcs[f]? = some fn) (hw:ay OC w) (hr:(results fn a.tmps).run P w=.ok v w) (hR:R (.returned v) w) (hins:Ins R) :
  kU P (G (b.at a (.code .ret :: k0)) cs) w (fun a' w'=>∃ e fr,a'=G fr cs∧R e w'∧fr.fn=f∧fr.leaving P w' e∧e≠.outgrown∧ay OC w') :=
 CV (Hz hb hbk hd hf hw hr hR hins)
theorem TB (hB:Bs V) (hV:V.In w) (hh:ay OC w):kL Tryd.prog 21 #[] w fun r w'=>r=.returned (.bool true)∧Kp w w':=by
 refine jD Tryd.func21 (show Tryd.f21.body=some B21 from rfl) fun cs b hbf hbk hbr=>?_
 have e103:Tryd.f21.ntmps - (#[]:Array Value).size=103:=by kernel_rfl
 rw [e103]
 obtain ⟨tm0,htm⟩:∃ tm0,(#[]:Array Value) ++ Array.replicate 103 undef=tm0:=⟨_,rfl⟩
 rw [htm]
 refine vI (tgt:=[.inRegion Gv [1,2,3,4,5,6,7],.code Yz]) hbf hbk (show [Item.code B21].all qy=true by kernel_rfl) (fun d hd=>nomatch hd) hh (S:=Wd1 w V)
  (fun a w' τ d ⟨V',vv,rv,v1,b3,h1,h2,h3,h4,h5,h6,h7⟩=>⟨V',vv,rv,v1,b3,h1,h2,h3,h4,h5,h6,h7.re1 τ d⟩) (fun τ d=>?_) ?_
 ·rw [← htm]
  refine (U2 (w:=w.re τ d) hB hV).mono ?_
  rintro a w' ⟨V',vv,rv,v1,b3,h1,h2,h3,h4,h5,h6,h7⟩
  exact ⟨V',vv,rv,v1,b3,h1,h2,h3,h4,h5,h6,h7.re0⟩
 rintro a w1 ⟨V1,vv,rv,v1,b3,⟨f,rfl⟩,hV1,hk1,hv1,ho1,hc3,hS1⟩ hh1
 have hB1:=hB.mono hV1
 have hL:=ZB vv rv (nJ []) hk1 hB1.gv hS1.view hh1
 rw [Vg] at hL
 refine Oh (i:=1) (o:=Gv[1]!) hL hh1 hbk rfl rfl rfl (fun w=>?_) (fun ch w h=>nomatch h.1) ?_
 ·rw [run_call_body rfl Tryd.func40 (by kernel_rfl) rfl]
  simp only [List.map_toArray,List.map_cons,List.map_nil]
  rfl
 rintro v w2 ⟨hv,hk2⟩ hh2
 cases hv
 have hS2:=hS1.kp hk2
 obtain ⟨a2,ha2⟩:∃ a2:Act,a2=⟨#[.bool false,v1,.int .i64 0,.pointer (some ⟨b3,0,none⟩),.int .i64 0,f 5,f 6,f 7,f 8,f 9,f 10,f 11,f 12,f 13,f 14,f 15,f 16,f 17,f 18,f 19,f 20,f 21,f 22,f 23,f 24,.agg #[vv,rv],.tuple #[.agg #[.int .i64 1,.int .i64 5],.int .i64 0],f 27,f 28,f 29,f 30,f 31,f 32,f 33,f 34,f 35,f 36,f 37,f 38,f 39,f 40,f 41,f 42,f 43,f 44,f 45,f 46,f 47,f 48,f 49,f 50,f 51,f 52,f 53,f 54,f 55,f 56,f 57,f 58,f 59,f 60,f 61,f 62,f 63,f 64,f 65,f 66,f 67,f 68,f 69,f 70,f 71,f 72,f 73,f 74,f 75,f 76,f 77,f 78,f 79,f 80,f 81,f 82,f 83,f 84,f 85,f 86,f 87,f 88,f 89,f 90,f 91,f 92,f 93,f 94,f 95,f 96,f 97,f 98,f 99,f 100,f 101,f 102],[]⟩:=⟨_,rfl⟩
 have eA:(Act.put ⟨#[.bool false,v1,.int .i64 0,.pointer (some ⟨b3,0,none⟩),.int .i64 0,f 5,f 6,f 7,f 8,f 9,f 10,f 11,f 12,f 13,f 14,f 15,f 16,f 17,f 18,f 19,f 20,f 21,f 22,f 23,f 24,.agg #[vv,rv],f 26,f 27,f 28,f 29,f 30,f 31,f 32,f 33,f 34,f 35,f 36,f 37,f 38,f 39,f 40,f 41,f 42,f 43,f 44,f 45,f 46,f 47,f 48,f 49,f 50,f 51,f 52,f 53,f 54,f 55,f 56,f 57,f 58,f 59,f 60,f 61,f 62,f 63,f 64,f 65,f 66,f 67,f 68,f 69,f 70,f 71,f 72,f 73,f 74,f 75,f 76,f 77,f 78,f 79,f 80,f 81,f 82,f 83,f 84,f 85,f 86,f 87,f 88,f 89,f 90,f 91,f 92,f 93,f 94,f 95,f 96,f 97,f 98,f 99,f 100,f 101,f 102],[]⟩ (some 26) (.tuple #[aJ (1,5),.int .i64 0]))=a2:=by rw [ha2];rfl
 show kU Tryd.prog (G (b.at (Act.put ⟨#[.bool false,v1,.int .i64 0,.pointer (some ⟨b3,0,none⟩),.int .i64 0,f 5,f 6,f 7,f 8,f 9,f 10,f 11,f 12,f 13,f 14,f 15,f 16,f 17,f 18,f 19,f 20,f 21,f 22,f 23,f 24,.agg #[vv,rv],f 26,f 27,f 28,f 29,f 30,f 31,f 32,f 33,f 34,f 35,f 36,f 37,f 38,f 39,f 40,f 41,f 42,f 43,f 44,f 45,f 46,f 47,f 48,f 49,f 50,f 51,f 52,f 53,f 54,f 55,f 56,f 57,f 58,f 59,f 60,f 61,f 62,f 63,f 64,f 65,f 66,f 67,f 68,f 69,f 70,f 71,f 72,f 73,f 74,f 75,f 76,f 77,f 78,f 79,f 80,f 81,f 82,f 83,f 84,f 85,f 86,f 87,f 88,f 89,f 90,f 91,f 92,f 93,f 94,f 95,f 96,f 97,f 98,f 99,f 100,f 101,f 102],[]⟩ (some 26) (.tuple #[aJ (1,5),.int .i64 0])) (.inRegion Gv [2,3,4,5,6,7] :: [.code Yz])) cs) w2 _
 rw [eA,ha2]
 refine vI (tgt:=[.inRegion qm [1,2,3,4,5,6,7,8],.code Zq]) hbf hbk (by kernel_rfl) (fun d hd=>nomatch hd) hh2 (S:=Wd2 w2 V1 v1 b3)
  (fun a w' τ d ⟨V',vv,rv,v1,b3,h1,h2,h3,h4,h5,h6,h7⟩=>⟨V',vv,rv,v1,b3,h1,h2,h3,h4,h5,h6,h7.re1 τ d⟩) (fun τ d=>?_) ?_
 ·refine (Vp (w:=w2.re τ d) hB1 hS2.view v1 b3 (fun j=>if j=25 then .agg #[vv,rv] else f j)).mono ?_
  rintro a w' ⟨V',vv,rv,v1,b3,h1,h2,h3,h4,h5,h6,h7⟩
  exact ⟨V',vv,rv,v1,b3,h1,h2,h3,h4,h5,h6,h7.re0⟩
 clear eA ha2
 rintro a w3 ⟨V3,vv3,rv3,v7,b5,⟨f3,rfl⟩,hV3,hk3,hv7,ho7,hc5,hS3⟩ hh3
 have hB3:=hB1.mono hV3
 have hN:=Zn vv3 rv3 (nJ []) hk3 hB3.gv hS3.view hh3 0
 rw [Xa] at hN
 refine Oh (i:=1) (o:=qm[1]!) hN hh3 hbk rfl rfl rfl (fun w=>?_) (fun ch w h=>nomatch h.1) ?_
 ·rw [run_call_body rfl Tryd.func43 (by kernel_rfl) rfl]
  simp only [List.map_toArray,List.map_cons,List.map_nil]
  rfl
 rintro v w4 ⟨hv,hk4⟩ hh4
 cases hv
 have hS4:=hS3.kp hk4
 have hkp:=((hS1.bM.trans hk2).trans hS3.bM).trans hk4
 obtain ⟨a4,ha4⟩:∃ a4:Act,a4=⟨#[.bool false,v1,.int .i64 0,.pointer (some ⟨b3,0,none⟩),.int .i64 0,.pointer (some ⟨b5,0,none⟩),.int .i64 0,v7,.int .i64 0,f3 9,f3 10,f3 11,f3 12,f3 13,f3 14,f3 15,f3 16,f3 17,f3 18,f3 19,f3 20,f3 21,f3 22,f3 23,f3 24,f3 25,f3 26,f3 27,f3 28,f3 29,f3 30,f3 31,f3 32,f3 33,f3 34,f3 35,f3 36,.agg #[vv3,rv3],.tuple #[.int .i64 0,.int .i64 3,.int .i64 0],f3 39,f3 40,f3 41,f3 42,f3 43,f3 44,f3 45,f3 46,f3 47,f3 48,f3 49,f3 50,f3 51,f3 52,f3 53,f3 54,f3 55,f3 56,f3 57,f3 58,f3 59,f3 60,f3 61,f3 62,f3 63,f3 64,f3 65,f3 66,f3 67,f3 68,f3 69,f3 70,f3 71,f3 72,f3 73,f3 74,f3 75,f3 76,f3 77,f3 78,f3 79,f3 80,f3 81,f3 82,f3 83,f3 84,f3 85,f3 86,f3 87,f3 88,f3 89,f3 90,f3 91,f3 92,f3 93,f3 94,f3 95,f3 96,f3 97,f3 98,f3 99,f3 100,f3 101,f3 102],[]⟩:=⟨_,rfl⟩
 have eA:(Act.put ⟨#[.bool false,v1,.int .i64 0,.pointer (some ⟨b3,0,none⟩),.int .i64 0,.pointer (some ⟨b5,0,none⟩),.int .i64 0,v7,.int .i64 0,f3 9,f3 10,f3 11,f3 12,f3 13,f3 14,f3 15,f3 16,f3 17,f3 18,f3 19,f3 20,f3 21,f3 22,f3 23,f3 24,f3 25,f3 26,f3 27,f3 28,f3 29,f3 30,f3 31,f3 32,f3 33,f3 34,f3 35,f3 36,.agg #[vv3,rv3],f3 38,f3 39,f3 40,f3 41,f3 42,f3 43,f3 44,f3 45,f3 46,f3 47,f3 48,f3 49,f3 50,f3 51,f3 52,f3 53,f3 54,f3 55,f3 56,f3 57,f3 58,f3 59,f3 60,f3 61,f3 62,f3 63,f3 64,f3 65,f3 66,f3 67,f3 68,f3 69,f3 70,f3 71,f3 72,f3 73,f3 74,f3 75,f3 76,f3 77,f3 78,f3 79,f3 80,f3 81,f3 82,f3 83,f3 84,f3 85,f3 86,f3 87,f3 88,f3 89,f3 90,f3 91,f3 92,f3 93,f3 94,f3 95,f3 96,f3 97,f3 98,f3 99,f3 100,f3 101,f3 102],[]⟩ (some 38) (.tuple #[.int .i64 0,.int .i64 3,.int .i64 0]))=a4:=by rw [ha4];rfl
 show kU Tryd.prog (G (b.at (Act.put ⟨#[.bool false,v1,.int .i64 0,.pointer (some ⟨b3,0,none⟩),.int .i64 0,.pointer (some ⟨b5,0,none⟩),.int .i64 0,v7,.int .i64 0,f3 9,f3 10,f3 11,f3 12,f3 13,f3 14,f3 15,f3 16,f3 17,f3 18,f3 19,f3 20,f3 21,f3 22,f3 23,f3 24,f3 25,f3 26,f3 27,f3 28,f3 29,f3 30,f3 31,f3 32,f3 33,f3 34,f3 35,f3 36,.agg #[vv3,rv3],f3 38,f3 39,f3 40,f3 41,f3 42,f3 43,f3 44,f3 45,f3 46,f3 47,f3 48,f3 49,f3 50,f3 51,f3 52,f3 53,f3 54,f3 55,f3 56,f3 57,f3 58,f3 59,f3 60,f3 61,f3 62,f3 63,f3 64,f3 65,f3 66,f3 67,f3 68,f3 69,f3 70,f3 71,f3 72,f3 73,f3 74,f3 75,f3 76,f3 77,f3 78,f3 79,f3 80,f3 81,f3 82,f3 83,f3 84,f3 85,f3 86,f3 87,f3 88,f3 89,f3 90,f3 91,f3 92,f3 93,f3 94,f3 95,f3 96,f3 97,f3 98,f3 99,f3 100,f3 101,f3 102],[]⟩ (some 38) (.tuple #[.int .i64 0,.int .i64 3,.int .i64 0])) (.inRegion qm [2,3,4,5,6,7,8] :: [.code Zq])) cs) w4 _
 rw [eA,ha4]
 refine vI (tgt:=[.code .ret]) hbf hbk (by kernel_rfl) (fun d hd=>nomatch hd) hh4 (S:=fun a w'=>a.tmps[0]? = some (.bool true)∧a.defers=[]∧Kp w4 w')
  (fun a w' τ d h=>⟨h.1,h.2.1,aaw h.2.2 τ d⟩) (fun τ d=>?_) ?_
 ·refine (UN (w:=w4.re τ d) hB3 hS4.view v1 v7 b3 b5 ho1 ho7 (pW.mono hv1 hV3) hv7 (fun i v h=>(hc3 i v h).mono hV3) hc5 (fun j=>if j=37 then .agg #[vv3,rv3] else f3 j)).mono ?_
  rintro a w' ⟨h1,h2,h3⟩
  exact ⟨h1,h2,uq h3⟩
 rintro a w5 ⟨h0,hd,hk5⟩ hh5
 have g:a.tmps.getD 0 undef=.bool true:=by
  rw [Array.getD_eq_getD_getElem?,h0]
  rfl
 refine Vo (v:=.bool true) hbf hbk hd Tryd.func21 hh5 ?_ ⟨rfl,hkp.trans hk5⟩ xM
 have h:=results_tmp (fn:=Tryd.f21) (t:=0) (by kernel_rfl) a.tmps Tryd.prog w5
 rw [g] at h
 exact h
theorem oZ {P:Program} {l:List Oper} {md:Region.Mode} {o:Oper} {a:Act} {Q:Exit→Act→World→Prop} {S:World→Prop} {fuel:Nat} {listed:Array Bool} (i:Nat) (hr:Region.ready md l.toArray listed=[i]) (hi₀:l[i]? = some o) (hw:Region.wanted o (yielded l.toArray a.tmps)=true)
  (h:∃ f args,(execOp a.eval o).run P w=.ok (.enter f args) w∧Calls P f args w fun e w'=>∃ v,e=.returned v∧∀ a' l',a.put o.dst v=a'→listed.setIfInBounds i true=l'→S w'∧wpAnyH P md l.toArray Q S fuel l' a' w'):wpAnyH P md l.toArray Q S (fuel+1) listed a w:=by
 obtain ⟨f,args,hr',hc⟩:=h
 exact mG hr (yB (R:=fun v w'=>∀ a' l',a.put o.dst v=a'→listed.setIfInBounds i true=l'→S w'∧wpAnyH P md l.toArray Q S fuel l' a' w') (jV hi₀) hw hr' hc fun v w' h=>h _ _ rfl rfl)
theorem wO {v:Value} {n sz:Nat} {get:Nat→List Value} (h:pW V v n sz get):v.oneCell'=true:=by
 obtain ⟨a,cap,rfl,_⟩:=h.is
 rfl
theorem abA {w0:World} {X:List Nat} {L:List dF} {vv rv:Value} {k:Wk} {R:Ending→World→Prop} {t:Bool} {e:Int} (hS:St w0 X V L w) (hB:Bs V) (hk:iJ V vv rv k) (hv:abN k=(t,e))
  (h:∀ w',St w0 X V L w'→R (.returned (.tuple #[.bool t,.int .i64 e])) w'):Calls Tryd.prog 25 #[.agg #[vv,rv]] w R:=by
 have hc:=acZ vv rv k hk hB.gv hS.view
 rw [hv] at hc
 exact aH hS ⟨_,hc,h⟩
end Go.Proofs.YtjjmefieegcddaaDoor
namespace Go.Tm
open Go
open Go.Conc
variable {P:Program}
section
variable {tgt k:List Item} {S:Act→World→Prop} {a:Act} {w:World}
theorem aa7 {todo todo':List Item} {a':Act} {w':World} (hs:∀ (b:Frame) (cs:List Frame),b.kind=.normal→Steps P (lone (b.at a todo) cs w) (lone (b.at a' todo') cs w')) (h:fA P tgt S todo' a' w'):fA P tgt S todo a w:=fun b cs hb=>by
 obtain ⟨a2,w2,h1,h2⟩:=h b cs hb
 exact ⟨a2,w2,h1,(hs b cs hb).trans h2⟩
theorem abY {ops:Array Oper} {l2:List Nat}:∀ (l1:List Nat) (a:Act) (w:World),wpOps P ops (fun e a' w'=>e=.normal∧fA P tgt S (.inRegion ops l2 :: k) a' w') l1 a w→fA P tgt S (.inRegion ops (l1 ++ l2) :: k) a w
 | [],a,w,h=>h.2
 | i :: rest,a,w,h=>by
  have ih:=abY (ops:=ops) (l2:=l2) rest
  simp only [wpOps] at h
  rw [List.cons_append]
  cases ho:ops[i]? with
  | none =>
   simp only [ho] at h
   refine aa7 (fun b cs _=>?_) (ih a w h)
   have hs:=step_op_skip (P:=P) (b:=b) (a:=a) (k:=k) (cs:=cs) (w:=w) (ops:=ops) (i:=i) (rest:=rest ++ l2) (by simp [ho])
   simp only [ho,Option.bind_none,Act.put] at hs
   exact .one hs
  | some o =>
   simp only [ho] at h
   by_cases hw:Region.wanted o (yielded ops a.tmps)=true
   ·simp only [hw,if_true] at h
    rcases h with h | ⟨hasks,a₀,w₀,hq⟩
    case inr=>exact nomatch hq.1
    simp only [Oper.wp,Oper.upon] at h
    split at h
    ·rename_i v w' hr
     exact cO ho hw hr (ih _ _ h)
    ·rename_i w' hr
     exact Q8 ho hw hr (ih _ _ h)
    ·rename_i d w' hr
     refine aa7 (fun b cs _=>.one (step_lone_go ?_)) (ih _ _ h)
     have hg:=stepG_op (P:=P) (b:=b) (k:=k) (cs:=cs) (w:=w) (rest:=rest ++ l2) ho hw
     have:({ b.at a (.inRegion ops (i :: (rest ++ l2)) :: k) with defers:=d :: a.defers }:Frame).finish undef =
       b.at ({ a with defers:=d :: a.defers }.put o.dst undef) (.inRegion ops (rest ++ l2) :: k):=by
      have:=Frame.finish_at b { a with defers:=d :: a.defers } ops i (rest ++ l2) k undef
      rw [ho] at this;exact this
     rw [hg];simp only [stepG.apply,Sem.runT_eq,hr,GStep.bare_after]
     exact congrArg (fun fr=>GStep.go { frame:=fr,callers:=cs,status:=.running,dying:=none } w') this
    ·rename_i f args w' hr
     refine rZ ho hw hr (h.mono fun e w'' hR=>?_)
     cases e with
     | returned v=>exact ⟨v,rfl,ih _ _ hR⟩
     | panicked chain=>exact nomatch hR.1
     | outgrown =>
      obtain ⟨a₀,w₀,hq⟩:=hR
      exact nomatch hq.1
    ·rename_i row args w' hr
     intro b cs hb
     have hg:=stepG_op (P:=P) (b:=b) (k:=k) (cs:=cs) (w:=w) (rest:=rest ++ l2) ho hw
     have hfin:∀ v,(b.at a (.inRegion ops (i :: (rest ++ l2)) :: k)).finish v=b.at (a.put o.dst v) (.inRegion ops (rest ++ l2) :: k):=by
      intro v;rw [Frame.finish_at,ho];rfl
     obtain ⟨v,w'',hR,hsteps⟩:=h (b.at a (.inRegion ops (i :: (rest ++ l2)) :: k)) cs
     have henter:step P (lone (b.at a (.inRegion ops (i :: (rest ++ l2)) :: k)) cs w) =
       .next (lone (Frame.ofRow P row args .normal) (b.at a (.inRegion ops (i :: (rest ++ l2)) :: k) :: cs) w') :=
      step_lone_go (by rw [hg];simp [stepG.apply,hr,Frame.at])
     obtain ⟨a',w₃,hq,harr⟩:=ih _ _ hR b cs hb
     refine ⟨a',w₃,hq,.head henter (Steps.trans ?_ harr)⟩
     rw [← hfin];exact hsteps
    ·exact nomatch h.1
    ·exact h.elim
   ·simp only [hw,if_false,Bool.false_eq_true] at h
    refine aa7 (fun b cs _=>?_) (ih _ _ h)
    have hs:=step_op_skip (P:=P) (b:=b) (a:=a) (k:=k) (cs:=cs) (w:=w) (ops:=ops) (i:=i) (rest:=rest ++ l2)
     (by simp [ho];simpa using hw)
    simp only [ho,Option.bind_some] at hs
    exact .one hs
theorem abB {ops:Array Oper} {Q:Exit→Act→World→Prop} (l:List Oper) (m:Nat) (h:∀ j,j < l.length→l[j]? = ops[m+j]?):wpOps P ops Q (List.range' m l.length)=wpList P ops Q l:=by
 induction l generalizing m with
 | nil=>funext a w;simp [wpOps,wpList]
 | cons o l ih =>
  have h0:ops[m]? = some o:=by simpa using (h 0 (by simp)).symm
  have ih':=ih (m+1) (fun j hj=>by have:=h (j+1) (by simpa using hj);simpa [Nat.add_assoc,Nat.add_comm 1 j] using this)
  funext a w
  simp only [List.length_cons,List.range'_succ,wpOps,h0,wpList,ih']
end
end Go.Tm
namespace Go.Proofs.YtjjmefieegcddaaDoor
open Go.RowKit Go.Wg Go.Mm Go.Wk
open Go Go.Sr Go.Ph Go.Tm Go.Conc
variable {w:World} {V:View} {f0:FuncId} {R:Ending→World→Prop} {todo k0:List Item} {a:Act}
structure RB (f0:FuncId) (R:Ending→World→Prop) (todo:List Item) (a:Act) (w:World):Prop where
 df:a.defers=[]
 run:∀ (b:Frame) (cs:List Frame),b.fn=f0→b.kind=.normal→∀ τ d,ay OC (w.re τ d) →
  kU Tryd.prog (G (b.at a todo) cs) (w.re τ d) fun a' w'=>∃ e fr,a'=G fr cs∧R e w'∧fr.fn=f0∧fr.leaving Tryd.prog w' e∧e≠.outgrown∧ay OC w'
theorem RB.re (h:RB f0 R todo a w) (τ:Nat→Question→Nat) (d:Nat):RB f0 R todo a (w.re τ d):=⟨h.df,fun b cs h1 h2 τ' d' hh=>h.run b cs h1 h2 τ' d' hh⟩
theorem acV (tgt:List Item) (hit:todo.all qy=true) (hd:a.defers=[]) (h:∀ τ d,fA Tryd.prog tgt (RB f0 R tgt) todo a (w.re τ d)):RB f0 R todo a w :=
 ⟨hd,fun b cs hbf hbk τ d hh=>vI hbf hbk hit (fun x hx=>by rw [hd] at hx;cases hx) hh (S:=RB f0 R tgt) (fun a w τ d h=>h.re τ d) (fun τ' d'=>h τ' d') fun a' w' hS hh'=>hS.run b cs hbf hbk w'.tape w'.drawn hh'⟩
theorem acP {N:FuncId} {args:Array Value} {R':Ending→World→Prop} {ops:Array Oper} {l:List Nat} {i:Nat} {o:Oper} (hd:a.defers=[]) (ho:ops[i]? = some o) (hw:Region.wanted o (yielded ops a.tmps)=true) (hok':qj true o.op=true)
  (hr:∀ w,(execOp a.eval o).run Tryd.prog w=.ok (.enter N args) w) (hpan:∀ ch w,¬ R' (.panicked ch) w) (hc:∀ τ d,ay OC (w.re τ d)→kL Tryd.prog N args (w.re τ d) R')
  (hk:∀ v w',R' (.returned v) w'→RB f0 R (.inRegion ops l :: k0) (a.put o.dst v) w'):RB f0 R (.inRegion ops (i :: l) :: k0) a w :=
 ⟨hd,fun b cs hbf hbk τ d hh=>Oh (hc τ d hh) hh hbk ho hw hok' hr hpan fun v w' hv hh'=>(hk v w' hv).run b cs hbf hbk w'.tape w'.drawn hh'⟩
theorem abP {f0:FuncId} {R:Ending→World→Prop} {fn:Func} {B:Code} {args:Array Value} {m:Nat} (hf:Tryd.prog.funcs[f0]? = some fn) (hb:fn.body=some B) (hm:fn.ntmps - args.size=m) (hh:ay OC w)
  (h:RB f0 R [.code B] { tmps:=args ++ Array.replicate m undef,defers:=[] } w):kL Tryd.prog f0 args w R :=
 jD hf hb fun cs b hbf hbk _=>by
  rw [hm]
  exact h.run b cs hbf hbk w.tape w.drawn hh
theorem acX {fn:Func} {v:Value} (hf:Tryd.prog.funcs[f0]? = some fn) (hd:a.defers=[]) (hr:∀ w,(results fn a.tmps).run Tryd.prog w=.ok v w) (hR:∀ τ d,R (.returned v) (w.re τ d)) (hins:Ins R):RB f0 R (.code .ret :: k0) a w :=
 ⟨hd,fun b cs hbf hbk τ d hh=>Vo hbf hbk hd hf hh (hr _) (hR τ d) hins⟩
end Go.Proofs.YtjjmefieegcddaaDoor
namespace Go.Wg
open Go Go.Mm Go.Proofs.YtjjmefieegcddaaDoor
structure Holds (g:Gr) (P:Nat→Int→Prop):Prop where
 wf:g.WF
 has:∀ n,g.has.testBit n=true↔∃ y,P n y
 lo:∀ n,g.has.testBit n=true→P n (g.get n).1
 hi:∀ n,g.has.testBit n=true→P n (g.get n).2
 all:∀ n y,P n y→(g.get n).1≤y∧y≤(g.get n).2
theorem acI {x n:Nat} (h1:x < 2199023255552) (h:x.testBit n=true):n≤40:=by
 rcases Nat.lt_or_ge n 41 with h2 | h2
 ·omega
 ·have:x.testBit n=false:=Nat.testBit_lt_two_pow (Nat.lt_of_lt_of_le h1 (by
   rw [show (2199023255552:Nat)=2 ^ 41 by decide]
   exact Nat.pow_le_pow_right (by decide) h2))
  rw [this] at h;cases h
theorem Holds.small {g:Gr} {P:Nat→Int→Prop} (h:Holds g P) {n:Nat} {y:Int} (hp:P n y):n≤40:=acI h.wf.small ((h.has n).2 ⟨y,hp⟩)
theorem Holds.congr {g:Gr} {P Q:Nat→Int→Prop} (h:Holds g P) (e:∀ n y,P n y↔Q n y):Holds g Q:=by
 have:P=Q:=funext fun n=>funext fun y=>propext (e n y)
 rwa [← this]
theorem aav:Holds Gr.empty fun _ _=>False :=
 ⟨Gr.uQ,fun n=>⟨fun h=>by simp [Gr.empty] at h,fun ⟨_,h⟩=>h.elim⟩,fun n h=>by simp [Gr.empty] at h,fun n h=>by simp [Gr.empty] at h,fun n y h=>h.elim⟩
theorem abW (g:Gr) (n:Nat) (v:Int × Int) (m:Nat):(g.add n v).has.testBit m=(g.has.testBit m || decide (n=m)):=by
 show (g.has ||| 2 ^ n).testBit m=_
 rw [Nat.testBit_or,Nat.testBit_two_pow]
theorem add_get (g:Gr) (hg:g.WF) {n:Nat} (hn:n < 41) (v:Int × Int) (m:Nat):(g.add n v).get m=if n=m then (if g.has.testBit n then sO (g.get n) v else v) else g.get m:=by
 have hl:=hg.len
 show (g.at_.set n _).getD m (0,0)=_
 rw [fC _ _ _ _ _ (by omega)]
 rfl
theorem Holds.add {g:Gr} {P:Nat→Int→Prop} (h:Holds g P) {n:Nat} (hn:n < 41) {Q:Int→Prop} {v:Int × Int} (h1:Q v.1) (h2:Q v.2) (ha:∀ y,Q y→v.1≤y∧y≤v.2):Holds (g.add n v) fun m y=>P m y∨(m=n∧Q y):=by
 have hv:=ha _ h1
 refine ⟨h.wf.add hn v,fun m=>?_,fun m hm=>?_,fun m hm=>?_,fun m y hy=>?_⟩
 ·rw [abW,Bool.or_eq_true,decide_eq_true_eq,h.has]
  constructor
  ·rintro (⟨y,hy⟩ | rfl)
   ·exact ⟨y,.inl hy⟩
   ·exact ⟨_,.inr ⟨rfl,h1⟩⟩
  ·rintro ⟨y,hy | ⟨rfl,_⟩⟩
   ·exact .inl ⟨y,hy⟩
   ·exact .inr rfl
 ·rw [abW,Bool.or_eq_true,decide_eq_true_eq] at hm
  rw [add_get g h.wf hn]
  by_cases e:n=m
  ·subst e
   rw [if_pos rfl]
   split
   ·rename_i hb
    show P n (min (g.get n).1 v.1)∨(n=n∧Q (min (g.get n).1 v.1))
    rcases Int.le_total (g.get n).1 v.1 with h3 | h3
    ·rw [Int.min_eq_left h3];exact .inl (h.lo n hb)
    ·rw [Int.min_eq_right h3];exact .inr ⟨rfl,h1⟩
   ·exact .inr ⟨rfl,h1⟩
  ·rw [if_neg e]
   exact .inl (h.lo m (hm.resolve_right e))
 ·rw [abW,Bool.or_eq_true,decide_eq_true_eq] at hm
  rw [add_get g h.wf hn]
  by_cases e:n=m
  ·subst e
   rw [if_pos rfl]
   split
   ·rename_i hb
    show P n (max (g.get n).2 v.2)∨(n=n∧Q (max (g.get n).2 v.2))
    rcases Int.le_total (g.get n).2 v.2 with h3 | h3
    ·rw [Int.max_eq_right h3];exact .inr ⟨rfl,h2⟩
    ·rw [Int.max_eq_left h3];exact .inl (h.hi n hb)
   ·exact .inr ⟨rfl,h2⟩
  ·rw [if_neg e]
   exact .inl (h.hi m (hm.resolve_right e))
 ·rw [add_get g h.wf hn]
  by_cases e:n=m
  ·subst e
   rw [if_pos rfl]
   split
   ·show min _ _≤y∧y≤max _ _
    rcases hy with hy | ⟨_,hy⟩
    ·have:=h.all n y hy;omega
    ·have:=ha y hy;omega
   ·rename_i hb
    rcases hy with hy | ⟨_,hy⟩
    ·exact absurd ((h.has n).2 ⟨y,hy⟩) hb
    ·exact ha y hy
  ·rw [if_neg e]
   rcases hy with hy | ⟨rfl,_⟩
   ·exact h.all m y hy
   ·exact absurd rfl e
theorem acg (s:SS) (st:Bool) (i:Nat) (m:Nat) (hm:m≤41):Holds (lY s st i m) fun n y=>n < m∧(s.aK i).testBit n=true∧y=if st then (n:Int) else 0:=by
 induction m with
 | zero=>exact aav.congr fun n y=>⟨fun h=>h.elim,fun h=>absurd h.1 (by omega)⟩
 | succ m ih =>
  rw [lY]
  have h:=ih (by omega)
  split
  ·rename_i hb
   refine (h.add (n:=m) (by omega) (Q:=fun y=>y=if st then (m:Int) else 0) (by cases st <;> rfl) (by cases st <;> rfl) (by rintro y rfl;cases st <;> simp)).congr fun n y=>?_
   constructor
   ·rintro (⟨h1,h2⟩ | ⟨rfl,h2⟩)
    ·exact ⟨by omega,h2⟩
    ·exact ⟨by omega,hb,h2⟩
   ·rintro ⟨h1,h2,h3⟩
    by_cases e:n=m
    ·subst e;exact .inr ⟨rfl,h3⟩
    ·exact .inl ⟨by omega,h2,h3⟩
  ·rename_i hb
   refine h.congr fun n y=>⟨fun ⟨h1,h2⟩=>⟨by omega,h2⟩,fun ⟨h1,h2,h3⟩=>⟨?_,h2,h3⟩⟩
   by_cases e:n=m
   ·subst e;exact absurd h2 hb
   ·omega
theorem acD {a b g:Gr} {P Q R:Nat→Int→Prop} (ha:Holds a P) (hb:Holds b Q) (hg:Holds g R) (x:Nat) (m:Nat) (hm:x+m≤41) :
  Holds (rM a b x g m) fun n y=>R n y∨∃ q y1 y2,q < m∧n=x+q∧P x y1∧Q q y2∧y=y1+y2:=by
 induction m with
 | zero=>exact hg.congr fun n y=>⟨.inl,fun h=>h.elim id fun ⟨q,_,_,h,_⟩=>absurd h (by omega)⟩
 | succ m ih =>
  rw [rM]
  have h:=ih (by omega)
  split
  ·rename_i hc
   rw [Bool.and_eq_true] at hc
   refine (h.add (n:=x+m) (by omega) (Q:=fun y=>∃ y1 y2,P x y1∧Q m y2∧y=y1+y2) ⟨_,_,ha.lo x hc.1,hb.lo m hc.2,rfl⟩ ⟨_,_,ha.hi x hc.1,hb.hi m hc.2,rfl⟩ ?_).congr fun n y=>?_
   ·rintro y ⟨y1,y2,h1,h2,rfl⟩
    have:=ha.all _ _ h1
    have:=hb.all _ _ h2
    show (a.get x).1+(b.get m).1≤_∧_≤(a.get x).2+(b.get m).2
    omega
   ·constructor
    ·rintro ((h1 | ⟨q,y1,y2,h1,h2⟩) | ⟨rfl,y1,y2,h2⟩)
     ·exact .inl h1
     ·exact .inr ⟨q,y1,y2,by omega,h2⟩
     ·exact .inr ⟨m,y1,y2,by omega,rfl,h2⟩
    ·rintro (h1 | ⟨q,y1,y2,h1,h2,h3⟩)
     ·exact .inl (.inl h1)
     ·by_cases e:q=m
      ·subst e;exact .inr ⟨h2,y1,y2,h3⟩
      ·exact .inl (.inr ⟨q,y1,y2,by omega,h2,h3⟩)
  ·rename_i hc
   refine h.congr fun n y=>⟨fun h1=>h1.imp_right fun ⟨q,y1,y2,h1,h2⟩=>⟨q,y1,y2,by omega,h2⟩,fun h1=>h1.imp_right fun ⟨q,y1,y2,h1,h2,h3,h4,h5⟩=>⟨q,y1,y2,?_,h2,h3,h4,h5⟩⟩
   by_cases e:q=m
   ·subst e
    exact absurd (by rw [(ha.has x).2 ⟨y1,h3⟩,(hb.has q).2 ⟨y2,h4⟩];rfl) hc
   ·omega
theorem abZ {a b:Gr} {P Q:Nat→Int→Prop} (ha:Holds a P) (hb:Holds b Q) (x:Nat) (hx:x≤41) :
  Holds (ku a b x) fun n y=>∃ p q y1 y2,p < x∧n=p+q∧n≤40∧P p y1∧Q q y2∧y=y1+y2:=by
 induction x with
 | zero=>exact aav.congr fun n y=>⟨fun h=>h.elim,fun ⟨_,_,_,_,h,_⟩=>absurd h (by omega)⟩
 | succ x ih =>
  rw [ku]
  refine (acD ha hb (ih (by omega)) x (41 - x) (by omega)).congr fun n y=>?_
  constructor
  ·rintro (⟨p,q,y1,y2,h1,h2⟩ | ⟨q,y1,y2,h1,h2,h3⟩)
   ·exact ⟨p,q,y1,y2,by omega,h2⟩
   ·exact ⟨x,q,y1,y2,by omega,h2,by omega,h3⟩
  ·rintro ⟨p,q,y1,y2,h1,h2,h3,h4⟩
   by_cases e:p=x
   ·subst e;exact .inr ⟨q,y1,y2,by omega,h2,h4⟩
   ·exact .inl ⟨p,q,y1,y2,by omega,h2,h3,h4⟩
theorem ach {a b:Gr} {P Q:Nat→Int→Prop} (ha:Holds a P) (hb:Holds b Q):Holds (pR a b) fun n y=>∃ p q y1 y2,n=p+q∧n≤40∧P p y1∧Q q y2∧y=y1+y2 :=
 (abZ ha hb 41 (by omega)).congr fun n y=>⟨fun ⟨p,q,y1,y2,_,h⟩=>⟨p,q,y1,y2,h⟩,fun ⟨p,q,y1,y2,h1,h2,h3⟩=>⟨p,q,y1,y2,by omega,h1,h2,h3⟩⟩
theorem abH {F:Nat→Gr} {Px:Nat→Nat→Int→Prop}:∀ (l:List Nat),l.Nodup→(∀ x∈l,Holds (F x) (Px x))→∀ {g:Gr} {R:Nat→Int→Prop},Holds g R →
  Holds (l.foldl (fun sm x=>pR sm (F x)) g) fun n y=>n≤40∧∃ n0 y0,∃ (c:Nat→Nat) (z:Nat→Int),R n0 y0∧(∀ x∈l,Px x (c x) (z x))∧n=n0+(l.map c).sum∧y=y0+(l.map z).sum
 | [],_,_,g,R,hg=>hg.congr fun n y=>by
  constructor
  ·exact fun h=>⟨hg.small h,n,y,fun _=>0,fun _=>0,h,(fun x hx=>nomatch hx),by simp,by simp⟩
  ·rintro ⟨_,n0,y0,c,z,h,_,h2,h3⟩
   simp at h2 h3
   rw [h2,h3];exact h
 | x :: l,hd,hF,g,R,hg=>by
  obtain ⟨hx,hl⟩:=List.nodup_cons.1 hd
  rw [List.foldl_cons]
  refine (abH l hl (fun y hy=>hF y (List.mem_cons_of_mem _ hy)) (ach hg (hF x (List.mem_cons_self ..)))).congr fun n y=>?_
  constructor
  ·rintro ⟨h40,n0,y0,c,z,⟨p,q,y1,y2,h1,h2,h3,h4,h5⟩,h6,h7,h8⟩
   have e:∀ {β:Type} [Inhabited β] (c:Nat→β) (q:β),l.map (fun y=>if y=x then q else c y)=l.map c:=fun c q=>List.map_congr_left fun y hy=>by
    have:y≠x:=fun e=>hx (e ▸ hy)
    simp [this]
   refine ⟨h40,p,y1,fun y=>if y=x then q else c y,fun y=>if y=x then y2 else z y,h3,fun y hy=>?_,?_,?_⟩
   ·rcases List.mem_cons.1 hy with rfl | hy
    ·simpa using h4
    ·have:y≠x:=fun e=>hx (e ▸ hy)
     simpa [this] using h6 y hy
   ·rw [List.map_cons,List.sum_cons,e,if_pos rfl];omega
   ·rw [List.map_cons,List.sum_cons,e,if_pos rfl];omega
  ·rintro ⟨h40,n0,y0,c,z,h1,h2,h3,h4⟩
   rw [List.map_cons,List.sum_cons] at h3 h4
   exact ⟨h40,n0+c x,y0+z x,c,z,⟨n0,c x,y0,z x,rfl,by omega,h1,h2 x (List.mem_cons_self ..),rfl⟩,fun y hy=>h2 y (List.mem_cons_of_mem _ hy),by omega,by omega⟩
theorem abJ {sums g:Gr} {P R:Nat→Int→Prop} (hs:Holds sums P) (hg:Holds g R) (lim:Nat) (st:Bool) {lo:Int} (hlo:0≤lo) (x:Nat) (m:Nat) (hm:∀ j:Nat,j < m→x+(lo+j).toNat < 41) :
  Holds (iO sums lim st lo x g m) fun n y=>R n y∨∃ (j:Nat) (y1:Int),j < m∧n=x+(lo+j).toNat∧lim.testBit n=true∧P x y1∧y=if st then y1 else y1+(lo+j):=by
 induction m with
 | zero=>exact hg.congr fun n y=>⟨.inl,fun h=>h.elim id fun ⟨q,_,h,_⟩=>absurd h (by omega)⟩
 | succ m ih =>
  rw [iO]
  have h:=ih fun j hj=>hm j (by omega)
  split
  ·rename_i hc
   rw [Bool.and_eq_true] at hc
   refine (h.add (n:=x+(lo+m).toNat) (hm m (by omega)) (Q:=fun y=>∃ y1,P x y1∧y=if st then y1 else y1+(lo+m)) ⟨(sums.get x).1,hs.lo x hc.1,by cases st <;> rfl⟩ ⟨(sums.get x).2,hs.hi x hc.1,by cases st <;> rfl⟩ ?_).congr fun n y=>?_
   ·rintro y ⟨y1,h1,rfl⟩
    have:=hs.all _ _ h1
    cases st
    ·show (sums.get x).1+(lo+m)≤y1+(lo+m)∧y1+(lo+m)≤(sums.get x).2+(lo+m)
     omega
    ·exact this
   ·constructor
    ·rintro ((h1 | ⟨q,y1,h1,h2⟩) | ⟨rfl,y1,h2,h3⟩)
     ·exact .inl h1
     ·exact .inr ⟨q,y1,by omega,h2⟩
     ·exact .inr ⟨m,y1,by omega,rfl,hc.2,h2,h3⟩
    ·rintro (h1 | ⟨q,y1,h1,h2,h3,h4⟩)
     ·exact .inl (.inl h1)
     ·by_cases e:q=m
      ·subst e;exact .inr ⟨h2,y1,h4⟩
      ·exact .inl (.inr ⟨q,y1,by omega,h2,h3,h4⟩)
  ·rename_i hc
   refine h.congr fun n y=>⟨fun h1=>h1.imp_right fun ⟨q,y1,h1,h2⟩=>⟨q,y1,by omega,h2⟩,fun h1=>h1.imp_right fun ⟨q,y1,h1,h2,h3,h4,h5⟩=>⟨q,y1,?_,h2,h3,h4,h5⟩⟩
   by_cases e:q=m
   ·subst e
    rw [h2] at h3
    exact absurd (by rw [(hs.has x).2 ⟨y1,h4⟩,h3];rfl) hc
   ·omega
theorem abT {sums:Gr} {P:Nat→Int→Prop} (hs:Holds sums P) (lim:Nat) (st:Bool) {lo hi:Int} (hlo:0≤lo) (X:Nat) (hX:X≤41) :
  Holds (jY sums lim st lo hi X) fun n y=>∃ (x d:Nat) (y1:Int),x < X∧lo≤d∧(d:Int)≤hi∧n=x+d∧n≤40∧lim.testBit n=true∧P x y1∧y=if st then y1 else y1+d:=by
 induction X with
 | zero=>exact aav.congr fun n y=>⟨fun h=>h.elim,fun ⟨_,_,_,h,_⟩=>absurd h (by omega)⟩
 | succ x ih =>
  rw [jY]
  have hN:∀ j:Nat,j < qY lo hi x→lo+j≤hi∧x+(lo+j).toNat < 41:=fun j hj=>by
   unfold qY at hj
   omega
  refine (abJ hs (ih (by omega)) lim st hlo x (qY lo hi x) fun j hj=>(hN j hj).2).congr fun n y=>?_
  constructor
  ·rintro (⟨p,d,y1,h1,h2⟩ | ⟨j,y1,h1,h2,h3,h4,h5⟩)
   ·exact ⟨p,d,y1,by omega,h2⟩
   ·have:=hN j h1
    refine ⟨x,(lo+j).toNat,y1,by omega,by omega,by omega,h2,by omega,h3,h4,?_⟩
    rw [h5,show ((lo+j).toNat:Int)=lo+j by omega]
  ·rintro ⟨p,d,y1,h1,h2,h3,h4,h5,h6,h7,h8⟩
   by_cases e:p=x
   ·subst e
    refine .inr ⟨(d - lo).toNat,y1,by unfold qY;omega,by omega,h6,h7,?_⟩
    rw [h8,show lo+((d - lo).toNat:Int)=d by omega]
   ·exact .inl ⟨p,d,y1,by omega,h2,h3,h4,h5,h6,h7,h8⟩
theorem aaU {α:Type} (p:α→Bool) (o:α→Int) (l:List α):((l.filter p).map o).sum=(l.map fun j=>if p j then o j else 0).sum:=by
 induction l with
 | nil=>rfl
 | cons a l ih =>
  by_cases h:p a=true
  ·rw [List.filter_cons_of_pos h];simp [ih,h]
  ·rw [List.filter_cons_of_neg h];simp [ih,h]
theorem sum_add {α:Type} (f g:α→Int) (l:List α):(l.map fun j=>f j+g j).sum=(l.map f).sum+(l.map g).sum:=by
 induction l with
 | nil=>rfl
 | cons a l ih=>simp only [List.map_cons,List.sum_cons,ih];omega
theorem aaZ {α:Type} {f:α→Int} {l:List α} (h:∀ x∈l,f x=0):(l.map f).sum=0:=by
 induction l with
 | nil=>rfl
 | cons a l ih=>rw [List.map_cons,List.sum_cons,h a (by simp),ih fun x hx=>h x (by simp [hx])];rfl
theorem abG {α:Type} {f:α→Int} {l:List α} {x:α} (hl:l.Nodup) (hx:x∈l) (h:∀ y∈l,y≠x→f y=0):(l.map f).sum=f x:=by
 induction l with
 | nil=>cases hx
 | cons a l ih =>
  obtain ⟨ha,hl⟩:=List.nodup_cons.1 hl
  rw [List.map_cons,List.sum_cons]
  rcases List.mem_cons.1 hx with rfl | hx
  ·rw [aaZ fun y hy=>h y (by simp [hy]) fun e=>ha (e ▸ hy)];omega
  ·rw [h a (by simp) fun e=>ha (e ▸ hx),ih hl hx fun y hy=>h y (by simp [hy])];omega
theorem ab2 {α β:Type} (g:α→β→Int) (f:List α) (l:List β):(f.map fun x=>(l.map fun j=>g x j).sum).sum=(l.map fun j=>(f.map fun x=>g x j).sum).sum:=by
 induction f with
 | nil=>simp only [List.map_nil,List.sum_nil];exact (aaZ fun _ _=>rfl).symm
 | cons a f ih =>
  simp only [List.map_cons,List.sum_cons]
  rw [ih,sum_add (fun j=>g a j) fun j=>(f.map fun x=>g x j).sum]
theorem acN {α:Type} {f g:α→Int} {l:List α} (h:∀ x∈l,f x≤g x):(l.map f).sum≤(l.map g).sum:=by
 induction l with
 | nil=>exact Int.le_refl _
 | cons a l ih =>
  have:=h a (by simp)
  have:=ih fun x hx=>h x (by simp [hx])
  simp only [List.map_cons,List.sum_cons]
  omega
def aah (k:Wk) (o:Nat→Int) (i:Nat):Int:=(((List.range k.n).filter (inB k i)).map o).sum
theorem ab4 {k:Wk} {o o':Nat→Int} {i:Nat} (h:∀ j,j < k.n→inB k i j=true→o j=o' j):aah k o i=aah k o' i:=by
 unfold aah
 congr 1
 exact List.map_congr_left fun j hj=>by
  obtain ⟨h1,h2⟩:=List.mem_filter.1 hj
  exact h j (List.mem_range.1 h1) h2
theorem abf {k:Wk} (hok:k.Ok) (o:Nat→Int) {i:Nat} (hi:i < k.n):aah k o i=o i+((k.fills i).map (aah k o)).sum:=by
 have e1:((k.fills i).map (aah k o)).sum=((List.range k.n).map fun j=>((k.fills i).map fun x=>if inB k x j then o j else 0).sum).sum:=by
  rw [← ab2]
  congr 1
  exact List.map_congr_left fun x _=>aaU _ _ _
 have e2:o i=((List.range k.n).map fun j=>if j=i then o j else 0).sum:=by
  rw [abG (x:=i) List.nodup_range (List.mem_range.2 hi) fun y _ hy=>if_neg hy,if_pos rfl]
 unfold aah
 rw [aaU]
 conv=>rhs;rw [e2]
 rw [show ((k.fills i).map fun i=>(((List.range k.n).filter (inB k i)).map o).sum).sum=((k.fills i).map (aah k o)).sum from rfl,e1,← sum_add]
 congr 1
 refine List.map_congr_left fun j hj=>?_
 have hj':=List.mem_range.1 hj
 by_cases e:j=i
 ·subst e
  rw [if_pos rfl,if_pos (gq k j),aaZ fun x hx=>?_]
  ·omega
  ·rw [if_neg]
   intro h
   have h1:=DN hok x j hj' h
   have h2:=(rV hok hx).1
   omega
 ·rw [if_neg e]
  by_cases hb:inB k i j=true
  ·rw [if_pos hb]
   rcases Ie hok i j hj' hb with h | ⟨x,hx,hxb⟩
   ·exact absurd h e
   ·rw [abG (Bg k i) hx fun y hy hyx=>if_neg fun h=>hyx ?_,if_pos hxb]
    ·omega
    ·exact Qz hok (gK.1 hy).1 (gK.1 hx).1 (gK.1 hy).2 (gK.1 hx).2 j hj' h hxb
  ·rw [if_neg hb,aaZ fun x hx=>if_neg fun h=>hb (Rz hok hx j hj' h)]
   rfl
theorem V6 {k:Wk} (hok:k.Ok) {r:Nat}:r∈k.sources↔r < k.n∧(k.v r).from_=-1:=by
 unfold Wk.sources
 rw [List.mem_filter,List.mem_range,decide_eq_true_eq]
 constructor
 ·rintro ⟨h1,h2⟩
  have:=(hok.ves r h1).1
  exact ⟨h1,by omega⟩
 ·rintro ⟨h1,h2⟩
  exact ⟨h1,by omega⟩
theorem abI (k:Wk):k.sources.Nodup:=List.nodup_range.filter _
theorem acz {k:Wk} (hok:k.Ok) (o:Nat→Int):((List.range k.n).map o).sum=(k.sources.map (aah k o)).sum:=by
 have e1:(k.sources.map (aah k o)).sum=((List.range k.n).map fun j=>(k.sources.map fun x=>if inB k x j then o j else 0).sum).sum:=by
  rw [← ab2]
  congr 1
  exact List.map_congr_left fun x _=>aaU _ _ _
 rw [e1]
 congr 1
 refine List.map_congr_left fun j hj=>?_
 have hj':=List.mem_range.1 hj
 obtain ⟨r,h1,h2,h3⟩:=Yf hok j hj'
 rw [abG (abI k) ((V6 hok).2 ⟨h1,h2⟩) fun y hy hyx=>if_neg fun h=>hyx ?_,if_pos h3]
 have hy':=(V6 hok).1 hy
 exact Qz hok hy'.1 h1 hy'.2 h2 j hj' h h3
def mg (k:Wk) (w:Nat→Nat) (st:Bool) (j:Nat):Int :=
 if k.fills j=[] then (if st then (w j:Int) else 0) else (if st then 0 else (w j:Int) - (((k.fills j).map w).sum:Nat))
theorem abX {k:Wk} {w w':Nat→Nat} (st:Bool) {j:Nat} (h1:w j=w' j) (h2:∀ x∈k.fills j,w x=w' x):mg k w st j=mg k w' st j:=by
 unfold mg
 rw [h1,List.map_congr_left h2]
theorem aaG {k:Wk} (hok:k.Ok) {w w':Nat→Nat} (st:Bool) {i:Nat} (h:∀ j,j < k.n→inB k i j=true→w j=w' j):aah k (mg k w st) i=aah k (mg k w' st) i :=
 ab4 fun j hj hb=>abX st (h j hj hb) fun x hx=>h x (gK.1 hx).1 (Hf hok hb hx)
theorem ab5 {k:Wk} (hok:k.Ok) {s:SS} {f:List Nat} {fr:Int} (hf:∀ x∈f,x < k.n∧(k.v x).from_=fr) {Wp:Nat→(Nat→Nat)→Prop} (hW:∀ x∈f,∃ w:Nat→Nat,Wp x w∧∀ j,j < k.n→inB k x j=true→Fit k s w j) (w0:Nat→Nat) :
  ∃ w:Nat→Nat,(∀ j,(∀ x∈f,inB k x j=false)→w j=w0 j)∧∀ x∈f,∃ wx:Nat→Nat,Wp x wx∧(∀ j,j < k.n→inB k x j=true→w j=wx j∧Fit k s w j):=by
 have hW':∀ x,∃ w:Nat→Nat,x∈f→Wp x w∧∀ j,j < k.n→inB k x j=true→Fit k s w j:=fun x=>by
  by_cases hx:x∈f
  ·obtain ⟨w,h⟩:=hW x hx
   exact ⟨w,fun _=>h⟩
  ·exact ⟨fun _=>0,fun h=>absurd h hx⟩
 let W:Nat→Nat→Nat:=fun x=>Classical.choose (hW' x)
 have hWs:∀ x∈f,Wp x (W x)∧∀ j,j < k.n→inB k x j=true→Fit k s (W x) j:=fun x hx=>Classical.choose_spec (hW' x) hx
 have gin:∀ {x j},x∈f→j < k.n→inB k x j=true→glue k f W w0 j=W x j:=fun {x j} hx hj hb=>Qh hx hb fun y hy hb'=>Qz hok (hf y hy).1 (hf x hx).1 (hf y hy).2 (hf x hx).2 j hj hb' hb
 refine ⟨glue k f W w0,fun j h=>Ve h,fun x hx=>⟨W x,(hWs x hx).1,fun j hj hb=>⟨gin hx hj hb,?_⟩⟩⟩
 exact ((hWs x hx).2 j hj hb).congr (gin hx hj hb) fun y hy=>gin hx (gK.1 hy).1 (Hf hok hb hy)
theorem abR {k:Wk} (hok:k.Ok) {s:SS} (hs:s.WF) (hlo:∀ i,0≤(s.aP i).1) (st:Bool):∀ (f i:Nat),i < k.n→k.n - i≤f →
  Holds (jm k s st f i) fun n y=>∃ w:Nat→Nat,w i=n∧(∀ j,j < k.n→inB k i j=true→Fit k s w j)∧y=aah k (mg k w st) i:=fun f=>by
 induction f with
 | zero=>exact fun i h1 h2=>by omega
 | succ f ih =>
  intro i hi hf
  rw [jm]
  by_cases hn:k.fills i=[]
  ·rw [if_pos hn]
   refine (acg s st i 41 (by omega)).congr fun n y=>?_
   have hbr:∀ w,aah k (mg k w st) i=if st then (w i:Int) else 0:=fun w=>by
    rw [abf hok _ hi,hn]
    simp [mg,hn]
   constructor
   ·rintro ⟨h1,h2,h3⟩
    refine ⟨fun _=>n,rfl,fun j hj hb=>?_,by rw [hbr,h3]⟩
    rcases Ie hok i j hj hb with rfl | ⟨x,hx,_⟩
    ·exact ⟨h2,fun h=>absurd hn h⟩
    ·rw [hn] at hx;cases hx
   ·rintro ⟨w,rfl,h1,h2⟩
    have hl:=(h1 i hi (gq k i)).1
    have:=GU hs hl
    exact ⟨by omega,hl,by rw [h2,hbr]⟩
  ·rw [if_neg hn]
   have hfg:=fun x hx=>rV hok (i:=i) (x:=x) hx
   have hH:=abH (k.fills i) (Bg k i) (fun x hx=>ih x (hfg x hx).2 (by have:=hfg x hx;omega)) (aav.add (n:=0) (by decide) (Q:=fun y=>y=0) (v:=(0,0)) rfl rfl (by rintro y rfl;simp))
   refine (abT hH (s.aK i) st (hlo i) (hi:=(s.aP i).2) 41 (by omega)).congr fun n y=>?_
   constructor
   ·rintro ⟨x,d,y1,h1,h2,h3,rfl,h5,h6,⟨h7,n0,y0,c,z,h8,h9,rfl,rfl⟩,h10⟩
    obtain ⟨rfl,rfl⟩:n0=0∧y0=0:=h8.resolve_left id
    obtain ⟨w,hw1,hw2⟩:=ab5 hok (f:=k.fills i) (fr:=(i:Int)) (fun x hx=>gK.1 hx) (Wp:=fun x w=>w x=c x∧z x=aah k (mg k w st) x) (fun x hx=>by
     obtain ⟨w,g1,g2,g3⟩:=h9 x hx
     exact ⟨w,⟨g1,g3⟩,g2⟩) (fun _=>0+((k.fills i).map c).sum+d)
    have hwi:w i=0+((k.fills i).map c).sum+d:=hw1 i fun x hx=>by
     cases hh:inB k x i
     ·rfl
     ·have:=DN hok x i hi hh
      have:=hfg x hx
      omega
    have hwc:(k.fills i).map w=(k.fills i).map c:=List.map_congr_left fun x hx=>by
     obtain ⟨wx,⟨g1,_⟩,g2⟩:=hw2 x hx
     rw [(g2 x (hfg x hx).2 (gq k x)).1,g1]
    have hwz:(k.fills i).map (aah k (mg k w st))=(k.fills i).map z:=List.map_congr_left fun x hx=>by
     obtain ⟨wx,⟨_,g1⟩,g2⟩:=hw2 x hx
     rw [g1]
     exact aaG hok st fun j hj hb=>(g2 j hj hb).1
    refine ⟨w,hwi,fun j hj hb=>?_,?_⟩
    ·rcases Ie hok i j hj hb with rfl | ⟨x,hx,hbx⟩
     ·refine ⟨by rw [hwi];exact h6,fun _=>⟨d,?_,by rw [hwi,hwc];omega⟩⟩
      rw [wI]
      simp only [Bool.and_eq_true,decide_eq_true_eq]
      omega
     ·obtain ⟨wx,_,g2⟩:=hw2 x hx
      exact (g2 j hj hbx).2
    ·rw [abf hok _ hi,hwz,h10]
     unfold mg
     rw [if_neg hn,hwc,hwi]
     cases st
     ·simp only [Bool.false_eq_true,if_false];omega
     ·simp only [if_true]
   ·rintro ⟨w,rfl,h1,h2⟩
    obtain ⟨hl,hd⟩:=h1 i hi (gq k i)
    obtain ⟨d,hd1,hd2⟩:=hd hn
    have h40:=GU hs hl
    rw [wI] at hd1
    simp only [Bool.and_eq_true,decide_eq_true_eq] at hd1
    refine ⟨((k.fills i).map w).sum,d,((k.fills i).map (aah k (mg k w st))).sum,by omega,by omega,by omega,hd2,h40,hl,⟨by omega,0,0,w,aah k (mg k w st),.inr ⟨rfl,rfl⟩,fun x hx=>?_,by omega,by omega⟩,?_⟩
    ·exact ⟨w,rfl,fun j hj hb=>h1 j hj (Rz hok hx j hj hb),rfl⟩
    ·rw [h2,abf hok _ hi]
     unfold mg
     rw [if_neg hn,hd2]
     cases st
     ·simp only [Bool.false_eq_true,if_false];omega
     ·simp only [if_true];omega
theorem acv {g:Gr} {P:Nat→Int→Prop} (h:Holds g P) (m:Nat) :
  match gy g m with
  | none=>∀ n y,n < m→¬ P n y
  | some r=>(∃ n,n < m∧P n r.1)∧(∃ n,n < m∧P n r.2)∧∀ n y,n < m→P n y→r.1≤y∧y≤r.2:=by
 induction m with
 | zero=>exact fun n y hn=>absurd hn (by omega)
 | succ m ih =>
  rw [gy]
  by_cases hb:g.has.testBit m=true
  ·rw [if_pos hb]
   have h1:=h.lo m hb
   have h2:=h.hi m hb
   cases hf:gy g m with
   | none =>
    rw [hf] at ih
    refine ⟨⟨m,by omega,h1⟩,⟨m,by omega,h2⟩,fun n y hn hp=>?_⟩
    by_cases e:n=m
    ·subst e;exact h.all n y hp
    ·exact absurd hp (ih n y (by omega))
   | some r =>
    rw [hf] at ih
    obtain ⟨⟨n1,g1,g2⟩,⟨n2,g3,g4⟩,g5⟩:=ih
    refine ⟨?_,?_,fun n y hn hp=>?_⟩
    ·show ∃ n,n < m+1∧P n (min r.1 (g.get m).1)
     rcases Int.le_total r.1 (g.get m).1 with h3 | h3
     ·rw [Int.min_eq_left h3];exact ⟨n1,by omega,g2⟩
     ·rw [Int.min_eq_right h3];exact ⟨m,by omega,h1⟩
    ·show ∃ n,n < m+1∧P n (max r.2 (g.get m).2)
     rcases Int.le_total r.2 (g.get m).2 with h3 | h3
     ·rw [Int.max_eq_right h3];exact ⟨m,by omega,h2⟩
     ·rw [Int.max_eq_left h3];exact ⟨n2,by omega,g4⟩
    ·show min r.1 (g.get m).1≤y∧y≤max r.2 (g.get m).2
     by_cases e:n=m
     ·subst e;have:=h.all n y hp;omega
     ·have:=g5 n y (by omega) hp;omega
  ·rw [if_neg hb]
   have hno:∀ y,¬ P m y:=fun y hp=>hb ((h.has m).2 ⟨y,hp⟩)
   cases hf:gy g m with
   | none =>
    rw [hf] at ih
    intro n y hn hp
    by_cases e:n=m
    ·subst e;exact hno y hp
    ·exact ih n y (by omega) hp
   | some r =>
    rw [hf] at ih
    obtain ⟨⟨n1,g1,g2⟩,⟨n2,g3,g4⟩,g5⟩:=ih
    refine ⟨⟨n1,by omega,g2⟩,⟨n2,by omega,g4⟩,fun n y hn hp=>?_⟩
    by_cases e:n=m
    ·subst e;exact absurd hp (hno y)
    ·exact g5 n y (by omega) hp
theorem abd {k:Wk} (hok:k.Ok) {s:SS} (hs:s.WF) (hlo:∀ i,0≤(s.aP i).1) (st:Bool) {i:Nat} (hi:i < k.n) {w0:Nat→Nat} (h0:∀ j,j < k.n→inB k i j=true→Fit k s w0 j) :
  (∃ w:Nat→Nat,(∀ j,j < k.n→inB k i j=true→Fit k s w j)∧aah k (mg k w st) i=(kX k s st i).1)∧(∃ w:Nat→Nat,(∀ j,j < k.n→inB k i j=true→Fit k s w j)∧aah k (mg k w st) i=(kX k s st i).2) ∧
   ∀ w:Nat→Nat,(∀ j,j < k.n→inB k i j=true→Fit k s w j)→(kX k s st i).1≤aah k (mg k w st) i∧aah k (mg k w st) i≤(kX k s st i).2:=by
 have hH:=abR hok hs hlo st (k.n - i) i hi (Nat.le_refl _)
 have hf:=acv hH 41
 unfold kX Qg
 cases e:gy (jm k s st (k.n - i) i) 41 with
 | none =>
  rw [e] at hf
  have hp:∃ w:Nat→Nat,w i=w0 i∧(∀ j,j < k.n→inB k i j=true→Fit k s w j)∧aah k (mg k w0 st) i=aah k (mg k w st) i:=⟨w0,rfl,h0,rfl⟩
  have:=hH.small hp
  exact absurd hp (hf _ _ (by omega))
 | some r =>
  rw [e] at hf
  obtain ⟨⟨n1,_,w1,_,g1,g2⟩,⟨n2,_,w2,_,g3,g4⟩,g5⟩:=hf
  refine ⟨⟨w1,g1,g2.symm⟩,⟨w2,g3,g4.symm⟩,fun w hw=>?_⟩
  have hp:∃ w':Nat→Nat,w' i=w i∧(∀ j,j < k.n→inB k i j=true→Fit k s w' j)∧aah k (mg k w st) i=aah k (mg k w' st) i:=⟨w,rfl,hw,rfl⟩
  have:=hH.small hp
  exact g5 _ _ (by omega) hp
def aaj (k:Wk) (w:Nat→Nat) (st:Bool):Int:=((List.range k.n).map (mg k w st)).sum
theorem acC (k:Wk) (s:SS) (st:Bool):dW k s st=((k.sources.map fun i=>(kX k s st i).1).sum,(k.sources.map fun i=>(kX k s st i).2).sum):=by
 have key:∀ (l:List Nat) (t:Int × Int),l.foldl (fun t i=>dX t (kX k s st i)) t=(t.1+(l.map fun i=>(kX k s st i).1).sum,t.2+(l.map fun i=>(kX k s st i).2).sum):=fun l=>by
  induction l with
  | nil=>intro t;simp
  | cons a l ih =>
   intro t
   rw [List.foldl_cons,ih]
   simp only [dX,List.map_cons,List.sum_cons,Prod.mk.injEq]
   omega
 unfold dW
 rw [key]
 simp
theorem acw {k:Wk} (hok:k.Ok) {s:SS} (hs:s.WF) (hlo:∀ i,0≤(s.aP i).1) (st:Bool) {w0:Nat→Nat} (h0:Hu k s w0) :
  (∃ w,Hu k s w∧aaj k w st=(dW k s st).1)∧(∃ w,Hu k s w∧aaj k w st=(dW k s st).2)∧∀ w,Hu k s w→(dW k s st).1≤aaj k w st∧aaj k w st≤(dW k s st).2:=by
 have hF:=fun {i} (hi:i < k.n)=>abd hok hs hlo st hi fun j hj _=>h0 j hj
 have key:∀ g:Nat→Int,(∀ r∈k.sources,∃ w:Nat→Nat,aah k (mg k w st) r=g r∧∀ j,j < k.n→inB k r j=true→Fit k s w j)→∃ w,Hu k s w∧aaj k w st=(k.sources.map g).sum:=fun g hg=>by
  obtain ⟨w,_,hw⟩:=ab5 hok (f:=k.sources) (fr:=-1) (fun x hx=>(V6 hok).1 hx) (Wp:=fun x w=>aah k (mg k w st) x=g x) hg fun _=>0
  refine ⟨w,fun j hj=>?_,?_⟩
  ·obtain ⟨r,h1,h2,h3⟩:=Yf hok j hj
   obtain ⟨wx,_,g2⟩:=hw r ((V6 hok).2 ⟨h1,h2⟩)
   exact (g2 j hj h3).2
  ·unfold aaj
   rw [acz hok]
   congr 1
   refine List.map_congr_left fun x hx=>?_
   obtain ⟨wx,g1,g2⟩:=hw x hx
   rw [← g1]
   exact aaG hok st fun j hj hb=>(g2 j hj hb).1
 rw [acC]
 refine ⟨key _ fun r hr=>?_,key _ fun r hr=>?_,fun w hw=>?_⟩
 ·obtain ⟨⟨w,h1,h2⟩,_⟩:=hF ((V6 hok).1 hr).1
  exact ⟨w,h2,h1⟩
 ·obtain ⟨_,⟨w,h1,h2⟩,_⟩:=hF ((V6 hok).1 hr).1
  exact ⟨w,h2,h1⟩
 ·unfold aaj
  rw [acz hok]
  refine ⟨acN fun r hr=>?_,acN fun r hr=>?_⟩
  ·obtain ⟨_,_,h⟩:=hF ((V6 hok).1 hr).1
   exact (h w fun j hj _=>hw j hj).1
  ·obtain ⟨_,_,h⟩:=hF ((V6 hok).1 hr).1
   exact (h w fun j hj _=>hw j hj).2
structure Least (S:Int→Prop) (r:Int × Int):Prop where
 lo:S r.1
 hi:S r.2
 all:∀ y,S y→r.1≤y∧y≤r.2
theorem Least.sub {S S':Int→Prop} {r r':Int × Int} (h:Least S r) (h':Least S' r') (e:∀ y,S y→S' y):r'.1≤r.1∧r.2≤r'.2 :=
 ⟨(h'.all _ (e _ h.lo)).1,(h'.all _ (e _ h.hi)).2⟩
theorem aeH {k:Wk} (hok:k.Ok) {s:SS} (hs:s.WF) {v:Nat} (hv:v < k.n) {w0:Nat→Nat} (h0:Hu k s w0):Least (fun y=>∃ w,Hu k s w∧y=(w v:Int)) (aO k s v):=by
 have key:∀ M,M≤41→((∃ m,m < M∧can k (s.weighed v (m:Nat))=true)→(∃ m:Nat,m < M∧can k (s.weighed v (m:Nat))=true∧(bZ k s v M).1=m)∧∃ m:Nat,m < M∧can k (s.weighed v (m:Nat))=true∧(bZ k s v M).2=m)∧((∀ m,m < M→¬ can k (s.weighed v (m:Nat))=true)→(bZ k s v M).1=40):=fun M=>by
  induction M with
  | zero=>exact fun _=>⟨fun ⟨m,hm,_⟩=>absurd hm (by omega),fun _=>rfl⟩
  | succ M ih =>
   intro hM
   obtain ⟨ih1,ih2⟩:=ih (by omega)
   rw [bZ]
   by_cases hc:can k (s.weighed v (M:Nat))=true
   ·rw [if_pos hc]
    refine ⟨fun _=>⟨?_,⟨M,by omega,hc,rfl⟩⟩,fun h=>absurd hc (h M (by omega))⟩
    by_cases hex:∃ m,m < M∧can k (s.weighed v (m:Nat))=true
    ·obtain ⟨⟨m,h1,h2,h3⟩,_⟩:=ih1 hex
     refine ⟨m,by omega,h2,?_⟩
     simp only;omega
    ·have h4:=ih2 fun m hm hcm=>hex ⟨m,hm,hcm⟩
     refine ⟨M,by omega,hc,?_⟩
     simp only;omega
   ·rw [if_neg hc]
    refine ⟨fun ⟨m,hm,hcm⟩=>?_,fun h=>ih2 fun m hm=>h m (by omega)⟩
    have hmM:m < M:=by
     by_cases e:m=M
     ·subst e;exact absurd hcm hc
     ·omega
    obtain ⟨⟨m1,h1,h2,h3⟩,⟨m2,h4,h5,h6⟩⟩:=ih1 ⟨m,hmM,hcm⟩
    exact ⟨⟨m1,by omega,h2,h3⟩,⟨m2,by omega,h5,h6⟩⟩
 have h40:∀ w,Hu k s w→w v≤40:=fun w hw=>GU hs (hw v hv).1
 obtain ⟨⟨m1,a1,a2,a3⟩,⟨m2,b1,b2,b3⟩⟩:=(key 41 (Nat.le_refl _)).1 ⟨w0 v,by have:=h40 w0 h0;omega,(vZ hok hs hv (h40 w0 h0)).2 ⟨w0,h0,rfl⟩⟩
 obtain ⟨w1,c1,c2⟩:=(vZ hok hs hv (by omega)).1 a2
 obtain ⟨w2,d1,d2⟩:=(vZ hok hs hv (by omega)).1 b2
 refine ⟨⟨w1,c1,by rw [c2];exact a3⟩,⟨w2,d1,by rw [d2];exact b3⟩,?_⟩
 rintro y ⟨w,hw,rfl⟩
 exact NV (h40 w hw) ((vZ hok hs hv (h40 w hw)).2 ⟨w,hw,rfl⟩)
theorem ab8 {k:Wk} (hok:k.Ok) {s:SS} (hs:s.WF) (hlo:∀ i,0≤(s.aP i).1) (st:Bool) {w0:Nat→Nat} (h0:Hu k s w0):Least (fun y=>∃ w,Hu k s w∧y=aaj k w st) (dW k s st):=by
 obtain ⟨⟨w1,a1,a2⟩,⟨w2,b1,b2⟩,h⟩:=acw hok hs hlo st h0
 exact ⟨⟨w1,a1,a2.symm⟩,⟨w2,b1,b2.symm⟩,by rintro y ⟨w,hw,rfl⟩;exact h w hw⟩
theorem aeQ {k:Wk} (hok:k.Ok) {v:Nat} (hv:v < k.n) {w0:Nat→Nat} (h0:Hu k (aN k aC) w0):Least (fun y=>∃ w,Hu k (aN k aC) w∧y=(w v:Int)) (aO k (aN k aC) v):=aeH hok (gG _ _) hv h0
end Go.Wg
namespace Go.Proofs.YtjjmefieegcddaaDoor
open Go.RowKit Go.Wg Go.Mm Go.Wk
open Go Go.Sr Go.Ph Go.Tm Go.Conc
variable {w:World} {V:View} {w0:World} {L:List dF} {X:List Nat} {f0:FuncId} {R:Ending→World→Prop} {k0:List Item} {a:Act}
theorem ae6 {k:Wk} (hok:k.Ok) {w:Nat→Nat} (h:Hu k (aN k aC) w):vX k=(dW k (aN k aC) false,0):=by
 unfold vX
 rw [if_pos (G7 hok [] (fun n hn=>nomatch hn)),if_pos (Qu hok h)]
theorem abU {k:Wk} (hok:k.Ok):vX k=if can k (aN k aC) then (dW k (aN k aC) false,0) else ((0,0),9):=by
 unfold vX can
 rw [if_pos (G7 hok [] (fun n hn=>nomatch hn))]
theorem acj {k:Wk} (hok:k.Ok):abN k=(can k (aN k aC),0):=by
 unfold abN
 rw [if_pos (G7 hok [] (fun n hn=>nomatch hn))]
theorem acM {N:FuncId} {fn:Func} {y:Array Operand} {ats:Array TypeId} {args:Array Value} {v:Value} {ops:Array Oper} {l:List Nat} {i:Nat} {o:Oper} (d:Nat) (hS:St w0 X V L w) (hf:Tryd.prog.funcs[N]? = some fn) (hb:(fn.name == "runtime.NumGoroutine")=false) (hb2:fn.body.isNone=false) (hc:∀ τ d,ay OC (w.re τ d)→kL Tryd.prog N args (w.re τ d) fun e w'=>e=.returned v∧Kp (w.re τ d) w')
  (hd:a.defers=[]) (ho:ops[i]? = some o) (hdst:o.dst=some d) (hw:Region.wanted o (yielded ops a.tmps)=true) (hop:o.op=.call { callee:=.value (.func N),args:=y,argTypes:=ats }) (hy:y.toList.map a.eval=args.toList)
  (h:∀ w' a',St w0 X V L w'→a.put (some d) v=a'→RB f0 R (.inRegion ops l :: k0) a' w'):RB f0 R (.inRegion ops (i :: l) :: k0) a w:=by
 refine acP (N:=N) (args:=args) (R':=fun e w'=>e=.returned v∧Kp w w') hd ho hw (by rw [hop];rfl) (fun w1=>?_) (fun ch w1 h=>nomatch h.1) (fun τ d hh=>(hc τ d hh).mono fun e w1 h=>⟨h.1,uq h.2⟩) ?_
 ·rw [run_call_body hop hf hb hb2,show y.map a.eval=args from Array.ext' (by rw [Array.toList_map,hy])]
 rintro v' w1 ⟨hv,hk⟩
 cases hv
 rw [hdst]
 exact h _ _ (hS.kp hk) rfl
theorem acy {vv rv:Value} {k:Wk} {x1 x2 e:Int} {y:Array Operand} {ats:Array TypeId} {ops:Array Oper} {l:List Nat} {i:Nat} {o:Oper} (d:Nat) (hS:St w0 X V L w) (hB:Bs V) (hk:iJ V vv rv k) (hv:vX k=((x1,x2),e))
  (hd:a.defers=[]) (ho:ops[i]? = some o) (hdst:o.dst=some d) (hw:Region.wanted o (yielded ops a.tmps)=true) (hop:o.op=.call { callee:=.value (.func 40),args:=y,argTypes:=ats }) (hy:y.toList.map a.eval=[.agg #[vv,rv]])
  (h:∀ w' a',St w0 X V L w'→a.put (some d) (.tuple #[.agg #[.int .i64 x1,.int .i64 x2],.int .i64 e])=a'→RB f0 R (.inRegion ops l :: k0) a' w'):RB f0 R (.inRegion ops (i :: l) :: k0) a w:=by
 refine acM d hS Tryd.func40 (by kernel_rfl) (by kernel_rfl) (fun τ d hh=>?_) hd ho hdst hw hop hy h
 have hL:=ZB vv rv k hk hB.gv (hS.re1 τ d).view hh
 rw [hv] at hL
 exact hL
theorem acQ {y:Array Operand} {ats:Array TypeId} {ops:Array Oper} {l:List Nat} {i:Nat} {o:Oper} (d:Nat) (hS:St w0 X V L w) (hB:Bs V)
  (hd:a.defers=[]) (ho:ops[i]? = some o) (hdst:o.dst=some d) (hw:Region.wanted o (yielded ops a.tmps)=true) (hop:o.op=.call { callee:=.value (.func 21),args:=y,argTypes:=ats }) (hy:y.toList.map a.eval=[])
  (h:∀ w' a',St w0 X V L w'→a.put (some d) (.bool true)=a'→RB f0 R (.inRegion ops l :: k0) a' w'):RB f0 R (.inRegion ops (i :: l) :: k0) a w :=
 acM d hS Tryd.func21 (by kernel_rfl) (by kernel_rfl) (fun τ d hh=>TB hB (hS.re1 τ d).view hh) hd ho hdst hw hop hy h
theorem acW {fn:Func} (hf:Tryd.prog.funcs[f0]? = some fn) (hS:St w0 [] V L w) (hd:a.defers=[]) (hr:∀ w,(results fn a.tmps).run Tryd.prog w=.ok (.bool true) w):RB f0 (fun r w'=>r=.returned (.bool true)∧Kp w0 w') (.code .ret :: k0) a w :=
 acX hf hd hr (fun τ d=>⟨rfl,aaw hS.bM τ d⟩) xM
theorem abD {tgt todo:List Item} (hit:todo.all qy=true) (hd:a.defers=[]) (hS:St w0 X V L w) (h:∀ w',St w0 X V L w'→fA Tryd.prog tgt (RB f0 R tgt) todo a w'):RB f0 R todo a w :=
 acV tgt hit hd fun τ d=>h _ (hS.re1 τ d)
theorem aa6 {tgt k:List Item} {S:Act→World→Prop} (n:Nat) {l:List Oper} (hn:n≤l.length) (hw:wpList Tryd.prog l.toArray (fun e a' w'=>e=.normal∧fA Tryd.prog tgt S (.inRegion l.toArray (List.range' n (l.length - n)) :: k) a' w') (l.take n) a w) :
  fA Tryd.prog tgt S (.inRegion l.toArray (List.range l.toArray.size) :: k) a w:=by
 have e:List.range l.toArray.size=List.range' 0 (l.take n).length ++ List.range' n (l.length - n):=by
  rw [List.range_eq_range',List.length_take,Nat.min_eq_left hn]
  have:=List.range'_append (s:=0) (m:=n) (n:=l.length - n) (step:=1)
  rw [Nat.zero_add,Nat.one_mul] at this
  rw [this]
  congr 1
  show l.length=_
  omega
 rw [e]
 refine abY _ a w ?_
 rw [abB (l.take n) 0 fun j hj=>?_]
 ·exact hw
 ·rw [List.length_take] at hj
  rw [Nat.zero_add,List.getElem?_take,if_pos (by omega)]
  simp
theorem abr {tgt k:List Item} {S:Act→World→Prop} (n:Nat) {l:List Oper} {m:List Nat} (hm:m=List.range' n (l.length - n)) (hw:wpList Tryd.prog l.toArray (fun e a' w'=>e=.normal∧fA Tryd.prog tgt S (.inRegion l.toArray [] :: k) a' w') (l.drop n) a w):fA Tryd.prog tgt S (.inRegion l.toArray m :: k) a w:=by
 subst hm
 have e:List.range' n (l.length - n)=List.range' n (l.drop n).length ++ []:=by rw [List.length_drop,List.append_nil]
 rw [e]
 refine abY _ a w ?_
 rw [abB (l.drop n) n fun j hj=>?_]
 ·exact hw
 ·rw [List.getElem?_drop]
  simp
end Go.Proofs.YtjjmefieegcddaaDoor
