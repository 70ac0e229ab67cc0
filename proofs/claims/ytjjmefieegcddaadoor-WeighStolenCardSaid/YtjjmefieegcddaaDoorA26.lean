/- A part of the proof: W37, W38, W39, W40. -/
import Derived.Test.YtjjmefieegcddaaDoorA25
set_option linter.unusedVariables false
set_option linter.unusedSimpArgs false
namespace Go.Proofs.YtjjmefieegcddaaDoor
open Go.RowKit Go.Wg Go.Mm Go.Wk
open Go Go.Sr Go.Ph Go.Tm Go.Conc
def valsTo (k:Wk) (s:SS) (st:Bool) (i:Nat):List Value:=((k.sources.take i).map fun x=>spanV (foundS k s st x)).reverse
theorem valsTo_succ (k:Wk) (s:SS) (st:Bool) {i x:Nat} (h:k.sources[i]? = some x):valsTo k s st (i+1)=spanV (foundS k s st x) :: valsTo k s st i:=by
 unfold valsTo
 rw [List.take_add_one,h]
 simp
section
variable {V:View} {wA w w1 w2:World} {p:Nat} {k:Wk} {ts:List Nat} {vv rv:Value} {s:SS} {st:Bool} {b4 b5 b6 b7 c g cap:Nat} {D:List Nat} {cur:Array Value} {D1 wr1 x:Nat→Prop} {E WW:List Nat}
theorem vr_fun4 {R:BR} {x0 x1 x2 x3 y0:Value} {f:FuncId} {v:Value} (h:VR R (.func (.func f) #[] #[x0,x1,x2,x3]) v) (h0:∀ v,VR R x0 v→v=y0) (h1:∀ v,VR R x1 v→v=x1) (h2:∀ v,VR R x2 v→v=x2) (h3:∀ v,VR R x3 v→v=x3) :
  v=.func (.func f) #[] #[y0,x1,x2,x3]:=by
 cases h with
 | base h =>
  cases h with
  | base h =>
   cases h with
   | flat h=>cases h
  | func k0 k1 k2 k3 k4 =>
   rename_i a' c'
   have e1:a'=#[]:=Array.eq_empty_of_size_eq_zero (by simpa using k1)
   have k3':c'.size=4:=by simpa using k3
   subst e1
   congr 1
   apply Array.ext
   ·simpa using k3'
   ·intro j i1 i2
    have hj:j=0∨j=1∨j=2∨j=3:=by omega
    rcases hj with rfl | rfl | rfl | rfl
    ·exact h0 _ (k4 0 _ _ rfl (Array.getElem?_eq_getElem i1))
    ·exact h1 _ (k4 1 _ _ rfl (Array.getElem?_eq_getElem i1))
    ·exact h2 _ (k4 2 _ _ rfl (Array.getElem?_eq_getElem i1))
    ·exact h3 _ (k4 3 _ _ rfl (Array.getElem?_eq_getElem i1))
theorem phSeg_lt (X:PhX V wA p k ts vv rv s st b4 b5 b6 b7 c g cap D cur) (I:PhI wA b6 c D1 wr1 w) (hE:PhE wA D E D1 wr1 w) (hW:PhW wA WW wr1 w) (hG:Wg.gN≤wA.heap.size):∀ b∈ddl b4 b5 b7 c g D E,b < w.heap.size:=fun b hb=>by
 rcases (phSeg X I hE hW hG).obj b hb with ⟨_,_,h,_⟩ | ⟨_,h,_⟩ <;> exact lt_of_heap h
theorem ph6 (X:PhX V wA p k ts vv rv s st b4 b5 b6 b7 c g cap D cur) (I:PhI wA b6 c D1 wr1 w):PhW wA [b6] wr1 w:=⟨fun b hb=>by
 simp only [List.mem_singleton] at hb
 subst hb
 exact ⟨I.w6,X.ge.2.2.1,_,_,I.h6,by simp [flat0]⟩⟩
theorem ph6_not (X:PhX V wA p k ts vv rv s st b4 b5 b6 b7 c g cap D cur) (I:PhI wA b6 c D1 wr1 w) (hE:PhE wA D E D1 wr1 w) (hG:Wg.gN≤wA.heap.size):b6 ∉ ddl b4 b5 b7 c g D E:=(phSeg X I hE (ph6 X I) hG).dis b6 (by simp)
theorem ph6_after {R':BR} {wl:World} {DD WW:List Nat} (hWR:WR Tryd.prog.globals.size R' (inL DD) wl w2) (hle:le (idR (DD ++ WW)) R') (hm:b6∈WW) (hn:b6 ∉ DD) (h6l:wl.heap[b6]? = some (.cells #[.int .i64 0,.int .i64 0] 27 (0,0))) :
  w2.heap[b6]? = some (.cells #[.int .i64 0,.int .i64 0] 27 (0,0)):=by
 obtain ⟨c6,hc6,hAF6⟩:=new_block hWR (hle b6 b6 ⟨rfl,List.mem_append_right _ hm⟩) hn h6l
 rw [af1_fix (keep_id hWR hle) hAF6 (fun v hv=>by
  have:v=.int .i64 0:=by simpa using hv
  subst this
  exact .flat rfl)] at hc6
 exact hc6
theorem sources_lt {i x:Nat} (h:k.sources[i]? = some x):x < k.n:=List.mem_range.1 (List.mem_filter.1 (List.mem_of_getElem? h)).1
theorem run_go1 {o:Oper} {a:Act} {x:Operand} {t:Fn} {f c:Array Value} (ho:o.op=.go { callee:=.value x,args:=#[],argTypes:=#[] }) (hx:a.eval x=.func t f c) (w:World) :
  (execOp a.eval o).run Tryd.prog w=.ok (.spawn { target:=.fn t c,args:=f }) w:=by
 unfold execOp
 simp [ho,resolve,hx,Deferred.ofValue]
set_option maxRecDepth 20000 in
set_option maxHeartbeats 2000000 in
theorem loop1 (X:PhX V wA p k ts vv rv s st b4 b5 b6 b7 c g cap D cur) (hG:Wg.gN≤wA.heap.size) {b:Frame} (hbf:b.fn=97) (hbk:b.kind=.normal) {cs:List Frame} {Q:PostC}
  (hend:∀ D1 wr1 w x10 x18 x19 x20 x21 x22 E,PhI wA b6 c D1 wr1 w→PhE wA D E D1 wr1 w→Sr.flat x22=true→(∀ v∈[x10,x18,x19,x20,x21,x22],VR (idR (ddl b4 b5 b7 c g D E ++ [b6])) v v) →
   ToC Tryd.prog c D1 wr1 (valsTo k s st k.sources.length) (G (b.at ⟨tm1 p s st b4 b5 b6 b7 c (.slice (some ⟨g,0,none⟩) k.sources.length cap) k.sources.length k.sources.length x10 x18 x19 x20 x21 x22,[]⟩ head1) cs) w Q) :
  ∀ (m i:Nat),i+m=k.sources.length→∀ D1 wr1 w x10 x18 x19 x20 x21 x22 E,PhI wA b6 c D1 wr1 w→PhE wA D E D1 wr1 w→Sr.flat x22=true→(∀ v∈[x10,x18,x19,x20,x21,x22],VR (idR (ddl b4 b5 b7 c g D E ++ [b6])) v v) →
   ToC Tryd.prog c D1 wr1 (valsTo k s st i) (G (b.at ⟨tm1 p s st b4 b5 b6 b7 c (.slice (some ⟨g,0,none⟩) k.sources.length cap) k.sources.length i x10 x18 x19 x20 x21 x22,[]⟩ head1) cs) w Q:=by
 intro m
 induction m with
 | zero =>
  intro i hi D1 wr1 w x10 x18 x19 x20 x21 x22 E I hE h22 hx
  obtain rfl:i=k.sources.length:=by omega
  exact hend D1 wr1 w x10 x18 x19 x20 x21 x22 E I hE h22 hx
 | succ m ih =>
  intro i hi D1 wr1 w x10 x18 x19 x20 x21 x22 E I hE h22 hx
  have hlt:i < k.sources.length:=by omega
  refine toC_ok fun w1 hr1 hh1 hc1=>?_
  replace I:=I.rely X hr1
  replace hE:=hE.rely X hr1
  clear hr1 hc1 w
  obtain ⟨sx,hsx⟩:∃ sx,k.sources[i]? = some sx:=⟨_,List.getElem?_eq_getElem hlt⟩
  have hcur:=X.src i sx hsx
  obtain ⟨t,ht⟩:∃ t,ts.getD sx 0=t:=⟨_,rfl⟩
  rw [ht] at hcur
  have htD:t∈D:=by
   have:=X.curD _ (Array.mem_of_getElem? hcur)
   exact inD_ptr this
  have hW:=ph6 X I
  have hn6:=ph6_not X I hE hG
  have hlts:=phSeg_lt X I hE hW hG
  have sf:=tm1_self (E:=E) (WW:=[b6]) (n:=k.sources.length) (i:=i) X (by simp) hx
  refine phLone (tgt:=atGo [1]) X I hE hW hG hh1 it_head1 sf hbf hbk
   (S:=fun a w'=>∃ b10,a=⟨tm1 p s st b4 b5 b6 b7 c (.slice (some ⟨g,0,none⟩) k.sources.length cap) k.sources.length i (ptr b10) (.bool true) (.pointer (some ⟨g,i,none⟩)) (ptr t) (.func (.func 123) #[] #[ptr b10,ptr b4,ptr b5,ptr b7]) x22,[]⟩ ∧
    w'.heap[b10]? = some (.cells #[ptr t] 124 (0,0))∧w1.heap.size≤b10∧w'.heap[b6]? = some (.cells #[.int .i64 0,.int .i64 0] 27 (0,0)))
   (fun _ _ _ _ h=>h) (fun τ d=>?_) ?_
  ·have hg:(lv (ddl b4 b5 b7 c g D E) [b6] w1).Cell g i (ptr t):=lv_cell (by simp [ddl]) (I.view X g _ X.vg) hcur
   refine (seg1 p s st b4 b5 b6 b7 c g cap k.sources.length i t x10 x18 x19 x20 x21 x22 hlt X.n6 hg _ (lv_in _ [b6] w1 τ d)).mono ?_
   rintro a w' ⟨b10,rfl,hS⟩
   have hl6:(lv (ddl b4 b5 b7 c g D E) [b6] w1) b6=some (.cells #[.int .i64 0,.int .i64 0] 27 (0,0)):=by
    simp only [lv,List.mem_append,List.mem_singleton,or_true,if_true]
    rw [lv_own (WW:=[]) hn6]
    exact I.h6
   have hb:=(hS.new (.blk b10 124 [ptr t]) (by simp) b10 rfl).elim id (fun h=>nomatch h)
   refine ⟨b10,rfl,hS.has1,?_,hS.view _ _ hl6⟩
   have e:((frzW (ddl b4 b5 b7 c g D E) w1).re τ d).heap.size=w1.heap.size:=frzW_size _ _
   omega
  ·rintro R' a' a2 wl w2 ⟨b10,rfl,h10,l10,h6l⟩ hle hAF hdf hWR hkept hfr
   have hfx:=keep_id hWR hle
   obtain ⟨v10,hv10,r10⟩:=hAF.2 10 (ptr b10) rfl
   obtain ⟨bt,rfl,rbt⟩:=vr_ptr r10
   have nD:¬ inL (ddl b4 b5 b7 c g D E) b10:=fun h=>by
    have:=hlts b10 h
    omega
   obtain ⟨c',hc',hAF1⟩:=new_block hWR rbt nD h10
   have ec:c'=#[ptr t]:=af1_fix hfx hAF1 fun v hv=>by
    have:v=ptr t:=by simpa using hv
    subst this
    exact .ptr (by simp [ddl,htD])
   subst ec
   have h62:=ph6_after hWR hle (by simp) hn6 h6l
   have obt:own (inL (ddl b4 b5 b7 c g D E)) R' bt:=⟨b10,rbt,nD⟩
   have lbt:wA.heap.size≤bt:=by
    rcases hfr bt obt with h | h
    ·rcases I.low bt h with h | h
     ·subst h
      have e:=hWR.inj b10 bt bt rbt (hle bt bt ⟨rfl,by simp⟩)
      have h1:=lt_of_heap I.h6
      omega
     ·exact h
    ·exact Nat.le_trans I.size h
   have hb:∀ v',VR R' (ptr b10) v'→v'=ptr bt:=fun v' h=>by
    obtain ⟨b',rfl,hb'⟩:=vr_ptr h
    rw [hWR.fn _ _ _ hb' rbt]
   have hsame:∀ {b:Nat},b∈ddl b4 b5 b7 c g D E→∀ v',VR R' (ptr b) v'→v'=ptr b:=fun hb v' h=>vr_same hfx (fix_self (.ptr (List.mem_append_left _ hb))) h
   have hf:∀ v',VR R' (.func (.func 123) #[] #[ptr b10,ptr b4,ptr b5,ptr b7]) v'→v'=.func (.func 123) #[] #[ptr bt,ptr b4,ptr b5,ptr b7]:=fun v' h=>vr_fun4 h hb (hsame (by simp [ddl])) (hsame (by simp [ddl])) (hsame (by simp [ddl]))
   have hall:AllEq R' (tm1 p s st b4 b5 b6 b7 c (.slice (some ⟨g,0,none⟩) k.sources.length cap) k.sources.length i (ptr b10) (.bool true) (.pointer (some ⟨g,i,none⟩)) (ptr t) (.func (.func 123) #[] #[ptr b10,ptr b4,ptr b5,ptr b7]) x22).toList
     (tm1 p s st b4 b5 b6 b7 c (.slice (some ⟨g,0,none⟩) k.sources.length cap) k.sources.length i (ptr bt) (.bool true) (.pointer (some ⟨g,i,none⟩)) (ptr t) (.func (.func 123) #[] #[ptr bt,ptr b4,ptr b5,ptr b7]) x22).toList :=
    ⟨fun v' h=>vr_same hfx (sf _ (by simp [tm1])) h,fun v' h=>vr_same hfx (sf _ (by simp [tm1])) h,fun v' h=>vr_same hfx (sf _ (by simp [tm1])) h,fun v' h=>vr_same hfx (sf _ (by simp [tm1])) h,fun v' h=>vr_same hfx (sf _ (by simp [tm1])) h,fun v' h=>vr_same hfx (sf _ (by simp [tm1])) h,fun v' h=>vr_same hfx (sf _ (by simp [tm1])) h,fun v' h=>vr_same hfx (sf _ (by simp [tm1])) h,fun v' h=>vr_same hfx (sf _ (by simp [tm1])) h,fun v' h=>vr_same hfx (sf _ (by simp [tm1])) h,hb,fun v' h=>vr_same hfx (sf _ (by simp [tm1])) h,fun v' h=>vr_same hfx (sf _ (by simp [tm1])) h,fun v' h=>vr_same hfx (sf _ (by simp [tm1])) h,fun v' h=>vr_same hfx (sf _ (by simp [tm1])) h,fun v' h=>vr_same hfx (sf _ (by simp [tm1])) h,fun v' h=>vr_same hfx (sf _ (by simp [tm1])) h,fun v' h=>vr_same hfx (sf _ (by simp [tm1])) h,fun v' h=>vr_same hfx (.of_flat rfl) h,fun v' h=>vr_same hfx (fix_self (.ptr (by simp [ddl]))) h,fun v' h=>vr_same hfx (fix_self (.ptr (by simp [ddl,htD]))) h,hf,fun v' h=>vr_same hfx (sf _ (by simp [tm1])) h,fun v' h=>vr_same hfx (sf _ (by simp [tm1])) h,fun v' h=>vr_same hfx (sf _ (by simp [tm1])) h,fun v' h=>vr_same hfx (sf _ (by simp [tm1])) h,fun v' h=>vr_same hfx (sf _ (by simp [tm1])) h,fun v' h=>vr_same hfx (sf _ (by simp [tm1])) h,fun v' h=>vr_same hfx (sf _ (by simp [tm1])) h,fun v' h=>vr_same hfx (sf _ (by simp [tm1])) h,fun v' h=>vr_same hfx (sf _ (by simp [tm1])) h,fun v' h=>vr_same hfx (sf _ (by simp [tm1])) h,fun v' h=>vr_same hfx (sf _ (by simp [tm1])) h,trivial⟩
   have htm:=tmps_eq hAF hall
   obtain ⟨tmps2,defers2⟩:=a2
   simp only at hdf htm
   subst hdf
   subst htm
   have I2:=I.after X hkept hfr h62
   obtain ⟨wr2,hwr2⟩:∃ wr2,(fun b=>wr1 b∨own (inL (ddl b4 b5 b7 c g D E)) R' b)=wr2:=⟨_,rfl⟩
   have wbt:wr2 bt:=by rw [← hwr2];exact .inr obt
   rw [hwr2] at I2 ⊢
   clear hwr2 hkept hfr hWR hAF hle hall hf hb hsame hv10 r10 h10 h6l l10 hfx rbt nD hAF1 obt hlts hn6 hW hh1 sf hx hE
   refine toC_ok fun w3 hr3 hh3 hc3=>?_
   have I3:=I2.rely X hr3
   have hbt:w3.heap[bt]? = some (.cells #[ptr t] 124 (0,0)):=(sameNe (hr3.keep bt (.inr wbt)) (by rintro rfl;have:=X.clt;omega)).trans hc'
   clear hr3 hc3
   obtain ⟨V',hV'⟩:∃ V':View,V'=fun b=>if b=bt then some (.cells #[ptr t] 124 (0,0)) else V b:=⟨_,rfl⟩
   have hVbt:V bt=none:=by
    cases hv:V bt with
    | none=>rfl
    | some o =>
     have:=(X.ne6 hv).2.2
     omega
   have hsub:∀ j o,V j=some o→V' j=some o:=fun j o h=>by
    subst hV'
    have:j≠bt:=by rintro rfl;rw [hVbt] at h;cases h
    simp only [this,if_false]
    exact h
   have hin:V'.In w3:=fun j o h=>by
    subst hV'
    simp only at h
    split at h
    ·rename_i e
     subst e
     cases h
     exact hbt
    ·exact I3.view X j o h
   have hwk:=worker_wt (w:=w3) (V:=V') p k ts vv rv (X.cel.mono hsub) X.ok s X.wf X.lo X.hi st sx (sources_lt hsx) D (closed_mono X.cl hsub) X.pD bt b4 b5 b7 c (by rw [ht,hV'];exact if_pos rfl) (hsub _ _ X.v4) (hsub _ _ X.v5) (hsub _ _ X.v7) I3.hc
    ⟨by omega,X.ge.1,X.ge.2.1,X.ge.2.2.2.1,X.ge.2.2.2.2.1⟩ hin hh3
   have hDc:∀ b,inL (bt :: b4 :: b5 :: b7 :: c :: D) b→b=bt∨(b < wA.heap.size∧b≠b6):=fun b hb=>by
    simp only [inL,List.mem_cons] at hb
    rcases hb with rfl | rfl | rfl | rfl | rfl | hb
    ·exact .inl rfl
    ·exact .inr ⟨(X.ne6 X.v4).2.2,(X.ne6 X.v4).1⟩
    ·exact .inr ⟨(X.ne6 X.v5).2.2,(X.ne6 X.v5).1⟩
    ·exact .inr ⟨(X.ne6 X.v7).2.2,(X.ne6 X.v7).1⟩
    ·exact .inr ⟨X.clt,Ne.symm X.n6c⟩
    ·obtain ⟨cs,t',h1,_⟩:=X.cl.cells b hb
     exact .inr ⟨(X.ne6 h1).2.2,(X.ne6 h1).1⟩
   have h6bt:b6≠bt:=by have:=X.v6lt;omega
   refine toC_spawn rfl fun w4 hr4=>⟨_,bornFr Tryd.prog [{ target:=.fn (.func 123) #[ptr bt,ptr b4,ptr b5,ptr b7],args:=#[] }],_,inL (bt :: b4 :: b5 :: b7 :: c :: D),fun b=>D1 b∨b=bt,fun b=>wr2 b∧b≠bt,spanV (foundS k s st sx),
    stepG_spawn (i:=1) rfl rfl (by simp [hbk]) (run_go1 (x:=.tmp 21) (t:=.func 123) (f:=#[]) (c:=#[ptr bt,ptr b4,ptr b5,ptr b7]) rfl rfl w4) rfl,?_,?_,?_,?_,hwk.rely (hr4.sub fun b hb=>?_),?_⟩
   ·intro e he
    unfold listed at he
    rw [show (execOp _ _).events Tryd.prog w4 #[]=#[] from rfl,seen_none] at he
    simp at he
   ·intro b hb
    rcases hDc b hb with rfl | ⟨h1,h2⟩
    ·exact .inr wbt
    ·exact .inl (I3.rd b h1 h2)
   ·rintro b ((h | rfl) | ⟨h,_⟩)
    ·exact .inl h
    ·exact .inr wbt
    ·exact .inr h
   ·rintro b ⟨h1,h2⟩
    refine ⟨h1,fun hb=>?_⟩
    rcases hDc b hb with h | ⟨h3,h4⟩
    ·exact h2 h
    ·rcases I3.low b h1 with h | h
     ·exact h4 h
     ·omega
   ·rcases hb with hb | hb
    ·rcases hDc b hb with rfl | ⟨h1,h2⟩
     ·exact .inr wbt
     ·exact .inl (I3.rd b h1 h2)
    ·exact hb.elim
   ·have I4:PhI wA b6 c (fun b=>D1 b∨b=bt) (fun b=>wr2 b∧b≠bt) w4:=by
     have h:=I3.rely X hr4
     exact ⟨h.kept,h.size,h.os,h.out,fun b h1 h2=>.inl (h.rd b h1 h2),⟨h.w6,h6bt⟩,fun b hb=>h.low b hb.1,h.h6,h.hc⟩
    have hbt4:w4.heap[bt]? = some (.cells #[ptr t] 124 (0,0)):=(sameNe (hr4.keep bt (.inr wbt)) (by rintro rfl;have:=X.clt;omega)).trans hbt
    have hE4:PhE wA D [bt] (fun b=>D1 b∨b=bt) (fun b=>wr2 b∧b≠bt) w4:=⟨fun b hb=>by
     simp only [List.mem_singleton] at hb
     subst hb
     exact ⟨.inr rfl,fun h=>h.2 rfl,lbt,t,htD,hbt4⟩⟩
    rw [← valsTo_succ k s st hsx]
    clear hwk hDc hin hsub hV' hVbt hbt hh3 I2 hbt4
    show ToC Tryd.prog c _ _ _ (G (b.at ⟨tm1 p s st b4 b5 b6 b7 c (.slice (some ⟨g,0,none⟩) k.sources.length cap) k.sources.length i (ptr bt) (.bool true) (.pointer (some ⟨g,i,none⟩)) (ptr t) (.func (.func 123) #[] #[ptr bt,ptr b4,ptr b5,ptr b7]) x22,[]⟩ (atGo [])) cs) w4 Q
    refine toC_ok fun w5 hr5 hh5 hc5=>?_
    replace I4:=I4.rely X hr5
    replace hE4:=hE4.rely X hr5
    clear hr5 hc5 hr4
    have m4:b4∈ddl b4 b5 b7 c g D [bt] ++ [b6]:=by simp [ddl]
    have m5:b5∈ddl b4 b5 b7 c g D [bt] ++ [b6]:=by simp [ddl]
    have m7:b7∈ddl b4 b5 b7 c g D [bt] ++ [b6]:=by simp [ddl]
    have mt:bt∈ddl b4 b5 b7 c g D [bt] ++ [b6]:=by simp [ddl]
    have hfn:VR (idR (ddl b4 b5 b7 c g D [bt] ++ [b6])) (.func (.func 123) #[] #[ptr bt,ptr b4,ptr b5,ptr b7]) (.func (.func 123) #[] #[ptr bt,ptr b4,ptr b5,ptr b7]) :=
     .base (.ofFunc rfl ⟨rfl,fun i v h=>⟨v,h,by simp at h⟩⟩ ⟨rfl,fun i v h=>⟨v,h,by
      have:=Array.mem_of_getElem? h
      simp only [List.mem_toArray,List.mem_cons,List.not_mem_nil,or_false] at this
      rcases this with rfl | rfl | rfl | rfl
      ·exact fix_self (.ptr mt)
      ·exact fix_self (.ptr m4)
      ·exact fix_self (.ptr m5)
      ·exact fix_self (.ptr m7)⟩⟩)
    have hx5:∀ y:Value,Sr.flat y=true→∀ v∈[ptr bt,.bool true,.pointer (some ⟨g,i,none⟩),ptr t,.func (.func 123) #[] #[ptr bt,ptr b4,ptr b5,ptr b7],y],VR (idR (ddl b4 b5 b7 c g D [bt] ++ [b6])) v v:=fun y hy v hv=>by
     simp only [List.mem_cons,List.not_mem_nil,or_false] at hv
     rcases hv with rfl | rfl | rfl | rfl | rfl | rfl
     ·exact fix_self (.ptr mt)
     ·exact .of_flat rfl
     ·exact fix_self (.ptr (by simp [ddl]))
     ·exact fix_self (.ptr (by simp [ddl,htD]))
     ·exact hfn
     ·exact .of_flat hy
    have hn6':=ph6_not X I4 hE4 hG
    refine phLone (tgt:=head1) X I4 hE4 (ph6 X I4) hG hh5 (it_atGo []) (tm1_self X (by simp) (hx5 x22 h22)) hbf hbk
     (S:=fun a w'=>a=⟨tm1 p s st b4 b5 b6 b7 c (.slice (some ⟨g,0,none⟩) k.sources.length cap) k.sources.length (i+1) (ptr bt) (.bool true) (.pointer (some ⟨g,i,none⟩)) (ptr t) (.func (.func 123) #[] #[ptr bt,ptr b4,ptr b5,ptr b7]) (.int .i64 ((i+1:Nat):Int)),[]⟩ ∧
      w'.heap[b6]? = some (.cells #[.int .i64 0,.int .i64 0] 27 (0,0))) (fun _ _ _ _ h=>h) (fun τ d=>?_) ?_
    ·refine (seg2 p s st b4 b5 b6 b7 c k.sources.length i _ _ _ _ _ _ x22 hlt X.n6 _ (lv_in (ddl b4 b5 b7 c g D [bt]) [b6] w5 τ d)).mono ?_
     rintro a w' ⟨rfl,hS⟩
     have hl6:(lv (ddl b4 b5 b7 c g D [bt]) [b6] w5) b6=some (.cells #[.int .i64 0,.int .i64 0] 27 (0,0)):=by
      simp only [lv,List.mem_append,List.mem_singleton,or_true,if_true]
      rw [lv_own (WW:=[]) hn6']
      exact I4.h6
     exact ⟨rfl,hS.view _ _ hl6⟩
    ·rintro R'' a' a2 wl w6 ⟨rfl,h6l⟩ hle hAF hdf hWR hkept hfr
     have hfx:=keep_id hWR hle
     have htm:=tmps_eq hAF (all_self (fun v hv=>tm1_self X (by simp) (hx5 _ rfl) v (by simpa using hv)) hfx)
     obtain ⟨tmps2,defers2⟩:=a2
     simp only [Array.toArray_toList] at hdf htm
     subst hdf
     subst htm
     have h62':=ph6_after hWR hle (by simp) hn6' h6l
     have I5:=I4.after X hkept hfr h62'
     refine ih (i+1) (by omega) _ _ _ _ _ _ _ _ _ [bt] I5 ⟨fun e he=>?_⟩ rfl (hx5 _ rfl)
     obtain ⟨q1,q2,q3,t',q4,q5⟩:=hE4.obj e he
     refine ⟨q1,fun h=>?_,q3,t',q4,(sameNe (hkept.keep e (lt_of_heap q5) q1 q2) (by rintro rfl;have:=X.clt;omega)).trans q5⟩
     rcases h with h | ⟨y,hy,hny⟩
     ·exact q2 h
     ·have hm:e∈ddl b4 b5 b7 c g D [bt] ++ [b6]:=by simp only [List.mem_singleton] at he;subst he;exact mt
      have:=hWR.inj y e e hy (hle e e ⟨rfl,hm⟩)
      subst this
      simp only [List.mem_singleton] at he
      subst he
      exact hny (by simp [inL,ddl])
end
end Go.Proofs.YtjjmefieegcddaaDoor
namespace Go.Proofs.YtjjmefieegcddaaDoor
open Go.RowKit Go.Wg Go.Mm Go.Wk
open Go Go.Sr Go.Ph Go.Tm Go.Conc
theorem toC_draw {c:Nat} {D0 wr0:Nat→Prop} {vs:List Value} {w:World} {Q:PostC} {b:Frame} {a:Act} {k:List Item} {cs:List Frame} {id:Nat} {ops:Array Oper} (h:∀ l∈orders ops,ToC Tryd.prog c D0 wr0 vs (G (b.at a (.inRegion ops l :: k)) cs) w Q) :
  ToC Tryd.prog c D0 wr0 vs (G (b.at a (.code (.region id ops true) :: k)) cs) w Q:=by
 have hm:Tryd.prog.follows .mixedOrders=true:=by kernel_rfl
 refine toC_step fun w1 hr=>⟨b.at a (.inRegion ops (Region.schedule true ops (w1.tape w1.drawn (.order b.fn id))) :: k),w1.at (w1.drawn+1),#[],wr0,fun main cs'=>?_,by simp,⟨Nat.le_refl _,fun _ _ _=>rfl,rfl,rfl,rfl,fun _ h=>h⟩,⟨fun _ h=>h,fun _ h=>.inl h⟩,
  ((h _ (schedule_mem ops _)).rely hr).rely (.at _ w1 _)⟩
 simp [G,stepG,stepG.exec,Frame.at,choose,Sem.run,Question.forced,Question.cut,World.at,hm]
theorem run_recv27 {o:Oper} {a:Act} {x:Operand} {c:Nat} (ho:o.op=.recv 165 x false) (hx:a.eval x=.chan (some c)):∃ z,∀ w,(execOp a.eval o).run Tryd.prog w=.ok (.comm #[rcase c z] true (.recv false)) w:=by
 have hi:((Tryd.prog.info? 27).bind (·.zero)).isSome=true:=by kernel_rfl
 cases hq:Tryd.prog.info? 27 with
 | none=>rw [hq] at hi;cases hi
 | some i =>
  rw [hq] at hi
  cases hz:i.zero with
  | none=>simp [hz] at hi
  | some z =>
   refine ⟨z,fun w=>?_⟩
   unfold execOp
   simp [ho,hx,Go.underlying,Tryd.underlying165,Go.zeroValue,Go.typeInfo,hq,hz,rcase]
theorem events_recv27 {o:Oper} {a:Act} {x:Operand} (ho:o.op=.recv 165 x false) (w:World):(execOp a.eval o).events Tryd.prog w #[]=#[]:=by
 unfold execOp
 simp [ho]
section
variable {V:View} {wA w w1 w2:World} {p:Nat} {k:Wk} {ts:List Nat} {vv rv:Value} {s:SS} {st:Bool} {b4 b5 b6 b7 c g cap bo:Nat} {D:List Nat} {cur:Array Value} {D1 wr1 x:Nat→Prop} {E WW:List Nat}
theorem own_after {R':BR} {wl:World} {DD WW:List Nat} {b:Nat} (hWR:WR Tryd.prog.globals.size R' (inL DD) wl w2) (hle:le (idR (DD ++ WW)) R') (hm:b∈WW) (hn:b ∉ DD) {cs:Array Value} {t:TypeId} (hc:∀ v∈cs,flat0 v=true) (hl:wl.heap[b]? = some (.cells cs t (0,0))) :
  w2.heap[b]? = some (.cells cs t (0,0)):=by
 obtain ⟨c6,hc6,hAF6⟩:=new_block hWR (hle b b ⟨rfl,List.mem_append_right _ hm⟩) hn hl
 rw [af1_fix (keep_id hWR hle) hAF6 (fun v hv=>.flat (flat_of0 (hc v hv)))] at hc6
 exact hc6
theorem PhE.after (X:PhX V wA p k ts vv rv s st b4 b5 b6 b7 c g cap D cur) (hE:PhE wA D E D1 wr1 w) (hk:KeptW c D1 wr1 w w2) {R':BR} {wl:World} (hWR:WR Tryd.prog.globals.size R' (inL (ddl b4 b5 b7 c g D E)) wl w2) (hle:le (idR (ddl b4 b5 b7 c g D E ++ WW)) R') :
  PhE wA D E D1 (fun b=>wr1 b∨own (inL (ddl b4 b5 b7 c g D E)) R' b) w2:=⟨fun e he=>by
 obtain ⟨q1,q2,q3,t',q4,q5⟩:=hE.obj e he
 refine ⟨q1,fun h=>?_,q3,t',q4,(sameNe (hk.keep e (lt_of_heap q5) q1 q2) (by rintro rfl;have:=X.clt;omega)).trans q5⟩
 rcases h with h | ⟨y,hy,hny⟩
 ·exact q2 h
 ·have hm:e∈ddl b4 b5 b7 c g D E:=by simp [ddl,he]
  have:=hWR.inj y e e hy (hle e e ⟨rfl,List.mem_append_left _ hm⟩)
  subst this
  exact hny hm⟩
structure PhO (wA:World) (b6 bo:Nat) (acc:Int × Int) (wr1:Nat→Prop) (w:World):Prop where
 wr:wr1 bo
 ge:wA.heap.size≤bo
 obj:w.heap[bo]? = some (.cells #[.int .i64 acc.1,.int .i64 acc.2] 27 (0,0))
theorem PhO.rely (X:PhX V wA p k ts vv rv s st b4 b5 b6 b7 c g cap D cur) {acc:Int × Int} (h:PhO wA b6 bo acc wr1 w) (hr:RelyW c (orS D1 wr1) w w1):PhO wA b6 bo acc wr1 w1 :=
 ⟨h.wr,h.ge,(sameNe (hr.keep bo (.inr h.wr)) (by rintro rfl;have:=X.clt;have:=h.ge;omega)).trans h.obj⟩
theorem phW2 (X:PhX V wA p k ts vv rv s st b4 b5 b6 b7 c g cap D cur) (I:PhI wA b6 c D1 wr1 w) {acc:Int × Int} (O:PhO wA b6 bo acc wr1 w) (hG:Wg.gN≤wA.heap.size):PhW wA [b6,bo] wr1 w:=⟨fun b hb=>by
 simp only [List.mem_cons,List.not_mem_nil,or_false] at hb
 rcases hb with rfl | rfl
 ·exact ⟨I.w6,X.ge.2.2.1,_,_,I.h6,by simp [flat0]⟩
 ·exact ⟨O.wr,Nat.le_trans hG O.ge,_,_,O.obj,by simp [flat0]⟩⟩
theorem tm2_self (X:PhX V wA p k ts vv rv s st b4 b5 b6 b7 c g cap D cur) {n i j:Nat} {x10 x18 x19 x20 x21 x22 x26 x27 x28 x29 x30 x31:Value} (h6:b6∈WW) (ho:bo∈WW) (hx:∀ v∈[x10,x18,x19,x20,x21,x22,x26,x27,x28,x29,x30,x31],VR (idR (ddl b4 b5 b7 c g D E ++ WW)) v v) :
  ∀ v∈tm2 p s st b4 b5 b6 b7 c bo (.slice (some ⟨g,0,none⟩) n cap) n i j x10 x18 x19 x20 x21 x22 x26 x27 x28 x29 x30 x31,VR (idR (ddl b4 b5 b7 c g D E ++ WW)) v v:=by
 have hu:VR (idR (ddl b4 b5 b7 c g D E ++ WW)) undef undef:=.of_flat rfl
 have hp:VR (idR (ddl b4 b5 b7 c g D E ++ WW)) (ptr p) (ptr p):=fix_self (.ptr (by simp [ddl,X.pD]))
 have hst:VR (idR (ddl b4 b5 b7 c g D E ++ WW)) (.agg (stC s).toArray) (.agg (stC s).toArray):=fix_self (.agg fun v hv=>flat_of0 (stC_flat s v (by simpa using hv)))
 have hb:VR (idR (ddl b4 b5 b7 c g D E ++ WW)) (.bool st) (.bool st):=.of_flat rfl
 have h4:VR (idR (ddl b4 b5 b7 c g D E ++ WW)) (ptr b4) (ptr b4):=fix_self (.ptr (by simp [ddl]))
 have h5:VR (idR (ddl b4 b5 b7 c g D E ++ WW)) (ptr b5) (ptr b5):=fix_self (.ptr (by simp [ddl]))
 have h6':VR (idR (ddl b4 b5 b7 c g D E ++ WW)) (ptr b6) (ptr b6):=fix_self (.ptr (by simp [h6]))
 have ho':VR (idR (ddl b4 b5 b7 c g D E ++ WW)) (ptr bo) (ptr bo):=fix_self (.ptr (by simp [ho]))
 have h7:VR (idR (ddl b4 b5 b7 c g D E ++ WW)) (ptr b7) (ptr b7):=fix_self (.ptr (by simp [ddl]))
 have hsl:VR (idR (ddl b4 b5 b7 c g D E ++ WW)) (.slice (some ⟨g,0,none⟩) n cap) (.slice (some ⟨g,0,none⟩) n cap):=fix_self (.slice (by simp [ddl]))
 have hc:VR (idR (ddl b4 b5 b7 c g D E ++ WW)) (.chan (some c)) (.chan (some c)):=fix_self (.chan (by simp [ddl]))
 have hn:VR (idR (ddl b4 b5 b7 c g D E ++ WW)) (.int .i64 n) (.int .i64 n):=.of_flat rfl
 have hi:VR (idR (ddl b4 b5 b7 c g D E ++ WW)) (.int .i64 i) (.int .i64 i):=.of_flat rfl
 have hj:VR (idR (ddl b4 b5 b7 c g D E ++ WW)) (.int .i64 j) (.int .i64 j):=.of_flat rfl
 simp only [List.mem_cons,List.not_mem_nil,or_false,forall_eq_or_imp,forall_eq] at hx
 obtain ⟨y10,y18,y19,y20,y21,y22,y26,y27,y28,y29,y30,y31⟩:=hx
 intro v hv
 simp only [tm2,List.mem_toArray,List.mem_cons,List.not_mem_nil,or_false] at hv
 rcases hv with rfl | rfl | rfl | rfl | rfl | rfl | rfl | rfl | rfl | rfl | rfl | rfl | rfl | rfl | rfl | rfl | rfl | rfl | rfl | rfl | rfl | rfl | rfl | rfl | rfl | rfl | rfl | rfl | rfl | rfl | rfl | rfl | rfl
 all_goals assumption
theorem phLone2 (X:PhX V wA p k ts vv rv s st b4 b5 b6 b7 c g cap D cur) (I:PhI wA b6 c D1 wr1 w) (hE:PhE wA D E D1 wr1 w) {acc acc':Int × Int} (O:PhO wA b6 bo acc wr1 w) (hG:Wg.gN≤wA.heap.size) (hh:HeapOk OC w)
  {tm tm':Array Value} {todo tgt:List Item} (hit:todo.all itemB=true) (hself:∀ v∈tm,VR (idR (ddl b4 b5 b7 c g D E ++ [b6,bo])) v v) (hself':∀ v∈tm',VR (idR (ddl b4 b5 b7 c g D E ++ [b6,bo])) v v) {b:Frame} (hbf:b.fn=97) (hbk:b.kind=.normal) {cs:List Frame} {vs:List Value} {Q:PostC}
  (hrun:∀ (VL:View) (w0:World),VL.In w0→VL b6=none→VL bo=none→w0.heap[b6]? = some (.cells #[.int .i64 0,.int .i64 0] 27 (0,0))→w0.heap[bo]? = some (.cells #[.int .i64 acc.1,.int .i64 acc.2] 27 (0,0))→VL.Cell b7 0 (.chan (some c)) →
   Rch Tryd.prog tgt (fun a w'=>a=⟨tm',[]⟩∧w'.heap[b6]? = some (.cells #[.int .i64 0,.int .i64 0] 27 (0,0))∧w'.heap[bo]? = some (.cells #[.int .i64 acc'.1,.int .i64 acc'.2] 27 (0,0))) todo ⟨tm,[]⟩ w0)
  (hk:∀ wr2 w2,PhI wA b6 c D1 wr2 w2→PhE wA D E D1 wr2 w2→PhO wA b6 bo acc' wr2 w2→ToC Tryd.prog c D1 wr2 vs (G (b.at ⟨tm',[]⟩ tgt) cs) w2 Q) :
  ToC Tryd.prog c D1 wr1 vs (G (b.at ⟨tm,[]⟩ todo) cs) w Q:=by
 have hW:=phW2 X I O hG
 have hseg:=phSeg X I hE hW hG
 have n6:b6 ∉ ddl b4 b5 b7 c g D E:=hseg.dis b6 (by simp)
 have no:bo ∉ ddl b4 b5 b7 c g D E:=hseg.dis bo (by simp)
 refine phLone (tgt:=tgt) X I hE hW hG hh hit hself hbf hbk (S:=fun a w'=>a=⟨tm',[]⟩∧w'.heap[b6]? = some (.cells #[.int .i64 0,.int .i64 0] 27 (0,0))∧w'.heap[bo]? = some (.cells #[.int .i64 acc'.1,.int .i64 acc'.2] 27 (0,0))) (fun _ _ _ _ h=>h) (fun τ d=>?_) ?_
 ·refine hrun (lv (ddl b4 b5 b7 c g D E) [] w) _ (lv_in _ [] w τ d) (by simp [lv,n6]) (by simp [lv,no]) ?_ ?_ (lv_cell (by simp [ddl]) (I.view X b7 _ X.v7) rfl)
  ·show (frzW (ddl b4 b5 b7 c g D E) w).heap[b6]? = _
   rw [lv_own (WW:=[]) n6]
   exact I.h6
  ·show (frzW (ddl b4 b5 b7 c g D E) w).heap[bo]? = _
   rw [lv_own (WW:=[]) no]
   exact O.obj
 ·rintro R' a' a2 wl w2 ⟨rfl,h6l,hol⟩ hle hAF hdf hWR hkept hfr
  have hfx:=keep_id hWR hle
  have htm:=tmps_eq hAF (all_self (fun v hv=>hself' v (by simpa using hv)) hfx)
  obtain ⟨tmps2,defers2⟩:=a2
  simp only [Array.toArray_toList] at hdf htm
  subst hdf
  subst htm
  refine hk _ _ (I.after X hkept hfr (own_after hWR hle (by simp) n6 (by simp [flat0]) h6l)) (hE.after X hkept hWR hle) ⟨.inl O.wr,O.ge,own_after hWR hle (by simp) no (by simp [flat0]) hol⟩
end
end Go.Proofs.YtjjmefieegcddaaDoor
namespace Go.Proofs.YtjjmefieegcddaaDoor
open Go.RowKit Go.Wg Go.Mm Go.Wk
open Go Go.Sr Go.Ph Go.Tm Go.Conc
def unspan:Value→Int × Int
 | .agg ⟨[.int _ a,.int _ b]⟩=>(a,b)
 | _=>(0,0)
theorem unspan_span (x:Int × Int):unspan (spanV x)=x:=rfl
theorem span_perm {l:List (Int × Int)} {v:Value} {rest:List Value} (h:(l.map spanV).Perm (v :: rest)):∃ x l',v=spanV x∧rest=l'.map spanV∧l.Perm (x :: l'):=by
 have hm:∀ u∈v :: rest,spanV (unspan u)=u:=fun u hu=>by
  obtain ⟨x,_,rfl⟩:=List.mem_map.1 (h.mem_iff.2 hu)
  rw [unspan_span]
 refine ⟨unspan v,rest.map unspan,(hm v (by simp)).symm,?_,?_⟩
 ·rw [List.map_map]
  conv=>lhs;rw [← List.map_id rest]
  exact List.map_congr_left fun u hu=>(hm u (by simp [hu])).symm
 ·have:=h.map unspan
  rw [List.map_map] at this
  have e:l.map (unspan ∘ spanV)=l:=by
   conv=>rhs;rw [← List.map_id l]
   exact List.map_congr_left fun u _=>unspan_span u
  rw [e] at this
  exact this
section
variable {V:View} {wA w w1 w2:World} {p:Nat} {k:Wk} {ts:List Nat} {vv rv:Value} {s:SS} {st:Bool} {b4 b5 b6 b7 c g cap bo:Nat} {D:List Nat} {cur:Array Value} {D1 wr1 x:Nat→Prop} {E WW:List Nat}
structure PhL (V:View) (wA:World) (k:Wk) (s:SS) (st:Bool) (b4 b5 b6 b7 c g:Nat) (D E:List Nat) (bo j:Nat) (D1 wr1:Nat→Prop) (l:List (Int × Int)) (acc:Int × Int) (w:World):Prop where
 I:PhI wA b6 c D1 wr1 w
 e:PhE wA D E D1 wr1 w
 o:PhO wA b6 bo acc wr1 w
 len:j+l.length=k.sources.length
 sum:bothS acc (sumS l)=totalS k s st
 bl:∀ x∈l,Pb 11764900 x
 ba:Pb (11764900 * j) acc
theorem PhL.rely (X:PhX V wA p k ts vv rv s st b4 b5 b6 b7 c g cap D cur) {j:Nat} {l:List (Int × Int)} {acc:Int × Int} (h:PhL V wA k s st b4 b5 b6 b7 c g D E bo j D1 wr1 l acc w) (hr:RelyW c (orS D1 wr1) w w1):PhL V wA k s st b4 b5 b6 b7 c g D E bo j D1 wr1 l acc w1 :=
 ⟨h.I.rely X hr,h.e.rely X hr,h.o.rely X hr,h.len,h.sum,h.bl,h.ba⟩
set_option maxRecDepth 20000 in
set_option maxHeartbeats 2000000 in
theorem loop2_recv (X:PhX V wA p k ts vv rv s st b4 b5 b6 b7 c g cap D cur) (hG:Wg.gN≤wA.heap.size) {b:Frame} (hbf:b.fn=97) (hbk:b.kind=.normal) {cs:List Frame} {Q:PostC} {j:Nat} {l:List (Int × Int)} {acc:Int × Int} (hL:PhL V wA k s st b4 b5 b6 b7 c g D E bo j D1 wr1 l acc w) (hj:j < k.sources.length)
  {x10 x18 x19 x20 x21 x22 x26 x27 x29 x30 x31:Value} (hx:∀ v∈[x10,x18,x19,x20,x21,x22,x26,x27,.chan (some c),x29,x30,x31],VR (idR (ddl b4 b5 b7 c g D E ++ [b6,bo])) v v) {r:List Nat} (hr5:(r=[3,4]∧x27=spanV acc)∨r=[0,3,4])
  (hk:∀ wr2 w2 x l',PhL V wA k s st b4 b5 b6 b7 c g D E bo (j+1) D1 wr2 l' (bothS acc x) w2→ToC Tryd.prog c D1 wr2 (l'.map spanV) (G (b.at ⟨tm2 p s st b4 b5 b6 b7 c bo (.slice (some ⟨g,0,none⟩) k.sources.length cap) k.sources.length k.sources.length (j+1) x10 x18 x19 x20 x21 x22 x26 (spanV acc) (.chan (some c)) (spanV x) (spanV (bothS acc x)) (.int .i64 ((j+1:Nat):Int)),[]⟩ head2) cs) w2 Q) :
  ToC Tryd.prog c D1 wr1 (l.map spanV) (G (b.at ⟨tm2 p s st b4 b5 b6 b7 c bo (.slice (some ⟨g,0,none⟩) k.sources.length cap) k.sources.length k.sources.length j x10 x18 x19 x20 x21 x22 x26 x27 (.chan (some c)) x29 x30 x31,[]⟩ (in11 (2 :: r))) cs) w Q:=by
 have hn6:=X.n6
 have hlen:=hL.len
 obtain ⟨z,hz⟩:=run_recv27 (o:=ops11[2]!) (a:=⟨tm2 p s st b4 b5 b6 b7 c bo (.slice (some ⟨g,0,none⟩) k.sources.length cap) k.sources.length k.sources.length j x10 x18 x19 x20 x21 x22 x26 x27 (.chan (some c)) x29 x30 x31,[]⟩) (x:=.tmp 28) (c:=c) rfl rfl
 refine toC_recv rfl (fun h=>?_) fun w1 hr1=>⟨_,z,_,stepG_comm (i:=2) (o:=ops11[2]!) rfl rfl (by simp [hbk]) (hz w1),?_,fun v rest hperm w2 hr2=>?_⟩
 ·have:l.length=0:=by simpa using congrArg List.length h
  omega
 ·intro e he
  unfold listed at he
  rw [events_recv27 (x:=.tmp 28) rfl,seen_none] at he
  simp at he
 ·obtain ⟨x,l',rfl,rfl,hpl⟩:=span_perm hperm
  have hL2:=(hL.rely X hr1).rely X hr2
  have hll:l.length=l'.length+1:=by simpa using hpl.length_eq
  have hbx:Pb 11764900 x:=hL.bl x (hpl.mem_iff.2 (by simp))
  show ToC Tryd.prog c D1 wr1 _ (G (b.at ⟨tm2 p s st b4 b5 b6 b7 c bo (.slice (some ⟨g,0,none⟩) k.sources.length cap) k.sources.length k.sources.length j x10 x18 x19 x20 x21 x22 x26 x27 (.chan (some c)) (spanV x) x30 x31,[]⟩ (in11 r)) cs) w2 Q
  refine toC_ok fun w3 hr3 hh3 _=>?_
  have hL3:=hL2.rely X hr3
  have hsp:∀ q:Int × Int,VR (idR (ddl b4 b5 b7 c g D E ++ [b6,bo])) (spanV q) (spanV q):=fun q=>fix_self (.agg fun v hv=>by
   have:v=.int .i64 q.1∨v=.int .i64 q.2:=by simpa using hv
   rcases this with rfl | rfl <;> rfl)
  have hx1:∀ v∈[x10,x18,x19,x20,x21,x22,x26,x27,.chan (some c),spanV x,x30,x31],VR (idR (ddl b4 b5 b7 c g D E ++ [b6,bo])) v v:=fun v hv=>by
   simp only [List.mem_cons,List.not_mem_nil,or_false] at hv
   rcases hv with rfl | rfl | rfl | rfl | rfl | rfl | rfl | rfl | rfl | rfl | rfl | rfl
   all_goals first | exact hsp _ | exact hx _ (by simp)
  have hx2:∀ v∈[x10,x18,x19,x20,x21,x22,x26,spanV acc,.chan (some c),spanV x,spanV (bothS acc x),.int .i64 ((j+1:Nat):Int)],VR (idR (ddl b4 b5 b7 c g D E ++ [b6,bo])) v v:=fun v hv=>by
   simp only [List.mem_cons,List.not_mem_nil,or_false] at hv
   rcases hv with rfl | rfl | rfl | rfl | rfl | rfl | rfl | rfl | rfl | rfl | rfl | rfl
   all_goals first | exact .of_flat rfl | exact hsp _ | exact hx _ (by simp)
  have hba:Pb 100000000000 acc:=hL3.ba.mono (by omega)
  refine phLone2 (acc':=bothS acc x) (tgt:=head2) X hL3.I hL3.e hL3.o hG hh3 (it_in11 r) (tm2_self (bo:=bo) X (by simp) (by simp) hx1) (tm2_self (n:=k.sources.length) (i:=k.sources.length) (bo:=bo) (j:=j+1) X (by simp) (by simp) hx2) hbf hbk (fun VL w0 hVL h6n hon h6 ho h7=>?_) fun wr2 w4 I4 E4 O4=>?_
  ·refine (seg6c p s st b4 b5 b6 b7 c bo k.sources.length k.sources.length j acc x _ x10 x18 x19 x20 x21 x22 x26 x27 _ x30 x31 hj hn6 hba (hbx.mono (by omega)) ho hon hVL r hr5).mono ?_
   rintro a w' ⟨rfl,hS⟩
   have hb6:b6≠bo:=by
    have:=X.v6lt
    have:=hL3.o.ge
    omega
   exact ⟨rfl,(hS.old b6 (lt_of_heap h6) (by simp [hb6])).trans h6,hS.has1⟩
  ·refine hk wr2 w4 x l' ⟨I4,E4,O4,by omega,?_,fun y hy=>hL.bl y (hpl.mem_iff.2 (by simp [hy])),?_⟩
   ·have h1:=hL.sum
    rw [sumS_perm hpl,sumS_cons] at h1
    rw [← h1]
    unfold bothS
    simp only [Prod.mk.injEq]
    omega
   ·have:=hL3.ba.both hbx
    refine this.mono ?_
    omega
set_option maxRecDepth 20000 in
set_option maxHeartbeats 2000000 in
theorem loop2 (X:PhX V wA p k ts vv rv s st b4 b5 b6 b7 c g cap D cur) (hG:Wg.gN≤wA.heap.size) {b:Frame} (hbf:b.fn=97) (hbk:b.kind=.normal) {cs:List Frame} {Q:PostC}
  (hend:∀ wr1 w x10 x18 x19 x20 x21 x22 x26 x27 x28 x29 x30 x31,PhL V wA k s st b4 b5 b6 b7 c g D E bo k.sources.length D1 wr1 [] (totalS k s st) w→(∀ v∈[x10,x18,x19,x20,x21,x22,x26,x27,x28,x29,x30,x31],VR (idR (ddl b4 b5 b7 c g D E ++ [b6,bo])) v v) →
   ToC Tryd.prog c D1 wr1 [] (G (b.at ⟨tm2 p s st b4 b5 b6 b7 c bo (.slice (some ⟨g,0,none⟩) k.sources.length cap) k.sources.length k.sources.length k.sources.length x10 x18 x19 x20 x21 x22 x26 x27 x28 x29 x30 x31,[]⟩ head2) cs) w Q) :
  ∀ (m j:Nat),j+m=k.sources.length→∀ wr1 w x10 x18 x19 x20 x21 x22 x26 x27 x28 x29 x30 x31 l acc,PhL V wA k s st b4 b5 b6 b7 c g D E bo j D1 wr1 l acc w→(∀ v∈[x10,x18,x19,x20,x21,x22,x26,x27,x28,x29,x30,x31],VR (idR (ddl b4 b5 b7 c g D E ++ [b6,bo])) v v) →
   ToC Tryd.prog c D1 wr1 (l.map spanV) (G (b.at ⟨tm2 p s st b4 b5 b6 b7 c bo (.slice (some ⟨g,0,none⟩) k.sources.length cap) k.sources.length k.sources.length j x10 x18 x19 x20 x21 x22 x26 x27 x28 x29 x30 x31,[]⟩ head2) cs) w Q:=by
 intro m
 induction m with
 | zero =>
  intro j hj wr1 w x10 x18 x19 x20 x21 x22 x26 x27 x28 x29 x30 x31 l acc hL hx
  obtain rfl:j=k.sources.length:=by omega
  have hl:l=[]:=List.length_eq_zero_iff.1 (by have:=hL.len;omega)
  subst hl
  have e:acc=totalS k s st:=by
   rw [← hL.sum]
   unfold bothS sumS
   simp
  subst e
  exact hend wr1 w x10 x18 x19 x20 x21 x22 x26 x27 x28 x29 x30 x31 hL hx
 | succ m ih =>
  intro j hj wr1 w x10 x18 x19 x20 x21 x22 x26 x27 x28 x29 x30 x31 l acc hL hx
  have hlt:j < k.sources.length:=by omega
  refine toC_ok fun w1 hr1 hh1 _=>?_
  replace hL:=hL.rely X hr1
  clear hr1 w
  simp only [List.mem_cons,List.not_mem_nil,or_false,forall_eq_or_imp,forall_eq] at hx
  obtain ⟨y10,y18,y19,y20,y21,y22,y26,y27,y28,y29,y30,y31⟩:=hx
  have yt:VR (idR (ddl b4 b5 b7 c g D E ++ [b6,bo])) (.bool true) (.bool true):=.of_flat rfl
  have yc:VR (idR (ddl b4 b5 b7 c g D E ++ [b6,bo])) (.chan (some c)) (.chan (some c)):=fix_self (.chan (by simp [ddl]))
  have ys:VR (idR (ddl b4 b5 b7 c g D E ++ [b6,bo])) (spanV acc) (spanV acc):=fix_self (.agg fun v hv=>by
   have:v=.int .i64 acc.1∨v=.int .i64 acc.2:=by simpa using hv
   rcases this with rfl | rfl <;> rfl)
  refine phLone2 (acc':=acc) (tgt:=at11) X hL.I hL.e hL.o hG hh1 it_head2 (tm2_self (bo:=bo) X (by simp) (by simp) (x26:=x26) (x27:=x27) (x28:=x28) (x29:=x29) (x30:=x30) (x31:=x31) (by simp only [List.mem_cons,List.not_mem_nil,or_false,forall_eq_or_imp,forall_eq];exact ⟨y10,y18,y19,y20,y21,y22,y26,y27,y28,y29,y30,y31⟩))
   (tm2_self (n:=k.sources.length) (i:=k.sources.length) (bo:=bo) (j:=j) X (by simp) (by simp) (x10:=x10) (x18:=x18) (x19:=x19) (x20:=x20) (x21:=x21) (x22:=x22) (x26:=.bool true) (x27:=x27) (x28:=x28) (x29:=x29) (x30:=x30) (x31:=x31) (by simp only [List.mem_cons,List.not_mem_nil,or_false,forall_eq_or_imp,forall_eq];exact ⟨y10,y18,y19,y20,y21,y22,yt,y27,y28,y29,y30,y31⟩)) hbf hbk (fun VL w0 hVL h6n hon h6 ho h7=>?_) fun wr2 w2 I2 E2 O2=>?_
  ·refine (seg4 p s st b4 b5 b6 b7 c bo k.sources.length k.sources.length j _ x10 x18 x19 x20 x21 x22 x26 x27 x28 x29 x30 x31 hlt X.n6 w0 hVL).mono ?_
   rintro a w' ⟨rfl,hS⟩
   exact ⟨rfl,(hS.toKp.old b6 (lt_of_heap h6)).trans h6,(hS.toKp.old bo (lt_of_heap ho)).trans ho⟩
  ·show ToC Tryd.prog c D1 wr2 (l.map spanV) (G (b.at ⟨tm2 p s st b4 b5 b6 b7 c bo (.slice (some ⟨g,0,none⟩) k.sources.length cap) k.sources.length k.sources.length j x10 x18 x19 x20 x21 x22 (.bool true) x27 x28 x29 x30 x31,[]⟩ (.code (.region 11 ops11 true) :: [.inBlock 3,.code R12,.inLoop L2,.inBlock 2,.code K13])) cs) w2 Q
   refine toC_draw fun l0 hl0=>?_
   rw [orders11] at hl0
   simp only [List.mem_cons,List.not_mem_nil,or_false] at hl0
   have hL2:PhL V wA k s st b4 b5 b6 b7 c g D E bo j D1 wr2 l acc w2:=⟨I2,E2,O2,hL.len,hL.sum,hL.bl,hL.ba⟩
   refine toC_ok fun w3 hr3 hh3 _=>?_
   have hL3:=hL2.rely X hr3
   have y5:VR (idR (ddl b4 b5 b7 c g D E ++ [b6,bo])) (x5 l0 acc x27) (x5 l0 acc x27):=by
    unfold x5
    split <;> assumption
   show ToC Tryd.prog c D1 wr2 (l.map spanV) (G (b.at ⟨tm2 p s st b4 b5 b6 b7 c bo (.slice (some ⟨g,0,none⟩) k.sources.length cap) k.sources.length k.sources.length j x10 x18 x19 x20 x21 x22 (.bool true) x27 x28 x29 x30 x31,[]⟩ (in11 l0)) cs) w3 Q
   refine phLone2 (acc':=acc) (tgt:=in11 (2 :: l5 l0)) X hL3.I hL3.e hL3.o hG hh3 (it_in11 l0) (tm2_self (bo:=bo) X (by simp) (by simp) (x26:=.bool true) (x27:=x27) (x28:=x28) (x29:=x29) (x30:=x30) (x31:=x31) (by simp only [List.mem_cons,List.not_mem_nil,or_false,forall_eq_or_imp,forall_eq];exact ⟨y10,y18,y19,y20,y21,y22,yt,y27,y28,y29,y30,y31⟩))
    (tm2_self (n:=k.sources.length) (i:=k.sources.length) (bo:=bo) (j:=j) X (by simp) (by simp) (x10:=x10) (x18:=x18) (x19:=x19) (x20:=x20) (x21:=x21) (x22:=x22) (x26:=.bool true) (x27:=x5 l0 acc x27) (x28:=.chan (some c)) (x29:=x29) (x30:=x30) (x31:=x31) (by simp only [List.mem_cons,List.not_mem_nil,or_false,forall_eq_or_imp,forall_eq];exact ⟨y10,y18,y19,y20,y21,y22,yt,y5,yc,y29,y30,y31⟩)) hbf hbk (fun VL w0 hVL h6n hon h6 ho h7=>?_) fun wr4 w4 I4 E4 O4=>?_
   ·refine (seg5 p s st b4 b5 b6 b7 c bo k.sources.length k.sources.length j acc _ x10 x18 x19 x20 x21 x22 _ x27 x28 x29 x30 x31 l0 hl0 h7 (range_at (cs:=[.int .i64 acc.1,.int .i64 acc.2]) (n:=2) ho rfl) hVL).mono ?_
    rintro a w' ⟨rfl,rfl⟩
    exact ⟨rfl,h6,ho⟩
   ·refine loop2_recv (r:=l5 l0) X hG hbf hbk ⟨I4,E4,O4,hL.len,hL.sum,hL.bl,hL.ba⟩ hlt (by simp only [List.mem_cons,List.not_mem_nil,or_false,forall_eq_or_imp,forall_eq];exact ⟨y10,y18,y19,y20,y21,y22,yt,y5,yc,y29,y30,y31⟩) ?_ fun wr5 w5 x l' h5=>?_
    ·rcases hl0 with rfl | rfl | rfl
     ·exact .inl ⟨rfl,rfl⟩
     ·exact .inl ⟨rfl,rfl⟩
     ·exact .inr rfl
    ·refine ih (j+1) (by omega) wr5 w5 _ _ _ _ _ _ _ _ _ _ _ _ l' _ h5 ?_
     have hsp:∀ q:Int × Int,VR (idR (ddl b4 b5 b7 c g D E ++ [b6,bo])) (spanV q) (spanV q):=fun q=>fix_self (.agg fun v hv=>by
      have:v=.int .i64 q.1∨v=.int .i64 q.2:=by simpa using hv
      rcases this with rfl | rfl <;> rfl)
     simp only [List.mem_cons,List.not_mem_nil,or_false,forall_eq_or_imp,forall_eq]
     exact ⟨y10,y18,y19,y20,y21,y22,yt,ys,yc,hsp _,hsp _,.of_flat rfl⟩
end
end Go.Proofs.YtjjmefieegcddaaDoor
namespace Go.Proofs.YtjjmefieegcddaaDoor
open Go.RowKit Go.Wg Go.Mm Go.Wk
open Go Go.Sr Go.Ph Go.Tm Go.Conc
section
variable {V:View} {wA w w1 w2:World} {p:Nat} {k:Wk} {ts:List Nat} {vv rv:Value} {s:SS} {st:Bool} {b4 b5 b6 b7 c g cap bo:Nat} {D:List Nat} {cur:Array Value} {D1 wr1 x:Nat→Prop} {E WW:List Nat}
def TotQ (wA:World) (k:Wk) (s:SS) (st:Bool) (b6 c:Nat) (b:Frame) (cs:List Frame):PostC:=fun _ _ vs a w =>
 vs=[]∧∃ a':Act,a=G (b.at a' [.code .ret]) cs∧a'.defers=[]∧a'.tmps.getD 6 undef=ptr b6∧w.heap[b6]? = some (.cells #[.int .i64 (totalS k s st).1,.int .i64 (totalS k s st).2] 27 (0,0)) ∧
  (∀ b,b < wA.heap.size→b≠b6→b≠c→w.heap[b]? = wA.heap[b]?)∧wA.heap.size≤w.heap.size∧w.os=wA.os∧w.output=wA.output
set_option maxRecDepth 20000 in
set_option maxHeartbeats 2000000 in
theorem tot_end (X:PhX V wA p k ts vv rv s st b4 b5 b6 b7 c g cap D cur) (hG:Wg.gN≤wA.heap.size) {b:Frame} (hbf:b.fn=97) (hbk:b.kind=.normal) {cs:List Frame} {x10 x18 x19 x20 x21 x22 x26 x27 x28 x29 x30 x31:Value}
  (hL:PhL V wA k s st b4 b5 b6 b7 c g D E bo k.sources.length D1 wr1 [] (totalS k s st) w) (hx:∀ v∈[x10,x18,x19,x20,x21,x22,x26,x27,x28,x29,x30,x31],VR (idR (ddl b4 b5 b7 c g D E ++ [b6,bo])) v v) :
  ToC Tryd.prog c D1 wr1 [] (G (b.at ⟨tm2 p s st b4 b5 b6 b7 c bo (.slice (some ⟨g,0,none⟩) k.sources.length cap) k.sources.length k.sources.length k.sources.length x10 x18 x19 x20 x21 x22 x26 x27 x28 x29 x30 x31,[]⟩ head2) cs) w (TotQ wA k s st b6 c b cs):=by
 refine toC_ok fun w1 hr1 hh1 _=>?_
 replace hL:=hL.rely X hr1
 clear hr1
 have hW:=phW2 X hL.I hL.o hG
 have hseg:=phSeg X hL.I hL.e hW hG
 have n6:b6 ∉ ddl b4 b5 b7 c g D E:=hseg.dis b6 (by simp)
 have no:bo ∉ ddl b4 b5 b7 c g D E:=hseg.dis bo (by simp)
 have h6o:b6≠bo:=by
  have:=X.v6lt
  have:=hL.o.ge
  omega
 refine phLone (tgt:=[.code .ret]) X hL.I hL.e hW hG hh1 it_head2 (tm2_self X (by simp) (by simp) hx) hbf hbk
  (S:=fun a w'=>a.tmps[6]? = some (ptr b6)∧w'.heap[b6]? = some (.cells #[.int .i64 (totalS k s st).1,.int .i64 (totalS k s st).2] 27 (0,0))) (fun _ _ _ _ h=>h) (fun τ d=>?_) ?_
 ·obtain ⟨VL,hVL⟩:∃ VL:View,VL=fun i=>if i=b6 then none else lv (ddl b4 b5 b7 c g D E) [b6,bo] w1 i:=⟨_,rfl⟩
  have hin:VL.In ((frzW (ddl b4 b5 b7 c g D E) w1).re τ d):=fun i o h=>by
   subst hVL
   simp only at h
   split at h
   ·cases h
   ·exact lv_in _ _ w1 τ d i o h
  have hr:VL.Range bo 0 [.int .i64 (totalS k s st).1,.int .i64 (totalS k s st).2]:=fun i v hi=>by
   have h1:(lv (ddl b4 b5 b7 c g D E) [b6,bo] w1).Cell bo i v:=lv_cell (by simp) hL.o.obj (by simpa using hi)
   obtain ⟨cs',t',f',h2,h3⟩:=h1
   refine ⟨cs',t',f',?_,by rw [Nat.zero_add];exact h3⟩
   subst hVL
   simp only [Ne.symm h6o,if_false]
   exact h2
  have h6l:((frzW (ddl b4 b5 b7 c g D E) w1).re τ d).heap[b6]? = some (.cells #[.int .i64 0,.int .i64 0] 27 (0,0)):=by
   show (frzW (ddl b4 b5 b7 c g D E) w1).heap[b6]? = _
   rw [lv_own (WW:=[]) n6]
   exact hL.I.h6
  refine (seg7 p s st b4 b5 b6 b7 c bo k.sources.length k.sources.length (totalS k s st) _ x10 x18 x19 x20 x21 x22 x26 x27 x28 x29 x30 x31 X.n6 h6l (by subst hVL;simp) hr hin).mono ?_
  rintro a w' ⟨⟨x26',x32',rfl⟩,hS⟩
  exact ⟨rfl,hS.has1⟩
 ·rintro R' a' a2 wl w2 ⟨h6t,h6l⟩ hle hAF hdf hWR hkept hfr
  refine toC_ok fun w3 hr3 _ _=>toC_here fun w4 hr4=>⟨rfl,a2,rfl,hdf,?_,?_,fun i h1 h2 h3=>?_,?_,?_,?_⟩
  ·have:=af_fix (keep_id hWR hle) hAF h6t (.ptr (by simp))
   rw [Array.getD_eq_getD_getElem?,this]
   rfl
  ·have h1:=own_after hWR hle (b:=b6) (by simp) n6 (by simp [flat0]) h6l
   have w6:wr1 b6∨own (inL (ddl b4 b5 b7 c g D E)) R' b6:=.inl hL.I.w6
   exact ((sameNe (hr4.keep b6 (.inr w6)) X.n6c).trans (sameNe (hr3.keep b6 (.inr w6)) X.n6c)).trans h1
  ·have hn:¬ wr1 i:=fun h=>by
    rcases hL.I.low i h with h | h
    ·exact h2 h
    ·omega
   have hd:=hL.I.rd i h1 h2
   exact ((sameNe (hr4.keep i (.inl hd)) h3).trans (sameNe (hr3.keep i (.inl hd)) h3)).trans ((sameNe (hkept.keep i (Nat.lt_of_lt_of_le h1 hL.I.size) hd hn) h3).trans (hL.I.kept i h1 h2 h3))
  ·exact Nat.le_trans hL.I.size (Nat.le_trans hkept.size (Nat.le_trans hr3.size hr4.size))
  ·exact hr4.os.trans (hr3.os.trans (hkept.os.trans hL.I.os))
  ·exact hr4.output.trans (hr3.output.trans (hkept.output.trans hL.I.out))
set_option maxRecDepth 20000 in
set_option maxHeartbeats 2000000 in
theorem tot_mid (X:PhX V wA p k ts vv rv s st b4 b5 b6 b7 c g cap D cur) (hG:Wg.gN≤wA.heap.size) {b:Frame} (hbf:b.fn=97) (hbk:b.kind=.normal) {cs:List Frame} {x10 x18 x19 x20 x21 x22:Value}
  (I:PhI wA b6 c D1 wr1 w) (hE:PhE wA D E D1 wr1 w) (h22:Sr.flat x22=true) (hx:∀ v∈[x10,x18,x19,x20,x21,x22],VR (idR (ddl b4 b5 b7 c g D E ++ [b6])) v v) :
  ToC Tryd.prog c D1 wr1 (valsTo k s st k.sources.length) (G (b.at ⟨tm1 p s st b4 b5 b6 b7 c (.slice (some ⟨g,0,none⟩) k.sources.length cap) k.sources.length k.sources.length x10 x18 x19 x20 x21 x22,[]⟩ head1) cs) w (TotQ wA k s st b6 c b cs):=by
 refine toC_ok fun w1 hr1 hh1 hc1=>?_
 replace I:=I.rely X hr1
 replace hE:=hE.rely X hr1
 clear hr1 hc1
 have hW:=ph6 X I
 have hn6:=ph6_not X I hE hG
 have hlts:=phSeg_lt X I hE hW hG
 have sf:=tm1_self (E:=E) (WW:=[b6]) (n:=k.sources.length) (i:=k.sources.length) X (by simp) hx
 refine phLone (tgt:=head2) X I hE hW hG hh1 it_head1 sf hbf hbk
  (S:=fun a w'=>∃ bl,a=⟨tm2 p s st b4 b5 b6 b7 c bl (.slice (some ⟨g,0,none⟩) k.sources.length cap) k.sources.length k.sources.length 0 x10 (.bool false) x19 x20 x21 x22 undef undef undef undef undef undef,[]⟩ ∧
   w'.heap[bl]? = some (.cells #[.int .i64 0,.int .i64 0] 27 (0,0))∧w1.heap.size≤bl∧w'.heap[b6]? = some (.cells #[.int .i64 0,.int .i64 0] 27 (0,0)))
  (fun _ _ _ _ h=>h) (fun τ d=>?_) ?_
 ·refine (seg3 p s st b4 b5 b6 b7 c g cap k.sources.length x10 x18 x19 x20 x21 x22 X.n6 _ (lv_in (ddl b4 b5 b7 c g D E) [b6] w1 τ d)).mono ?_
  rintro a w' ⟨bl,rfl,hS⟩
  have hl6:(lv (ddl b4 b5 b7 c g D E) [b6] w1) b6=some (.cells #[.int .i64 0,.int .i64 0] 27 (0,0)):=by
   simp only [lv,List.mem_append,List.mem_singleton,or_true,if_true]
   rw [lv_own (WW:=[]) hn6]
   exact I.h6
  have hb:=(hS.new (.blk bl 27 [.int .i64 0,.int .i64 0]) (by simp) bl rfl).elim id (fun h=>nomatch h)
  refine ⟨bl,rfl,hS.has1,?_,hS.view _ _ hl6⟩
  have e:((frzW (ddl b4 b5 b7 c g D E) w1).re τ d).heap.size=w1.heap.size:=frzW_size _ _
  omega
 ·rintro R' a' a2 wl w2 ⟨bl,rfl,hbl,lbl,h6l⟩ hle hAF hdf hWR hkept hfr
  have hfx:=keep_id hWR hle
  obtain ⟨v11,hv11,r11⟩:=hAF.2 11 (ptr bl) rfl
  obtain ⟨bo,rfl,rbo⟩:=vr_ptr r11
  have nD:¬ inL (ddl b4 b5 b7 c g D E) bl:=fun h=>by
   have:=hlts bl h
   omega
  obtain ⟨c',hc',hAF1⟩:=new_block hWR rbo nD hbl
  have ec:c'=#[.int .i64 0,.int .i64 0]:=af1_fix hfx hAF1 fun v hv=>by
   have:v=.int .i64 0:=by simpa using hv
   subst this
   exact .flat rfl
  subst ec
  have h62:=ph6_after hWR hle (by simp) hn6 h6l
  have obo:own (inL (ddl b4 b5 b7 c g D E)) R' bo:=⟨bl,rbo,nD⟩
  have lbo:wA.heap.size≤bo:=by
   rcases hfr bo obo with h | h
   ·rcases I.low bo h with h | h
    ·subst h
     have e:=hWR.inj bl bo bo rbo (hle bo bo ⟨rfl,by simp⟩)
     have h1:=lt_of_heap I.h6
     omega
    ·exact h
   ·exact Nat.le_trans I.size h
  have hbo:∀ v',VR R' (ptr bl) v'→v'=ptr bo:=fun v' h=>by
   obtain ⟨b',rfl,hb'⟩:=vr_ptr h
   rw [hWR.fn _ _ _ hb' rbo]
  have hall:AllEq R' (tm2 p s st b4 b5 b6 b7 c bl (.slice (some ⟨g,0,none⟩) k.sources.length cap) k.sources.length k.sources.length 0 x10 (.bool false) x19 x20 x21 x22 undef undef undef undef undef undef).toList
    (tm2 p s st b4 b5 b6 b7 c bo (.slice (some ⟨g,0,none⟩) k.sources.length cap) k.sources.length k.sources.length 0 x10 (.bool false) x19 x20 x21 x22 undef undef undef undef undef undef).toList :=
   ⟨fun v' h=>vr_same hfx (sf _ (by simp [tm1])) h,fun v' h=>vr_same hfx (sf _ (by simp [tm1])) h,fun v' h=>vr_same hfx (sf _ (by simp [tm1])) h,fun v' h=>vr_same hfx (sf _ (by simp [tm1])) h,fun v' h=>vr_same hfx (sf _ (by simp [tm1])) h,fun v' h=>vr_same hfx (sf _ (by simp [tm1])) h,fun v' h=>vr_same hfx (sf _ (by simp [tm1])) h,fun v' h=>vr_same hfx (sf _ (by simp [tm1])) h,fun v' h=>vr_same hfx (sf _ (by simp [tm1])) h,fun v' h=>vr_same hfx (sf _ (by simp [tm1])) h,fun v' h=>vr_same hfx (sf _ (by simp [tm1])) h,hbo,fun v' h=>vr_same hfx (sf _ (by simp [tm1])) h,fun v' h=>vr_same hfx (sf _ (by simp [tm1])) h,fun v' h=>vr_same hfx (sf _ (by simp [tm1])) h,fun v' h=>vr_same hfx (sf _ (by simp [tm1])) h,fun v' h=>vr_same hfx (sf _ (by simp [tm1])) h,fun v' h=>vr_same hfx (sf _ (by simp [tm1])) h,fun v' h=>vr_same hfx (.of_flat rfl) h,fun v' h=>vr_same hfx (sf _ (by simp [tm1])) h,fun v' h=>vr_same hfx (sf _ (by simp [tm1])) h,fun v' h=>vr_same hfx (sf _ (by simp [tm1])) h,fun v' h=>vr_same hfx (sf _ (by simp [tm1])) h,fun v' h=>vr_same hfx (sf _ (by simp [tm1])) h,fun v' h=>vr_same hfx (.of_flat rfl) h,fun v' h=>vr_same hfx (.of_flat rfl) h,fun v' h=>vr_same hfx (sf _ (by simp [tm1])) h,fun v' h=>vr_same hfx (sf _ (by simp [tm1])) h,fun v' h=>vr_same hfx (sf _ (by simp [tm1])) h,fun v' h=>vr_same hfx (sf _ (by simp [tm1])) h,fun v' h=>vr_same hfx (sf _ (by simp [tm1])) h,fun v' h=>vr_same hfx (sf _ (by simp [tm1])) h,fun v' h=>vr_same hfx (sf _ (by simp [tm1])) h,trivial⟩
  have htm:=tmps_eq hAF hall
  obtain ⟨tmps2,defers2⟩:=a2
  simp only at hdf htm
  subst hdf
  subst htm
  have I2:=I.after X hkept hfr h62
  have E2:=hE.after X hkept hWR hle
  have hxx:∀ v∈[x10,.bool false,x19,x20,x21,x22,undef,undef,undef,undef,undef,undef],VR (idR (ddl b4 b5 b7 c g D E ++ [b6,bo])) v v:=fun v hv=>by
   have hm:∀ u,VR (idR (ddl b4 b5 b7 c g D E ++ [b6])) u u→VR (idR (ddl b4 b5 b7 c g D E ++ [b6,bo])) u u:=fun u hu=>hu.mono fun i i' ⟨h1,h2⟩=>⟨h1,by
    simp only [List.mem_append,List.mem_cons,List.not_mem_nil,or_false] at h2 ⊢
    rcases h2 with h2 | h2
    ·exact .inl h2
    ·exact .inr (.inl h2)⟩
   simp only [List.mem_cons,List.not_mem_nil,or_false] at hv
   rcases hv with rfl | rfl | rfl | rfl | rfl | rfl | rfl | rfl | rfl | rfl | rfl | rfl
   all_goals first | exact .of_flat rfl | exact hm _ (hx _ (by simp))
  have hv:valsTo k s st k.sources.length=((k.sources.map (foundS k s st)).reverse).map spanV:=by
   unfold valsTo
   rw [List.take_length,List.map_reverse,List.map_map]
   rfl
  rw [hv]
  have hlo:=X.lo
  refine loop2 X hG hbf hbk (fun wr3 w3 y10 y18 y19 y20 y21 y22 y26 y27 y28 y29 y30 y31 hL hy=>tot_end X hG hbf hbk hL hy) k.sources.length 0 (by omega) _ _ _ _ _ _ _ _ _ _ _ _ _ _ _ (0,0) ⟨I2,E2,⟨.inr obo,lbo,hc'⟩,by simp,?_,fun y hy=>?_,?_⟩ hxx
  ·rw [both_zero,sumS_perm (List.reverse_perm _),totalS_sum]
  ·rw [List.mem_reverse] at hy
   obtain ⟨i,_,rfl⟩:=List.mem_map.1 hy
   exact foundS_bd k X.cel.le s st hlo i
  ·unfold Pb
   simp
end
end Go.Proofs.YtjjmefieegcddaaDoor
