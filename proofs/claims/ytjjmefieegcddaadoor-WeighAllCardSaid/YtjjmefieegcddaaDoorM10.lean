/- A part of the proof: W31, T20, V7, T21, T22, W32, W33, W34, T23, W35, W36, W37, W38, W39, W40, W41, T24, W42. -/
import Derived.Test.YtjjmefieegcddaaDoorM09
import Derived.Test.YtjjmefieegcddaaDoorM03
import Derived.Test.YtjjmefieegcddaaDoorM01
import Derived.Test.YtjjmefieegcddaaDoorM05
import Derived.Defers
import Derived.Test.YtjjmefieegcddaaDoorM08
set_option linter.unusedVariables false
set_option linter.unusedSimpArgs false
set_option maxHeartbeats 8000000
set_option maxRecDepth 20000
namespace Go.Proofs.YtjjmefieegcddaaDoor
open Go.RowKit Go.Wg Go.Mm Go.Wk
open Go Go.Sr Go.Ph Go.Tm Go.Conc
variable {D E:List Nat} {b i:Nat} {v:Value} {R:BR}
variable {w:World} {V:View}
theorem Uf {V V':View} {p:Nat} {k:Wk} {ts:List Nat} {vv rv:Value} (h:zO V p k ts vv rv) (hV:∀ b i v,V.Cell b i v->V'.Cell b i v):zO V' p k ts vv rv:=by
 have rg:∀ {b i vs},V.Range b i vs->V'.Range b i vs:=fun h j v hj=>hV _ _ _ (h j v hj)
 have sl:∀ {v n sz get},pW V v n sz get->pW V' v n sz get:=fun⟨a,cap,h1,h2,h3,h4⟩ =>
  ⟨a,cap,h1,h2,h3,fun hn=>by obtain⟨g,off,h5,h6⟩:=h4 hn;exact⟨g,off,h5,fun i hi=>rg (h6 i hi)⟩⟩
 obtain⟨g,cap,h2,h3⟩:=h.c2;exact⟨hV _ _ _ h.c0,hV _ _ _ h.c1,⟨g,cap,hV _ _ _ h2,fun i hi=>hV _ _ _ (h3 i hi)⟩,sl h.ves,sl h.rdg,fun i hi=>rg (h.tun i hi),fun i hi=>by obtain⟨v,h1,h2⟩:=h.fil i hi;exact⟨v,hV _ _ _ h1,sl h2⟩,h.pos,h.le⟩
def Iz (V:View) (D:List Nat):View:=fun b=>if b∈D then(V b).map JZ else none
theorem Yk (h:V.In w):(Iz V D).In (oU D w):=fun b o hb=>by
 unfold Iz at hb;split at hb
 ·rename_i hm;cases hv:V b with
  |none=>rw[hv]at hb;cases hb
  |some x =>
   rw[hv]at hb;rw[jT,h b x hv];simpa[hm]using hb
 ·cases hb
theorem Ac (hb:b∈D) (h:V.Cell b i v):(Iz V D).Cell b i v:=by
 obtain⟨cs,t,fr,h1,h2⟩:=h;exact⟨cs,t,(0,cs.size),by simp[Iz,hb,h1,JZ],h2⟩
theorem VA (hE:∀ b∈D,b∈E) (h:(keepD V D).Cell b i v):(Iz V E).Cell b i v:=by
 obtain⟨cs,t,fr,h1,h2⟩:=h;unfold keepD at h1;split at h1
 ·rename_i hm;exact Ac (hE b hm) ⟨cs,t,fr,h1,h2⟩
 ·cases h1
theorem yL (s:SS) (v:Value) (h:v∈dJ s):iL v=true:=by
 unfold dJ mM pY at h;simp only[List.mem_append,List.mem_map,List.mem_flatMap]at h;rcases h with⟨m,_,rfl⟩|⟨q,_,h⟩
 ·rfl
 ·simp only[List.mem_cons,List.not_mem_nil,or_false]at h;rcases h with rfl|rfl<;>rfl
theorem uU (h:iL v=true):Sr.flat v=true:=by
 unfold iL at h;split at h<;>first|rfl|cases h
theorem sF (hE:∀ b∈D,b∈E) (h:IZ D v):qV (iq E) v v:=by
 rcases h with h|⟨b,o,rfl,hb⟩|⟨b,o,n,c,rfl,hb⟩
 ·exact .base (.flat (uU h))
 ·exact .base (.ptr ⟨⟨rfl,hE b hb⟩,rfl,rfl⟩)
 ·exact .base (.slice ⟨⟨rfl,hE b hb⟩,rfl,rfl⟩)
theorem Xj {x:Int × Int} (h:VR R (aJ x) v):v=aJ x:=by
 unfold aJ at h |-;cases h with
 | base h =>
  cases h with
  |base h =>
   cases h with
   |flat h=>cases h
 | agg hsz h =>
  rename_i c';have hi:∀ (u u':Value),Sr.flat u=true->qV R u u'->u'=u:=by
   intro u u' hu h;cases h with
   |base h =>
    cases h with
    |flat _=>rfl
    |ptr _=>cases hu
    |slice _=>cases hu
    |chan _=>cases hu
   |func _ _ _ _ _=>cases hu
  simp only[List.size_toArray,List.length_cons,List.length_nil]at hsz;congr 1;apply Array.ext
  ·simpa using hsz
  ·intro j h1 h2;simp only [List.size_toArray,List.length_cons,List.length_nil] at h2;have hj:j=0\/j=1:=by omega
   rcases hj with rfl|rfl
   ·exact hi _ _ rfl (h 0 _ _ rfl (Array.getElem?_eq_getElem h1))
   ·exact hi _ _ rfl (h 1 _ _ rfl (Array.getElem?_eq_getElem h1))
theorem XC {D:Nat->Prop} {G:Nat} {wl wa:World} (hw:WR G R D wl wa) {c:Nat} (hc:D c) (h:VR R (.chan (some c)) v):v=.chan (some c):=by
 cases h with
 | base h =>
  cases h with
  |base h =>
   cases h with
   |flat h=>cases h
   |chan h=>rw[hw.old _ _ h hc]
theorem Ue {f:FuncId} (hf:bT.ok f=true) {args:Array Value} (ha:∀ v∈args,VR (iq D) v v):ou Tryd.prog .deferred (iq D) (Frame.enter Tryd.prog f args .normal) [] (Frame.enter Tryd.prog f args .deferred) []:=by
 obtain⟨fn,c,h1,h2,h3,h4,h5⟩:=XJ f hf;have hE:Frame.enter Tryd.prog f args .normal=(base f).at {tmps:=args ++ Array.replicate (fn.ntmps-args.size) undef,defers:=[]} [.code c]:=enter_at args h1 h2;have hE':Frame.enter Tryd.prog f args .deferred=(baseD f).at {tmps:=args ++ Array.replicate (fn.ntmps-args.size) undef,defers:=[]} [.code c]:=enter_atD args h1 h2;rw[hE,hE'];refine⟨⟨rfl,⟨rfl,fun i v hv=>⟨v,hv,?_⟩⟩,rfl,fun x hx=>?_,rfl,rfl,rfl,.inl rfl,.inr rfl,.inl rfl,rfl,rfl,fun fn' hfn=>?_⟩,rfl⟩
 ·have hm:=Array.mem_of_getElem? hv;rcases Array.mem_append.1 hm with h | h
  ·exact ha v h
  ·have:=(Array.mem_replicate.1 h).2;subst this;exact .of_flat rfl
 ·have:x=.code c:=by simpa [Frame.at] using hx
  subst this;exact h3
 ·have:Tryd.prog.funcs[f]? = some fn':=hfn;rw[h1]at this;cases this;exact h4
theorem SN (p:Nat) (k:Wk) (ts:List Nat) (vv rv:Value) (hC:zO V p k ts vv rv) (hok:k.Ok) (s:SS) (hs:s.WF) (hlo:∀ i,0<=(s.aP i).1) (hhi:∀ i,(s.aP i).2<=1000) (st:Bool) (i:Nat) (hi:i<k.n)
 (D:List Nat) (hD:Closed V D) (hp:p∈D) (bt bs bst bf c:Nat) {t1 t2 t3 t4:TypeId} (h1:V bt=some (.cells #[ptr (ts.getD i 0)] t1 (0,0))) (h2:V bs=some (.cells (dJ s).toArray t2 (0,0)))
 (h3:V bst=some (.cells #[.bool st] t3 (0,0))) (h4:V bf=some (.cells #[.chan (some c)] t4 (0,0))) (hc:∃ o,w.heap[c]? = some o/\DY o=true)
 (hg:Wg.gN<=bt/\Wg.gN<=bs/\Wg.gN<=bst/\Wg.gN<=bf/\Wg.gN<=c) (hV:V.In w) (hh:ay OC w) :
  WT Tryd.prog c (wX (bt::bs::bst::bf::c::D)) (AtSend Tryd.prog c (aJ (kX k s st i)) (wX (bt::bs::bst::bf::c::D))) (fun _=>False)
   (kG Tryd.prog [{target:=.fn (.func 123) #[ptr bt,ptr bs,ptr bst,ptr bf],args:=#[]}]) [] w:=by
 obtain⟨DD,hDD⟩:∃ DD,bt::bs::bst::bf::c::D=DD:=⟨_,rfl⟩;rw[hDD];have mt:bt∈DD:=by subst hDD;simp
 have ms:bs∈DD:=by subst hDD;simp
 have mst:bst∈DD:=by subst hDD;simp
 have mf:bf∈DD:=by subst hDD;simp
 have mc:c∈DD:=by subst hDD;simp
 have mD:∀ b∈D,b∈DD:=fun b hb=>by subst hDD;simp[hb]
 obtain⟨hCk,htk⟩:=hC.keep hD hp;have hCF:zO (Iz V DD) p k ts vv rv:=Uf hCk fun b i v h=>VA mD h
 have hInF:(Iz V DD).In (oU DD w):=Yk hV;have hN:∀ b∈DD,Tryd.prog.globals.size<=b:=by
  subst hDD;intro b hb;simp only[List.mem_cons]at hb;rcases hb with rfl|rfl|rfl|rfl|rfl|hb
  ·exact hg.1
  ·exact hg.2.1
  ·exact hg.2.2.1
  ·exact hg.2.2.2.1
  ·exact hg.2.2.2.2
  ·exact hD.ge b hb
 have hlt:Tryd.prog.globals.size<=w.heap.size:=by
  have:=lt_of_heap (hV _ _ h1);exact Nat.le_of_lt (Nat.lt_of_le_of_lt hg.1 this)
 have hrel:WR Tryd.prog.globals.size (iq DD) (wX DD) (oU DD w) w:=by
  refine XH hN hlt fun b hb=>?_
  rw[<- hDD]at hb;simp only[List.mem_cons]at hb;rcases hb with rfl|rfl|rfl|rfl|rfl|hb
  ·refine .inl ⟨_,_,hV _ _ h1,fun v hv=>?_⟩;have:v=ptr (ts.getD i 0):=by simpa using hv
   subst this;exact sF mD (.inr (.inl ⟨_,_,rfl,htk i hi⟩))
  ·refine .inl ⟨_,_,hV _ _ h2,fun v hv=>?_⟩;refine sF mD (.inl ?_);have hv':v∈dJ s:=by simpa using hv
   exact yL s v hv'
  ·refine .inl ⟨_,_,hV _ _ h3,fun v hv=>?_⟩;have:v=.bool st:=by simpa using hv
   subst this;exact .base (.flat rfl)
  ·refine .inl ⟨_,_,hV _ _ h4,fun v hv=>?_⟩;have:v=.chan (some c):=by simpa using hv
   subst this;exact .base (.chan ⟨rfl,mc⟩)
  ·exact .inr hc
  ·obtain⟨cs,t,hb1,hb2⟩:=hD.cells b hb;exact .inl ⟨cs,t,hV _ _ hb1,fun v hv=>sF mD (hb2 v hv)⟩
 obtain⟨fn,cb,hf1,hf2,_,hf4,hf5⟩:=XJ 123 rfl;have hres:Tryd.f123.results=#[]:=by kernel_rfl
 rw[Tryd.func123]at hf1;cases hf1;let args:Array Value:=#[ptr bt,ptr bs,ptr bst,ptr bf];let Stop:Frame->List Frame->World->Prop:=fun fr mine _=>mine=[]/\∃ a':Act,fr=(Frame.enter Tryd.prog 123 args .normal).at a' [.inRegion wJ [2]]/\a'.defers=[]/\a'.tmps.toList[40]? = some (.chan (some c))/\a'.tmps.toList[41]? = some (aJ (kX k s st i))
 refine .step fun w1 hr1=>⟨Frame.enter Tryd.prog 123 (#[] ++ args) .deferred,[kG Tryd.prog []],w1,#[],fun _=>False,fun main cs=>NT Tryd.func123 hf5 hf2 main cs w1,by simp,.refl _ w1,.refl _ w1,?_⟩
 have e0:(#[] ++ args:Array Value)=args:=by simp
 rw[e0];have hr1':dn c (sK (wX DD) (own (wX DD) (iq DD))) w w1:=by rw[QF];exact hr1
 have hw1:=Jz hrel hr1';have hwt:=ER (P:=Tryd.prog) (K:=.deferred) (ch:=c) (D:=wX DD) (R:=iq DD) (f0:=123) (Stop:=Stop) XJ lT (fun fr mine w τ d _ h=>h) (fun fr mine w h=>by obtain⟨_,a',rfl,_⟩:=h;exact .inl rfl)
  (fr:=Frame.enter Tryd.prog 123 args .normal) (fra:=Frame.enter Tryd.prog 123 args .deferred) (mine:=[]) (minea:=[]) (G8 lT trivial args)
  (Ue rfl fun v hv=>by
   have:v=ptr bt\/v=ptr bs\/v=ptr bst\/v=ptr bf:=by simpa[args]using hv
   rcases this with rfl|rfl|rfl|rfl
   ·exact .base (.base (.ptr ⟨⟨rfl,mt⟩,rfl,rfl⟩))
   ·exact .base (.base (.ptr ⟨⟨rfl,ms⟩,rfl,rfl⟩))
   ·exact .base (.base (.ptr ⟨⟨rfl,mst⟩,rfl,rfl⟩))
   ·exact .base (.base (.ptr ⟨⟨rfl,mf⟩,rfl,rfl⟩)))
  hw1 (FH (w:=w) hh) (fun τ d=>by
   have hcell:∀ {b:Nat} {v:Value} {t:TypeId},b∈DD->V b=some (.cells #[v] t (0,0))->(Iz V DD).Cell b 0 v:=fun hb h=>Ac hb ⟨_,_,_,h,rfl⟩
   have hrg:(Iz V DD).Range bs 0 (dJ s):=fun j v hj=>Ac ms ⟨_,_,_,h2,by rw[Nat.zero_add];simpa using hj⟩
   obtain⟨a',w',⟨q1,q2,q3,_⟩,q4⟩:=Md (w:=(oU DD w).re τ d) p k ts vv rv hCF hok s hs hlo hhi st i hi bt bs bst bf c (hcell mt h1) hrg (hcell mst h3) (hcell mf h4) hInF [floor Tryd.prog];exact⟨_,[],w',⟨rfl,a',rfl,q1,q2,q3⟩,q4⟩)
 have hwt2:=hwt.below [kG Tryd.prog []];rw[QF]at hwt2;refine hwt2.mono fun wr fr mine w2 ⟨m,hm,hst⟩=>?_
 subst hm;obtain⟨R',frl,minel,wl2,hwr,hle,⟨hml,a',hfrl,hdf,h40,h41⟩,_,hstk,hw2⟩:=hst;subst hml;cases m with
 |cons x m=>exact hstk.elim
 | nil =>
  have hF:FQ Tryd.prog R' frl fr:=hstk.1;have hfn:fr.fn=123:=by rw[hF.fn,hfrl];rfl
  have htodo:fr.todo=[.inRegion wJ [2]]:=by rw[hF.todo,hfrl];rfl
  have hmode:fr.mode=.run:=by rw[hF.mode,hfrl];rfl
  have htm:frl.tmps=a'.tmps:=by rw[hfrl];rfl
  have hfr:fr=fr.at ⟨fr.tmps,[]⟩ [.inRegion wJ [2]]:=by
   have h1:=hF.defers';have h2:=hF.round';cases fr
   simp_all[Frame.at]
  obtain⟨v40,h40',r40⟩:=hF.tmps.2 40 (.chan (some c)) (by rw[htm];simpa using h40);obtain⟨v41,h41',r41⟩:=hF.tmps.2 41 (aJ (kX k s st i)) (by rw[htm];simpa using h41);have e40:=XC hw2 mc r40;have e41:=Xj r41;subst e40;subst e41;rw[hfr];refine atSend_of (i:=2) (o:=wJ[2]!) (x:=.tmp 40) (y:=.tmp 41) rfl rfl rfl ?_ ?_ hF.kind rfl (fn:=Tryd.f123) (by rw[hfn];exact Tryd.func123) hres
  ·show fr.tmps.getD 40 undef=_;rw[Array.getD_eq_getD_getElem?,h40'];rfl
  ·show fr.tmps.getD 41 undef=_;rw[Array.getD_eq_getD_getElem?,h41'];rfl
end Go.Proofs.YtjjmefieegcddaaDoor
namespace Go.Ph
open Go
open Go.Tm
open Go.Sr
open Go.Conc
section
variable {a:Goroutine} {cs:List Frame} {DD WW:List Nat}
variable {P:Program} {c:Nat} {D0 wr0:Nat->Prop} {vs:List Value} {w:World} {Q:wY}
theorem oK.aaN {d:Nat} (h:oK P c D0 wr0 vs a (w.at d) Q):oK P c D0 wr0 vs a w Q:=by
 have:=h.rely (w':=(w.at d).at w.drawn) (.at _ _ _);exact this
theorem Uu {fr:Frame} (h:∀ w1,dn c (sK D0 wr0) w w1->∃ fr' w2 es wr',(∀ main cs',stepG P main (G fr cs') w1=.go (G fr' cs') w2 es)/\(∀ e∈es,Ae D0 wr' e)/\BI wr0 w1 w2/\Ic wr0 wr' w1 w2/\oK P c D0 wr' vs (G fr' cs) w2 Q) :
  oK P c D0 wr0 vs (G fr cs) w Q:=by
 have hwt:WT P c D0 (fun wr fr mine w=>oK P c D0 wr vs (G fr (mine ++ cs)) w Q) wr0 fr [] w:=by
  refine .step fun w1 hr=>?_
  obtain⟨fr',w2,es,wr',h1,h2,h3,h4,h5⟩:=h w1 hr;exact⟨fr',[],w2,es,wr',fun main cs'=>h1 main cs',h2,h3,h4,.stop fun w3 h6=>h5.rely h6⟩
 exact Vb (mine:=[]) (fun wr fr mine w d h=>h.aaN) hwt fun _ _ _ _ h=>h
theorem WT.widen {ch:Nat} {D D' wr wr0:Nat->Prop} {Stop:vO} {fr:Frame} {mine:List Frame} (hD:∀ b,D b->D' b\/wr0 b) (h:WT P ch D Stop wr fr mine w) :
  WT P ch D' (fun wr' fr mine w=>∃ x,wr'=(fun b=>wr0 b\/x b)/\Stop x fr mine w) (fun b=>wr0 b\/wr b) fr mine w:=by
 obtain⟨τ,h⟩:=h;have hsub:∀ wr:Nat->Prop,∀ b,sK D wr b->sK D' (fun b=>wr0 b\/wr b) b:=fun wr b hb=>by
  rcases hb with hb|hb
  ·rcases hD b hb with h | h
   ·exact .inl h
   ·exact .inr (.inl h)
  ·exact .inr (.inr hb)
 induction τ generalizing wr fr mine w with
 |leaf=>exact .stop fun w' hr=>⟨wr,rfl,h w' (hr.sub (hsub wr))⟩
 | node f ih =>
  refine .mk fun w' hr=>?_
  rcases h w' (hr.sub (hsub wr))with h|⟨fr',mine',w2,es,wr',h1,h2,h3,h4,h5⟩
  ·exact .inl ⟨wr,rfl,h⟩
  ·refine .inr ⟨fr',mine',w2,es,fun b=>wr0 b\/wr' b,h1,fun e he=>?_,?_,?_,ih w' h5⟩
   ·have he:=h2 e he;obtain ⟨loc,wrt,sy⟩:=e;unfold Ae at he |-;cases loc with
    | cell a =>
     refine⟨he.1,?_⟩;rcases he.2 with h|⟨h,hw⟩
     ·exact .inl (.inr h)
     ·rcases hD _ h with h | h
      ·exact .inr ⟨h,hw⟩
      ·exact .inl (.inl h)
    | obj r =>
     refine⟨he.1,?_⟩;rcases he.2 with h|h
     ·exact .inl (.inr h)
     ·rcases hD _ h with h | h
      ·exact .inr h
      ·exact .inl (.inl h)
    |mark m=>exact he
    |_=>exact he.elim
   ·exact⟨h3.size,fun b hb hn=>h3.keep b hb fun h=>hn (.inr h),h3.os,h3.output,h3.tape,h3.okh⟩
   ·refine ⟨fun b hb=>hb.imp id (h4.le b),fun b hb=>?_⟩;rcases hb with hb | hb
    ·exact .inl (.inl hb)
    ·rcases h4.fresh b hb with h | h
     ·exact .inl (.inr h)
     ·exact .inr h
structure yY (ch:Nat) (D wr:Nat->Prop) (w w':World):Prop where
 size:w.heap.size<=w'.heap.size
 keep:∀ b,b<w.heap.size->D b->¬ wr b->vU ch w w' b
 os:w'.os=w.os
 output:w'.output=w.output
 tape:w'.tape=w.tape
theorem WT.kept {ch:Nat} {D wr:Nat->Prop} {Stop:vO} {fr:Frame} {mine:List Frame} (h:WT P ch D Stop wr fr mine w) :
  WT P ch D (fun wr' fr mine w'=>Stop wr' fr mine w'/\yY ch D wr w w'/\∀ b,wr' b->wr b\/w.heap.size<=b) wr fr mine w:=by
 have key:∀ (w0:World) (wr0:Nat->Prop) (τ:Tr) (wr:Nat->Prop) (fr:Frame) (mine:List Frame) (w:World),QG P ch D Stop τ wr fr mine w->yY ch D wr0 w0 w->(∀ b,wr b->wr0 b\/w0.heap.size<=b) ->
   WT P ch D (fun wr' fr mine w'=>Stop wr' fr mine w'/\yY ch D wr0 w0 w'/\∀ b,wr' b->wr0 b\/w0.heap.size<=b) wr fr mine w:=by
  intro w0 wr0 τ;have rl:∀ {wr:Nat->Prop} {w w':World},yY ch D wr0 w0 w->dn ch (sK D wr) w w'->yY ch D wr0 w0 w':=fun hk hr =>
   ⟨Nat.le_trans hk.size hr.size,fun b hb hD hw=>(hk.keep b hb hD hw).trans (hr.keep b (.inl hD)),hr.os.trans hk.os,hr.output.trans hk.output,hr.tape.trans hk.tape⟩
  induction τ with
  |leaf=>exact fun wr fr mine w h hk hf=>.stop fun w' hr=>⟨h w' hr,rl hk hr,hf⟩
  | node f ih =>
   intro wr fr mine w h hk hf;refine .mk fun w' hr=>?_
   have hk':=rl hk hr;rcases h w' hr with h|⟨fr',mine',w2,es,wr',h1,h2,h3,h4,h5⟩
   ·exact .inl ⟨h,hk',hf⟩
   ·refine .inr ⟨fr',mine',w2,es,wr',h1,h2,h3,h4,ih w' wr' fr' mine' w2 h5 ⟨Nat.le_trans hk'.size h3.size,fun b hb hD hw=>(hk'.keep b hb hD hw).trans (.inl (h3.keep b (Nat.lt_of_lt_of_le hb hk'.size) fun h=>?_)),h3.os.trans hk'.os,h3.output.trans hk'.output,h3.tape.trans hk'.tape⟩ fun b hb=>?_⟩
    ·rcases hf b h with h | h
     ·exact hw h
     ·omega
    ·rcases h4.fresh b hb with h | h
     ·exact hf b h
     ·exact .inr (Nat.le_trans hk'.size h.1)
 obtain⟨τ,h⟩:=h;exact key w wr τ wr fr mine w h ⟨Nat.le_refl _,fun b _ _ _=>.refl w b,rfl,rfl,rfl⟩ fun b hb=>.inl hb
theorem tV (h:∀ w1,dn c (sK D0 wr0) w w1->ay OC w1->(∃ k,w1.heap[c]? = some (.chan 0 #[] false k k false))->oK P c D0 wr0 vs a w1 Q):oK P c D0 wr0 vs a w Q:=by
 intro s gs sl t w1 hr hp;exact h w1 hr hp.heap hp.chan s gs sl t w1 (.refl _ w1) hp
theorem V8 [bT] {N:Nat} (hN:∀ b∈DD ++ WW,N<=b) (hlt:N<=w.heap.size) (hdis:∀ b∈WW,b ∉ DD)
  (hobj:∀ b∈DD,(∃ c t,w.heap[b]? = some (.cells c t (0,0))/\∀ v∈c,qV (iq (DD ++ WW)) v v)\/∃ o,w.heap[b]? = some o/\DY o=true)
  (hobjW:∀ b∈WW,∃ c t,w.heap[b]? = some (.cells c t (0,0))/\∀ v∈c,qV (iq (DD ++ WW)) v v):WR N (iq (DD ++ WW)) (wX DD) (oU DD w) w:=by
 refine⟨?_,?_,?_,?_,?_,rfl,rfl,?_,by rw[oJ];exact hlt,hlt⟩
 ·rintro x b ⟨h,hb⟩;subst h;by_cases hd:b∈DD
  ·rcases hobj _ hd with ⟨c,t,h1,h2⟩ | ⟨o,h1,h2⟩
   ·refine⟨.cells c t (0,c.size),.cells c t (0,0),?_,h1,.inl ⟨c,c,t,(0,c.size),(0,0),rfl,rfl,⟨rfl,fun i v hv=>⟨v,hv,h2 v (Array.mem_of_getElem? hv)⟩⟩,fun _=>rfl,fun h=>(h hd).elim⟩⟩;rw[jT,h1];simp[hd,JZ]
   ·refine⟨o,o,?_,h1,.inr (.inr ⟨hd,h2,h2⟩)⟩;rw[jT,h1];cases o<;>first|(cases h2;done)|(simp only[Option.map_some];split<;>rfl)
  ·have hw:b∈WW:=(List.mem_append.1 hb).resolve_left hd;obtain⟨c,t,h1,h2⟩:=hobjW _ hw;refine⟨.cells c t (0,0),.cells c t (0,0),?_,h1,.inl ⟨c,c,t,(0,0),(0,0),rfl,rfl,⟨rfl,fun i v hv=>⟨v,hv,h2 v (Array.mem_of_getElem? hv)⟩⟩,fun h=>(hd h).elim,fun _=>⟨rfl,rfl⟩⟩⟩;rw[jT,h1];simp[hd]
 ·rintro b b1 b2 ⟨rfl,_⟩ ⟨rfl,_⟩;rfl
 ·rintro b1 b2 b ⟨h1,_⟩ ⟨h2,_⟩;exact h1.symm.trans h2
 ·rintro b b' ⟨rfl,_⟩ _;rfl
 ·rintro b b' ⟨rfl,h⟩;exact⟨hN _ h,hN _ h⟩
 ·intro b hb;rw[oJ];rcases hobj b hb with⟨c,t,h1,_⟩|⟨o,h1,_⟩<;>exact(Array.getElem?_eq_some_iff.1 h1).1
theorem UG (hdis:∀ b∈WW,b ∉ DD):own (wX DD) (iq (DD ++ WW))=wX WW:=by
 funext b;refine propext ⟨fun⟨x,⟨h1,h2⟩,h3⟩=>?_,fun h=>⟨b,⟨rfl,List.mem_append_right _ h⟩,hdis b h⟩⟩;subst h1;exact(List.mem_append.1 h2).resolve_left h3
structure Seg [bT] (P:Program) (D0 wr0:Nat->Prop) (DD WW:List Nat) (w:World):Prop where
 rd:∀ b∈DD,D0 b\/wr0 b
 wr:∀ b∈WW,wr0 b
 dis:∀ b∈WW,b ∉ DD
 ge:∀ b∈DD ++ WW,P.globals.size<=b
 lt:P.globals.size<=w.heap.size
 obj:∀ b∈DD,(∃ c t,w.heap[b]? = some (.cells c t (0,0))/\∀ v∈c,qV (iq (DD ++ WW)) v v)\/∃ o,w.heap[b]? = some o/\DY o=true
 objW:∀ b∈WW,∃ c t,w.heap[b]? = some (.cells c t (0,0))/\∀ v∈c,qV (iq (DD ++ WW)) v v
theorem WB [bT] (hC:F7 P) (hS:ED P fun _=>True) (hg:Seg P D0 wr0 DD WW w) (hh:ay OC w)
 {f0:FuncId} {b:Frame} {a:Act} {todo:List Item} (hst:uw f0 (b.at a todo) []) (hsr:FQ P (iq (DD ++ WW)) (b.at a todo) (b.at a todo))
 {S:Act->List Item->World->Prop} (hS':∀ a t w τ d,S a t w->S a t (w.re τ d))
  (hrun:∀ τ d,∃ a' todo' w',S a' todo' w'/\Steps P (lone (b.at a todo) [floor P] ((oU DD w).re τ d)) (lone (b.at a' todo') [floor P] w'))
  (hk:∀ R' a' a2 todo' wl w2,S a' todo' wl->le (iq (DD ++ WW)) R'->AF (VR R') a'.tmps a2.tmps->a2.defers=[]->WR P.globals.size R' (wX DD) wl w2->yY c D0 wr0 w w2->(∀ b,own (wX DD) R' b->wr0 b\/w.heap.size<=b)->ay OC wl ->
   oK P c D0 (fun b=>wr0 b\/own (wX DD) R' b) vs (G (b.at a2 todo') cs) w2 Q) :
  oK P c D0 wr0 vs (G (b.at a todo) cs) w Q:=by
 have hrel:=V8 (w:=w) hg.ge hg.lt hg.dis hg.obj hg.objW;let Stop:Frame->List Frame->World->Prop:=fun fr mine w=>mine=[]/\∃ a' todo',fr=b.at a' todo'/\S a' todo' w
 have hwt:=ER (P:=P) (K:=.normal) (ch:=c) (D:=wX DD) (R:=iq (DD ++ WW)) (f0:=f0) (Stop:=Stop) hC hS (fun fr mine w τ d _ h=>by obtain⟨h1,a',t',h2,h3⟩:=h;exact⟨h1,a',t',h2,hS' _ _ _ _ _ h3⟩)
  (fun fr mine w h=>by obtain ⟨_,a',t',rfl,_⟩:=h;exact .inl rfl) (mine:=[]) (minea:=[]) hst ⟨hsr,hst.2.2.1⟩ hrel (FH hh) (fun τ d=>by
   obtain⟨a',t',w',h1,h2⟩:=hrun τ d;exact⟨_,[],w',⟨rfl,a',t',rfl,h1⟩,h2⟩)
 rw[UG hg.dis]at hwt;have hwd:=hwt.widen (D':=D0) (wr0:=wr0) hg.rd;have e0:(fun b=>wr0 b\/wX WW b)=wr0:=by
  funext b;exact propext ⟨fun h=>h.elim id (hg.wr b),.inl⟩
 rw [e0] at hwd;have hwd2:WT P c D0 (fun wr fr mine w=>oK P c D0 wr vs (G fr (mine ++ cs)) w Q) wr0 (b.at a todo) [] w:=by
  refine hwd.kept.mono fun wr fr mine w2 ⟨⟨x,hx,R',frl,minel,wl,hxo,hle,⟨hm,a',t',hfrl,hs⟩,hhl,hstk,hw2⟩,hkept,hfrs⟩=>?_
  subst hm;cases mine with
  |cons y m=>exact hstk.elim
  | nil =>
   have hF:FQ P R' frl fr:=hstk.1;have hfr:fr=b.at ⟨fr.tmps,[]⟩ t':=by
    have h1:=hF.defers';have h2:=hF.round';have h3:=hF.fn;have h4:=hF.todo;have h5:=hF.mode;have h6:fr.kind=b.kind:=hstk.2.trans hst.2.2.1.symm;subst hfrl;cases fr
    simp_all[Frame.at]
   rw[hfr,hx,hxo];have hT:=hF.tmps;rw[hfrl]at hT;exact hk R' a' ⟨fr.tmps,[]⟩ t' wl w2 hs hle hT rfl hw2 hkept (fun b hb=>hfrs b (by rw[hx,hxo];exact .inr hb)) hhl
 exact Vb (mine:=[]) (fun wr fr mine w d h=>h.aaN) hwd2 fun _ _ _ _ h=>h
end
def MN (m:Region.Mode) (ops:Array Oper):Nat->Array Bool->List Nat->List (List Nat)
 |0,_,acc=>[acc.reverse]
 |fuel+1,listed,acc =>
  let rs:=(List.range ops.size).filter fun i=>!listed.getD i true && ((ops[i]?).map (·.after.all fun e=>!Region.binds m e || listed.getD e.on false)).getD false
  if rs.isEmpty then[acc.reverse] else rs.flatMap fun i=>MN m ops fuel (listed.setIfInBounds i true) (i::acc)
theorem go_mem (m:Region.Mode) (ops:Array Oper):∀ (fuel t:Nat) (listed:Array Bool) (acc:List Nat),Region.linearise.go m ops fuel t listed acc∈MN m ops fuel listed acc
 |0,_,_,_=>by simp[Region.linearise.go,MN]
 | fuel+1,t,listed,acc=>by
  unfold Region.linearise.go MN;generalize ((List.range ops.size).filter fun i=>!listed.getD i true && ((ops[i]?).map (·.after.all fun e=>!Region.binds m e || listed.getD e.on false)).getD false)=rs;dsimp only;cases h:rs[t % rs.length]? with
  | none =>
   have:rs.isEmpty=true:=by
    rw[List.isEmpty_iff];rcases Nat.eq_zero_or_pos rs.length with h0|h0
    ·exact List.length_eq_zero_iff.1 h0
    ·rw[List.getElem?_eq_getElem (Nat.mod_lt t h0)]at h;cases h
   simp[this]
  | some i =>
   have hm:=List.mem_of_getElem? h;have:rs.isEmpty=false:=by
    cases rs with
    |nil=>cases hm
    |cons=>rfl
   simp only[this,Bool.false_eq_true,if_false,List.mem_flatMap];exact⟨i,hm,go_mem m ops fuel _ _ _⟩
def orders (ops:Array Oper):List (List Nat):=MN .any ops ops.size (Array.replicate ops.size false) []
theorem Je (ops:Array Oper) (t:Nat):Region.schedule true ops t∈orders ops:=by
 have:Region.schedule true ops t=Region.linearise.go .any ops ops.size t (Array.replicate ops.size false) []:=by simp[Region.schedule,Region.linearise]
 rw[this];exact go_mem _ _ _ _ _ _
end Go.Ph
namespace Go.Tm
open Go
open Go.Conc
section
variable {P:Program}
theorem uF (hS:ED P fun _=>True) {f:FuncId} {args:Array Value} {R:Ending->World->Prop} (hins:Ins R) (hout:∀ w,¬ R .outgrown w) {w:World} (hw:ay OC w)
  (h:∀ τ d,Calls P f args (w.re τ d) R):kL P f args w R:=by
 intro cs;let Stop:Frame->List Frame->World->Prop:=fun fr mine w=>mine=[]/\∃ e,R e w/\e≠.outgrown/\fr.fn=f/\fr.leaving P w e
 have hterm:Term P (SH f Stop) (Frame.enter P f args .normal) [] w:=by
  refine qU hS ?_ (G8 hS trivial args) hw ?_
  ·rintro fr mine w τ d hw ⟨rfl,e,h1,h2,h3,h4⟩;exact⟨rfl,e,hins _ _ _ _ h1,h2,h3,kD hw h4 τ d⟩
  ·intro τ d;obtain ⟨e,w',fr',h1,h2,h3,h4⟩:=h τ d [floor P];cases e with
   |outgrown=>exact(hout _ h1).elim
   |returned v=>exact⟨fr',[],w',⟨rfl,_,h1,by simp,h3,h4⟩,h2⟩
   |panicked chain=>exact⟨fr',[],w',⟨rfl,_,h1,by simp,h3,h4⟩,h2⟩
 have:=uS (fun fr mine w d h=>by
  obtain⟨⟨rfl,e,h1,h2,h3,h4⟩,h5,h6⟩:=h;exact⟨⟨rfl,e,hins _ _ w.tape d h1,h2,h3,kD h5 h4 w.tape d⟩,h5,h6⟩) hterm cs
 refine this.mono fun a' w' ⟨fr',mine',h1,⟨h2,e,h3,h4,h5,h6⟩,h7,h8⟩=>?_
 subst h2;exact⟨e,fr',h1,h3,h5,h6,h4,h7⟩
section
variable {b:Frame} {a:Act} {k:List Item} {cs:List Frame} {w:World} {Q:Goroutine->World->Prop}
end
end
variable {P:Program}
def fA (P:Program) (tgt:List Item) (S:Act->World->Prop) (todo:List Item) (a:Act) (w:World):Prop :=
 ∀ (b:Frame) (cs:List Frame),b.kind=.normal->∃ a' w',S a' w'/\Steps P (lone (b.at a todo) cs w) (lone (b.at a' tgt) cs w')
section
variable {todo:List Item} {w':World} {x y:Code} {i id:Nat} {o:Oper} {ops:Array Oper} {rest:List Nat}
variable {tgt k:List Item} {S:Act->World->Prop} {a:Act} {w:World}
theorem bG (h:S a w):fA P tgt S tgt a w:=fun _ _ _=>⟨a,w,h,.refl _ _⟩
theorem jd {todo':List Item} {a':Act} (hs:∀ (b:Frame) (cs:List Frame),b.kind=.normal->∃ es,stepG P true (G (b.at a todo) cs) w=.go (G (b.at a' todo') cs) w' es) (h:fA P tgt S todo' a' w'):fA P tgt S todo a w:=by
 intro b cs hb;obtain⟨es,he⟩:=hs b cs hb;obtain⟨a2,w2,h1,h2⟩:=h b cs hb;exact⟨a2,w2,h1,.head (jZ he) h2⟩
theorem au (h:fA P tgt S (.code x::.code y::k) a w):fA P tgt S (.code (.seq x y)::k) a w:=jd (fun _ _ _=>⟨_,stepG_seq⟩) h
theorem jg (h:fA P tgt S (.code x::.inBlock id::k) a w):fA P tgt S (.code (.block id x)::k) a w:=jd (fun _ _ _=>⟨_,stepG_block⟩) h
theorem jE (h:fA P tgt S k a w):fA P tgt S (.inBlock id::k) a w:=jd (fun _ _ _=>⟨_,stepG_inBlock⟩) h
theorem zh (h:fA P tgt S (.code x::.inLoop x::k) a w):fA P tgt S (.code (.loop x)::k) a w:=jd (fun _ _ _=>⟨_,stepG_loop⟩) h
theorem jr (h:fA P tgt S (.code x::.inLoop x::k) a w):fA P tgt S (.inLoop x::k) a w:=jd (fun _ _ _=>⟨_,stepG_inLoop⟩) h
theorem lu (h:fA P tgt S k a w):fA P tgt S (.code .skip::k) a w:=jd (fun _ _ _=>⟨_,stepG_skip⟩) h
theorem dZ {o:Operand} {t:Bool} (hc:a.eval o=.bool t) (h:fA P tgt S (.code (if t then x else y)::k) a w):fA P tgt S (.code (.cond o x y)::k) a w:=jd (fun _ _ _=>⟨_,stepG_cond hc⟩) h
theorem lG {k':List Item} (hk:exitTo id k=some k') (h:fA P tgt S k' a w):fA P tgt S (.code (.exit id)::k) a w:=jd (fun _ _ _=>⟨_,stepG_exit hk⟩) h
theorem ig (h:fA P tgt S (.inRegion ops (List.range ops.size)::k) a w):fA P tgt S (.code (.region id ops false)::k) a w:=jd (fun _ _ _=>⟨_,stepG_region⟩) h
theorem dH (h:fA P tgt S k a w):fA P tgt S (.inRegion ops []::k) a w:=jd (fun _ _ _=>⟨_,stepG_region_end⟩) h
theorem cO {v:Value} (ho:ops[i]? = some o) (hw:Region.wanted o (yielded ops a.tmps)=true) (hr:(execOp a.eval o).run P w=.ok (.value v) w')
 (h:fA P tgt S (.inRegion ops rest::k) (a.put o.dst v) w'):fA P tgt S (.inRegion ops (i::rest)::k) a w :=
 jd (fun _ _ hb=>⟨_,stepG_value ho hw (by simp[Frame.at,hb]) hr⟩) h
theorem Q8 (ho:ops[i]? = some o) (hw:Region.wanted o (yielded ops a.tmps)=true) (hr:(execOp a.eval o).run P w=.ok .skip w')
 (h:fA P tgt S (.inRegion ops rest::k) (a.put o.dst undef) w'):fA P tgt S (.inRegion ops (i::rest)::k) a w :=
 jd (fun _ _ hb=>⟨_,stepG_none ho hw (by simp[Frame.at,hb]) hr⟩) h
theorem aA (h:x.wp P (fun e a' w'=>e=.normal/\fA P tgt S k a' w') a w):fA P tgt S (.code x::k) a w:=by
 intro b cs hb;obtain⟨e,a1,w1,⟨rfl,hR⟩,harr⟩:=h b k cs;obtain⟨a',w',hs,hst⟩:=hR b cs hb;exact⟨a',w',hs,Steps.trans harr hst⟩
theorem rZ {f:FuncId} {args:Array Value} (ho:ops[i]? = some o) (hw:Region.wanted o (yielded ops a.tmps)=true) (hr:(execOp a.eval o).run P w=.ok (.enter f args) w')
 (h:Calls P f args w' fun e w''=>∃ v,e=.returned v/\fA P tgt S (.inRegion ops rest::k) (a.put o.dst v) w''):fA P tgt S (.inRegion ops (i::rest)::k) a w:=by
 intro b cs hb;obtain⟨e,w2,fr,⟨v,rfl,hR⟩,hst,hfn,hm,hd,hk,fn,hf,hrs⟩:=h (b.at a (.inRegion ops (i::rest)::k)::cs);obtain⟨a',w3,hs,hst2⟩:=hR b cs hb;refine⟨a',w3,hs,.head (jZ (stepG_enter ho hw (by simp[hb]) hr)) (Steps.trans hst (.head (jZ (es:=seen P fr.fn ((results fn fr.tmps).events P w2 #[])) ?_) hst2))⟩;have hu:stepG P true (G fr (b.at a (.inRegion ops (i::rest)::k)::cs)) w2=unwind P true fr (b.at a (.inRegion ops (i::rest)::k)::cs) none w2:=by simp only[stepG,G,hm]
 have hfin:(b.at a (.inRegion ops (i::rest)::k)).finish v=b.at (a.put o.dst v) (.inRegion ops rest::k):=by rw[Frame.finish_at,ho];rfl
 rw[hu];simp only[unwind,hd,hm,hf,Sem.runT_eq,hrs,doReturn,hk,GStep.after,Array.append_empty,G,hfin]
theorem fA.mono {S':Act->World->Prop} (h:fA P tgt S todo a w) (hs:∀ a w,S a w->S' a w):fA P tgt S' todo a w:=fun b cs hb=>by
 obtain⟨a',w',h1,h2⟩:=h b cs hb;exact⟨a',w',hs _ _ h1,h2⟩
end
theorem yE (hS:ED P fun _=>True) {f0:FuncId} {b:Frame} {a:Act} {todo tgt:List Item} {cs:List Frame} {w:World} {Q:Goroutine->World->Prop} (hst:uw f0 (b.at a todo) []) (hw:ay OC w)
  {S:Act->World->Prop} (hS':∀ a w τ d,S a w->S a (w.re τ d)) (hrun:∀ τ d,fA P tgt S todo a (w.re τ d))
  (hk:∀ a' w',S a' w'->ay OC w'->qh (b.at a' tgt)->kU P (G (b.at a' tgt) cs) w' Q):kU P (G (b.at a todo) cs) w Q:=by
 let Stop:Frame->List Frame->World->Prop:=fun fr mine w=>mine=[]/\∃ a',fr=b.at a' tgt/\S a' w
 have hterm:Term P (SH f0 Stop) (b.at a todo) [] w:=by
  refine qU hS ?_ hst hw ?_
  ·rintro fr mine w τ d hw ⟨rfl,a',h1,h2⟩;exact⟨rfl,a',h1,hS' _ _ _ _ h2⟩
  ·intro τ d;obtain⟨a',w',h1,h2⟩:=hrun τ d b [floor P] hst.2.2.1;exact⟨_,[],w',⟨rfl,a',rfl,h1⟩,h2⟩
 have hB:=uS (fun fr mine w d h=>by
  obtain⟨⟨rfl,a',h1,h2⟩,h5,h6⟩:=h;exact⟨⟨rfl,a',h1,hS' _ _ w.tape d h2⟩,h5,h6⟩) hterm cs
 refine hB.bind fun a1 w1 ⟨fr',mine',h1,⟨h2,a',h3,h4⟩,h5,h6⟩=>?_
 subst h2;subst h1;subst h3;exact hk a' w1 h4 h5 h6.ok
end Go.Tm
namespace Go.Ph
open Go
open Go.Tm
open Go.Sr
open Go.Conc
inductive Fix (DD:List Nat):Value->Prop
 |flat {v:Value}:Sr.flat v=true->Fix DD v
 |ptr {a:Addr}:a.block∈DD->Fix DD (.pointer (some a))
 |slice {a:Addr} {l c:Nat}:a.block∈DD->Fix DD (.slice (some a) l c)
 |chan {r:Nat}:r∈DD->Fix DD (.chan (some r))
 |agg {c:Array Value}:(∀ v∈c,Sr.flat v=true)->Fix DD (.agg c)
section
variable {v:Value} {N:Nat} {D:Nat->Prop} {wa wl:World} {c:Array Value}
variable {P:Program} {DD DD':List Nat} {R:BR}
theorem ML [bT] {u u':Value} (hu:Sr.flat u=true) (h:qV R u u'):u'=u:=by
 cases h with
 |base h =>
  cases h with
  |flat _=>rfl
  |ptr _=>cases hu
  |slice _=>cases hu
  |chan _=>cases hu
 |func _ _ _ _ _=>cases hu
theorem Uk [bT] (hR:∀ b∈DD,∀ b',R b b'->b'=b) {v':Value} (h:Fix DD v) (hv:VR R v v'):v'=v:=by
 cases h with
 |flat hf =>
  cases hv with
  |base h1=>exact ML hf h1
  |agg _ _=>cases hf
 | ptr hb =>
  cases hv with
  | base h1 =>
   cases h1 with
   | base h0 =>
    cases h0 with
    |flat h=>cases h
    |ptr h =>
     obtain⟨e1,e2,e3⟩:=h;have:=hR _ hb _ e1;rename_i a a';cases a;cases a'
     simp_all
 | slice hb =>
  cases hv with
  | base h1 =>
   cases h1 with
   | base h0 =>
    cases h0 with
    |flat h=>cases h
    |slice h =>
     obtain⟨e1,e2,e3⟩:=h;have:=hR _ hb _ e1;rename_i a _ _ a';cases a;cases a'
     simp_all
 | chan hb =>
  cases hv with
  | base h1 =>
   cases h1 with
   |base h0 =>
    cases h0 with
    |flat h=>cases h
    |chan h=>rw[hR _ hb _ h]
 | agg hc =>
  cases hv with
  | base h1 =>
   cases h1 with
   |base h0 =>
    cases h0 with
    |flat h=>cases h
  |agg hsz h =>
   congr 1;apply Array.ext hsz;intro i h1 h2;exact ML (hc _ (Array.getElem_mem h2)) (h i _ _ (Array.getElem?_eq_getElem h2) (Array.getElem?_eq_getElem h1))
theorem bJ [bT] (h:Fix DD v):VR (iq DD) v v:=by
 cases h with
 |flat hf=>exact .of_flat hf
 |ptr hb=>exact .base (.base (.ptr ⟨⟨rfl,hb⟩,rfl,rfl⟩))
 |slice hb=>exact .base (.base (.slice ⟨⟨rfl,hb⟩,rfl,rfl⟩))
 |chan hb=>exact .base (.base (.chan ⟨rfl,hb⟩))
 |agg hc=>exact .Kr ⟨rfl,fun i v hv=>⟨v,hv,.base (.flat (hc v (Array.mem_of_getElem? hv)))⟩⟩
theorem Fix.mono (h:∀ b∈DD,b∈DD') (x:Fix DD v):Fix DD' v:=by
 cases x with
 |flat hf=>exact .flat hf
 |ptr hb=>exact .ptr (h _ hb)
 |slice hb=>exact .slice (h _ hb)
 |chan hb=>exact .chan (h _ hb)
 |agg hc=>exact .agg hc
theorem aag [bT] (hR:∀ b∈DD,∀ b',R b b'->b'=b) {t t':Array Value} (h:AF (VR R) t t') {j:Nat} (hj:t[j]? = some v) (hv:Fix DD v):t'[j]? = some v:=by
 obtain⟨v',h1,h2⟩:=h.2 j v hj;rw[Uk hR hv h2]at h1;exact h1
theorem sQ [bT] (hw:WR N R D wl wa) (hle:le (iq DD) R):∀ b∈DD,∀ b',R b b'->b'=b:=fun b hb b' h=>hw.fn b b' b h (hle _ _ ⟨rfl,hb⟩)
theorem WM [bT] {b:Frame} {a:Act} {todo:List Item} (hd:a.defers=[]) (hs:∀ v∈a.tmps,VR (iq DD) v v) (hi:∀ x∈todo,jB P x) (hk:b.kind=.normal) (hr:∀ fn,P.funcs[b.fn]? = some fn->fn.results.size<=1):FQ P (iq DD) (b.at a todo) (b.at a todo) :=
 ⟨rfl,⟨rfl,fun i v hv=>⟨v,hv,hs v (Array.mem_of_getElem? hv)⟩⟩,rfl,hi,hd,hd,rfl,.inl rfl,.inl hk,.inl hk,rfl,rfl,hr⟩
theorem wP [bT] (hw:WR N R D wl wa) {b b':Nat} (h:R b b') (hD:¬ D b) {t:TypeId} {f:Nat × Nat} (hb:wl.heap[b]? = some (.cells c t f)) :
  ∃ c',wa.heap[b']? = some (.cells c' t (0,0))/\AF (qV R) c c':=by
 obtain⟨o,o',h1,h2,h3⟩:=hw.obj b b' h;rw[hb]at h1;cases h1;rcases h3 with⟨c1,c',e,f1,f',e1,rfl,h4,_,h5⟩|⟨a,a',l,e1,_⟩|⟨h4,_⟩
 ·cases e1;obtain⟨_,rfl⟩:=h5 hD;exact⟨c',h2,h4⟩
 ·cases e1
 ·exact(hD h4).elim
theorem CX [bT] (hR:∀ b∈DD,∀ b',R b b'->b'=b) {c':Array Value} (h:AF (qV R) c c') (hc:∀ v∈c,Fix DD v):c'=c:=by
 apply Array.ext h.1;intro i h1 h2;exact Uk hR (hc _ (Array.getElem_mem h2)) (.base (h.raw i _ _ (Array.getElem?_eq_getElem h2) (Array.getElem?_eq_getElem h1)))
end
end Go.Ph
namespace Go.Proofs.YtjjmefieegcddaaDoor
open Go.RowKit Go.Wg Go.Mm Go.Wk
open Go Go.Sr Go.Ph Go.Tm Go.Conc
variable {k tgt:List Item} {o:Oper} {x y:Operand} {S:Act->World->Prop} {a:Act} {w0:World} {X rest:List Nat} {L:List dF} {ops:Array Oper} {b i i' j:Nat} {t ty:TypeId} {cs:List Value}
variable {w:World} {V:View}
noncomputable def B97:Code:=match Tryd.f97.body with|some c=>c|none=>.skip
noncomputable def L1:Code:=match Tryd.f97.body with|some (.seq _ (.seq _ (.seq _ (.seq (.seq _ (.block _ (.loop l))) _))))=>l|_=>.skip
noncomputable def K8:Code:=match Tryd.f97.body with|some (.seq _ (.seq _ (.seq _ (.seq _ r))))=>r|_=>.skip
def iU (p:Nat) (s:SS) (st:Bool) (b4 b5 b6 b7 c:Nat) (sl:Value) (n i:Nat) (x10 x18 x19 x20 x21 x22:Value):Array Value :=
 #[ptr p,.agg (dJ s).toArray,.bool st,undef,ptr b4,ptr b5,ptr b6,ptr b7,sl,undef,x10,undef,.chan (some c),ptr p,sl,sl,.int .i64 n,.int .i64 i,x18,x19,x20,x21,x22,undef,undef,undef,undef,undef,undef,undef,undef,undef,undef]
structure ZA (V:View) (w0:World) (p:Nat) (k:Wk) (ts:List Nat) (s:SS) (st:Bool) (b4 b5 b6 b7 c:Nat) (sl:Value) (w:World):Prop where
 kp:Kp w0 w
 h4:w.heap[b4]? = some (.cells (dJ s).toArray 100 (0,0))
 h5:w.heap[b5]? = some (.cells #[.bool st] 4 (0,0))
 h6:w.heap[b6]? = some (.cells #[.int .i64 0,.int .i64 0] 27 (0,0))
 h7:w.heap[b7]? = some (.cells #[.chan (some c)] 165 (0,0))
 hc:w.heap[c]? = some (.chan 0 #[] false 0 0 false)
 row:(dF.row sl 124 1 k.sources.length (k.sources.map fun x=>ptr (ts.getD x 0))).Holds w
 new:∀ b,sl.ownBlock=some b->w0.heap.size<=b
 n4:w0.heap.size<=b4
 n5:w0.heap.size<=b5
 n6:w0.heap.size<=b6
 n7:w0.heap.size<=b7
 nc:w0.heap.size<=c
 n64:b6≠b4/\b6≠b5/\b6≠b7/\sl.ownBlock≠some b6
theorem vY {k:Wk} (hok:k.Ok):0<k.sources.length:=by
 have h0:=(hok.ves 0 hok.pos).2.1;exact List.length_pos_of_mem (a:=0) (List.mem_filter.2 ⟨List.mem_range.2 hok.pos,by simp;omega⟩)
theorem VW (w:World):(Instr.makeChan 165 (.int .i64 0)).run Tryd.prog w=.ok (.chan (some w.heap.size)) (w.alloc (.chan 0 #[] false 0 0 false)):=by
 have hi:(Tryd.prog.info? 27).map (·.bytes)=some 16:=by kernel_rfl
 cases hq:Tryd.prog.info? 27 with
 |none=>rw[hq]at hi;cases hi
 |some i =>
  rw[hq]at hi;have hb:i.bytes=16:=by simpa using hi
  exact run_makeChan (P:=Tryd.prog) (t:=165) Tryd.underlying165 hq .i64 0 zw (by rw[hb];decide)
theorem PG {ρ:Operand->Value} (ho:o.op=.makeChan 165 x) (hx:ρ x=.int .i64 0) (w:World):(execOp ρ o).run Tryd.prog w=.ok (.value (.chan (some w.heap.size))) (w.alloc (.chan 0 #[] false 0 0 false)):=by
 unfold execOp;simp[ho,hx,VW]
theorem D6 {w:World} (hS:St w0 X V L w) (ho:ops[i]? = some o) (hw:Region.wanted o (yielded ops a.tmps)=true)
 (hop:o.op=.store ty x y) (hj:L[j]? = some (.blk b t cs)) (hx:a.eval x=.pointer (some ⟨b,i',none⟩)) {v:Value} (hy:a.eval y=v) (hv:v.oneCell'=true) (hty:uK Tryd.prog ty=true) (hl:i' < cs.length)
  (h:∀ w',St w0 X V (L.set j (.blk b t (cs.set i' v))) w'->fA Tryd.prog tgt S (.inRegion ops rest::k) (a.put o.dst undef) w'):fA Tryd.prog tgt S (.inRegion ops (i::rest)::k) a w:=by
 obtain⟨w',hr,hS'⟩:=ak0 (P:=Tryd.prog) hS hop hj hx hy hv hty hl rfl;exact Q8 ho hw hr (h w' hS')
theorem LX (p:Nat) (k:Wk) (ts:List Nat) (vv rv:Value) (hC:zO V p k ts vv rv) (hok:k.Ok) (s:SS) (hs:s.WF) (st:Bool) (w:World) (hV:V.In w) :
  fA Tryd.prog [.code (.block 0 (.loop L1)),.code K8] (fun a w'=>∃ b4 b5 b6 b7 c sl,a=⟨iU p s st b4 b5 b6 b7 c sl k.sources.length 0 undef undef undef undef undef undef,[]⟩/\ZA V w p k ts s st b4 b5 b6 b7 c sl w')
   [.code B97] {tmps:=#[ptr p,.agg (dJ s).toArray,.bool st] ++ Array.replicate 30 undef,defers:=[]} w:=by
 have HL:(dJ s).length=18:=dG hs;have hS:=St.start w V hV;have hmk:=VW;simp only[Array.replicate_succ,Array.replicate_zero,List.push_toArray,List.append_toArray,List.nil_append,List.cons_append];unfold ptr;refine au (aA ?_);go_wp2_with (first|(refine yb 4 ?_;clear hS;intro b4 w' hS)|(refine yb 5 ?_;clear hS;intro b5 w' hS)|(refine ya 6 ?_;clear hS;intro b6 w' hS))
 refine au (ig ?_);have g4:w'.heap[b4]? = some (.cells (dJ s).toArray 100 (0,0)):=hS.dR;have g5:w'.heap[b5]? = some (.cells #[.bool st] 4 (0,0)):=hS.dR;have g6:w'.heap[b6]? = some (.cells #[.int .i64 0,.int .i64 0] 27 (0,0)):=hS.dR;have l4:w.heap.size<=b4:=(hS.new (.blk b4 100 (dJ s)) (by simp) b4 rfl).elim id (fun h=>nomatch h);have l5:w.heap.size<=b5:=(hS.new (.blk b5 4 [.bool st]) (by simp) b5 rfl).elim id (fun h=>nomatch h);have l6:w.heap.size<=b6:=(hS.new (.blk b6 27 [.int .i64 0,.int .i64 0]) (by simp) b6 rfl).elim id (fun h=>nomatch h);have n64:b6≠b4:=by
  rintro rfl;rw[g4]at g6;simp only[Option.some.injEq,Obj.cells.injEq]at g6;exact absurd g6.2.1 (by decide)
 have n65:b6≠b5:=by
  rintro rfl;rw[g5]at g6;simp only[Option.some.injEq,Obj.cells.injEq]at g6;exact absurd g6.2.1 (by decide)
 refine cO (i:=0) rfl rfl (PG rfl rfl w') ?_;simp only[fr];have hk1:Kp w' (w'.alloc (.chan 0 #[] false 0 0 false)):=⟨rfl,rfl,by show _<=(w'.heap.push _).size;simp,fun k hk=>heap_alloc_old w' _ hk⟩;have hc1:(w'.alloc (.chan 0 #[] false 0 0 false)).heap[w'.heap.size]? = some (.chan 0 #[] false 0 0 false):=heap_alloc_new w' _;have lt:∀ {b:Nat} {o:Obj},w'.heap[b]? = some o->b<w'.heap.size:=fun h=>lt_of_heap h
 have g41:=(hk1.old _ (lt g4)).trans g4;have g51:=(hk1.old _ (lt g5)).trans g5;have g61:=(hk1.old _ (lt g6)).trans g6;have lc:w.heap.size<=w'.heap.size:=hS.size;have hkp0:=(hS.bM).trans hk1;have hin:=(hS.kp hk1).view;clear hS lt hk1;generalize w'.alloc (.chan 0 #[] false 0 0 false)=w1 at *;generalize w'.heap.size=c at *;clear g4 g5 g6;have hS:=St.start w1 V hin;refine cO (i:=1) rfl rfl (Aq (P:=Tryd.prog) hS (cs:=[.chan none]) rfl zk zk).1 ?_;replace hS:=hS.alloc 165 [.chan none];generalize w1.alloc (.cells [Value.chan none].toArray 165)=w2 at *;generalize w1.heap.size=b7 at *;refine D6 hS (i:=2) (v:=.chan (some c)) rfl rfl rfl (j:=0) rfl rfl rfl rfl zk (by decide) ?_;clear hS;intro w3 hS;simp only[List.set_cons_zero]at hS;refine dH (au (aA ?_));go_wp2_with (go_at_call 93;refine(Fq _ p k ts vv rv hC _ (St.view hS)).mono ?_;rintro _ w4 ⟨sl,rfl,hkp,hrow,hnew⟩)
 have hpos:=vY hok;have hle:k.sources.length<=6:=Nat.le_trans (sD k k.n) hC.le;have hsz3:=hS.size;replace hS:=hS.kp hkp;obtain⟨g,cap,cur,rfl,hc2,hc3,hcur,hget⟩:=oz hrow.1 hpos;generalize hn:k.sources.length=n at *;refine au (au (aA ?_));go_wp2_with (fail)
 refine bG ⟨b4,b5,b6,b7,c,_,rfl,?_⟩;have hK:=hS.bM;have hsz0:=hkp0.size;have l6':=lt_of_heap g61;have n7:w1.heap.size<=b7:=(hS.new (.blk b7 165 [.chan (some c)]) (by simp) b7 rfl).elim id (fun h=>nomatch h);have hg3:=hnew g rfl;exact⟨hkp0.trans hK,(hK.old _ (lt_of_heap g41)).trans g41,(hK.old _ (lt_of_heap g51)).trans g51,(hK.old _ l6').trans g61,hS.dR,(hK.old _ (lt_of_heap hc1)).trans hc1,hn ▸ hrow,fun b hb=>by have:=hnew b hb;omega,l4,l5,l6,by omega,lc,
  n64,n65,by omega,fun h=>by have:g=b6:=by simpa [Value.ownBlock] using h
                             omega⟩
noncomputable def ops6:Array Oper:=match L1 with | .seq _ (.seq _ (.seq (.block _ (.seq _ (.region _ o _))) _))=>o|_=>#[]
noncomputable def R7:Code:=match L1 with | .seq _ (.seq _ (.seq _ r))=>r|_=>.skip
noncomputable def L2:Code:=match K8 with | .seq _ (.seq (.seq _ (.block _ (.loop l))) _)=>l|_=>.skip
noncomputable def K13:Code:=match K8 with | .seq _ (.seq _ r)=>r|_=>.skip
noncomputable def R11:Code:=match L2 with | .seq _ (.seq _ (.seq (.block _ r) _))=>r|_=>.skip
noncomputable def KC:Array Oper:=match R11 with | .region _ o _=>o|_=>#[]
noncomputable def R12:Code:=match L2 with | .seq _ (.seq _ (.seq _ r))=>r|_=>.skip
noncomputable def yP:List Item:=[.code L1,.inLoop L1,.inBlock 0,.code K8]
noncomputable def TA (l:List Nat):List Item:=[.inRegion ops6 l,.inBlock 1,.code R7,.inLoop L1,.inBlock 0,.code K8]
noncomputable def head2:List Item:=[.code L2,.inLoop L2,.inBlock 2,.code K13]
noncomputable def ZY:List Item:=[.code R11,.inBlock 3,.code R12,.inLoop L2,.inBlock 2,.code K13]
noncomputable def Au (l:List Nat):List Item:=[.inRegion KC l,.inBlock 3,.code R12,.inLoop L2,.inBlock 2,.code K13]
theorem Vj:orders KC=[[0,1,2,3,4],[1,0,2,3,4],[1,2,0,3,4]]:=by kernel_rfl
theorem abo (p:Nat) (s:SS) (st:Bool) (b4 b5 b6 b7 c g cap n i t:Nat) (x10 x18 x19 x20 x21 x22:Value) (hi:i<n) (hn:n<=6) (hg:V.Cell g i (ptr t)) (w:World) (hV:V.In w) :
  fA Tryd.prog (TA [1]) (fun a w'=>∃ b10,a=⟨iU p s st b4 b5 b6 b7 c (.slice (some ⟨g,0,none⟩) n cap) n i (ptr b10) (.bool true) (.pointer (some ⟨g,i,none⟩)) (ptr t) (.func (.func 123) #[] #[ptr b10,ptr b4,ptr b5,ptr b7]) x22,[]⟩/\St w [] V [.blk b10 124 [ptr t]] w')
   yP ⟨iU p s st b4 b5 b6 b7 c (.slice (some ⟨g,0,none⟩) n cap) n i x10 x18 x19 x20 x21 x22,[]⟩ w:=by
 have hS:=St.start w V hV;have h0:(0:Int)<=i:=by omega
 have h1:(i:Int)<n:=by omega
 unfold iU ptr at *;generalize (dJ s).toArray=stv;refine au (aA ?_);go_wp2_with (fail)
 refine au (aA ?_);go_wp2_with (fail)
 refine au (jg (au (aA ?_)));go_wp2_with (first|(refine ym ?_;clear hS;intro w' hS)|(refine ys ?_;clear hS;intro w' hS)|(refine ya 10 ?_;clear hS;intro b10 w' hS))
 refine ig (cO (i:=0) rfl rfl (v:=.func (.func 123) #[] #[.pointer (some ⟨b10,0,none⟩),.pointer (some ⟨b4,0,none⟩),.pointer (some ⟨b5,0,none⟩),.pointer (some ⟨b7,0,none⟩)]) (w':=w') (by unfold execOp;simp[Act.eval,Instr.makeFunc,go_sem]) ?_);exact bG ⟨b10,rfl,hS⟩
theorem abm (p:Nat) (s:SS) (st:Bool) (b4 b5 b6 b7 c n i:Nat) (sl x10 x18 x19 x20 x21 x22:Value) (hi:i<n) (hn:n<=6) (w:World) (hV:V.In w) :
  fA Tryd.prog yP (fun a w'=>a=⟨iU p s st b4 b5 b6 b7 c sl n (i+1) x10 x18 x19 x20 x21 (.int .i64 ((i+1:Nat):Int)),[]⟩/\St w [] V [] w')
   (TA []) ⟨iU p s st b4 b5 b6 b7 c sl n i x10 x18 x19 x20 x21 x22,[]⟩ w:=by
 have hS:=St.start w V hV;have e1:((i+1:Nat):Int)=(i:Int)+1:=by omega
 rw[show iU p s st b4 b5 b6 b7 c sl n (i+1) x10 x18 x19 x20 x21 (.int .i64 ((i+1:Nat):Int))=_ from by unfold iU;rw[e1]];unfold iU ptr at *
 generalize (dJ s).toArray=stv;refine dH (jE (aA ?_));conv=>enter [2];whnf
 go_wp2_with (fail)
 refine jr ?_;exact bG (tgt:=yP) ⟨rfl,hS⟩
def wE (p:Nat) (s:SS) (st:Bool) (b4 b5 b6 b7 c bo:Nat) (sl:Value) (n i j:Nat) (x10 x18 x19 x20 x21 x22 x26 x27 x28 x29 x30 x31:Value):Array Value :=
 #[ptr p,.agg (dJ s).toArray,.bool st,undef,ptr b4,ptr b5,ptr b6,ptr b7,sl,undef,x10,ptr bo,.chan (some c),ptr p,sl,sl,.int .i64 n,.int .i64 i,x18,x19,x20,x21,x22,sl,.int .i64 n,.int .i64 j,x26,x27,x28,x29,x30,x31,undef]
theorem abw (p:Nat) (s:SS) (st:Bool) (b4 b5 b6 b7 c g cap n:Nat) (x10 x18 x19 x20 x21 x22:Value) (hn:n<=6) (w:World) (hV:V.In w) :
  fA Tryd.prog head2 (fun a w'=>∃ bo,a=⟨wE p s st b4 b5 b6 b7 c bo (.slice (some ⟨g,0,none⟩) n cap) n n 0 x10 (.bool false) x19 x20 x21 x22 undef undef undef undef undef undef,[]⟩/\St w [] V [.blk bo 27 [.int .i64 0,.int .i64 0]] w')
   yP ⟨iU p s st b4 b5 b6 b7 c (.slice (some ⟨g,0,none⟩) n cap) n n x10 x18 x19 x20 x21 x22,[]⟩ w:=by
 have hS:=St.start w V hV;unfold iU wE ptr at *
 generalize (dJ s).toArray=stv;refine au (aA ?_);go_wp2_with (fail)
 refine au (dZ (t:=false) rfl (lG rfl ?_));refine au (aA ?_);go_wp2_with (refine ya 11 ?_;clear hS;intro b11 w' hS)
 refine au (au (aA ?_));go_wp2_with (fail)
 refine jg (zh ?_);exact bG (tgt:=head2) ⟨b11,rfl,hS⟩
theorem abx (p:Nat) (s:SS) (st:Bool) (b4 b5 b6 b7 c bo n i j:Nat) (sl x10 x18 x19 x20 x21 x22 x26 x27 x28 x29 x30 x31:Value) (hj:j<n) (hn:n<=6) (w:World) (hV:V.In w) :
  fA Tryd.prog ZY (fun a w'=>a=⟨wE p s st b4 b5 b6 b7 c bo sl n i j x10 x18 x19 x20 x21 x22 (.bool true) x27 x28 x29 x30 x31,[]⟩/\St w [] V [] w')
   head2 ⟨wE p s st b4 b5 b6 b7 c bo sl n i j x10 x18 x19 x20 x21 x22 x26 x27 x28 x29 x30 x31,[]⟩ w:=by
 have hS:=St.start w V hV;have h0:(0:Int)<=j:=by omega
 have h1:(j:Int)<n:=by omega
 unfold wE ptr at *;generalize (dJ s).toArray=stv;refine au (aA ?_);go_wp2_with (fail)
 refine au (aA ?_);go_wp2_with (fail)
 refine au (jg ?_);exact bG (tgt:=ZY) ⟨rfl,hS⟩
theorem xK {w:World} (hS:St w0 X V L w) (ho:ops[i]? = some o) (hw:Region.wanted o (yielded ops a.tmps)=true)
 (hop:o.op=.store ty x y) {n:Nat} {vs:List Value} (hj:L[j]? = some (.blk b t cs)) (hx:a.eval x=.pointer (some ⟨b,i',none⟩)) (hy:a.eval y=.agg vs.toArray) (hv:∀ v∈vs,v.oneCell'=true) (hty:rowB Tryd.prog ty n=true) (hn:vs.length=n) (hl:i'+n<=cs.length)
  (h:∀ w',St w0 X V (L.set j (.blk b t (splice cs i' vs))) w'->fA Tryd.prog tgt S (.inRegion ops rest::k) (a.put o.dst undef) w'):fA Tryd.prog tgt S (.inRegion ops (i::rest)::k) a w:=by
 obtain⟨w',hr,hS'⟩:=xJ (P:=Tryd.prog) hS hop hj hx hy hv hty hn hl rfl;exact Q8 ho hw hr (h w' hS')
theorem St.Zj {w:World} {V:View} (hV:V.In w) (hb:w.heap[b]? = some (.cells cs.toArray t (0,0))) (hn:V b=none):St w [b] V [.blk b t cs] w :=
 ⟨rfl,rfl,Nat.le_refl _,fun _ _ _=>rfl,hV,fun e he=>by
  simp only[List.mem_singleton]at he;subst he;exact hb,fun e he b' hb'=>by
  simp only[List.mem_singleton]at he;subst he;cases hb';exact .inr (by simp),fun e he b' hb'=>by
  simp only[List.mem_singleton]at he;subst he;cases hb';exact hn,by simp[dF.foot]⟩
def l5 (l:List Nat):List Nat:=if l=[1,2,0,3,4] then[0,3,4] else[3,4]
def x5 (l:List Nat) (acc:Int × Int) (x:Value):Value:=if l=[1,2,0,3,4] then x else aJ acc
theorem abu (p:Nat) (s:SS) (st:Bool) (b4 b5 b6 b7 c bo n i j:Nat) (acc:Int × Int) (sl x10 x18 x19 x20 x21 x22 x26 x27 x28 x29 x30 x31:Value) (l:List Nat) (hl:l=[0,1,2,3,4]\/l=[1,0,2,3,4]\/l=[1,2,0,3,4])
 (h7:V.Cell b7 0 (.chan (some c))) (ho:w.rangeAt bo 0 [.int .i64 acc.1,.int .i64 acc.2]) (hV:V.In w) :
  fA Tryd.prog (Au (2::l5 l)) (fun a w'=>a=⟨wE p s st b4 b5 b6 b7 c bo sl n i j x10 x18 x19 x20 x21 x22 x26 (x5 l acc x27) (.chan (some c)) x29 x30 x31,[]⟩/\w'=w)
   (Au l) ⟨wE p s st b4 b5 b6 b7 c bo sl n i j x10 x18 x19 x20 x21 x22 x26 x27 x28 x29 x30 x31,[]⟩ w:=by
 have hc7:=h7.cell hV;rcases hl with rfl|rfl|rfl
 ·rw[show l5 [0,1,2,3,4]=[3,4]from rfl,show x5 [0,1,2,3,4] acc x27=aJ acc from rfl];unfold wE ptr;refine cO (i:=0) rfl rfl (iy (n:=2) rfl rfl jS.ok rfl ho) ?_;refine cO (i:=1) rfl rfl (fP rfl rfl iR.ok hc7) ?_;exact bG (tgt:=Au [2,3,4]) ⟨rfl,rfl⟩
 ·rw[show l5 [1,0,2,3,4]=[3,4]from rfl,show x5 [1,0,2,3,4] acc x27=aJ acc from rfl];unfold wE ptr;refine cO (i:=1) rfl rfl (fP rfl rfl iR.ok hc7) ?_;refine cO (i:=0) rfl rfl (iy (n:=2) rfl rfl jS.ok rfl ho) ?_;exact bG (tgt:=Au [2,3,4]) ⟨rfl,rfl⟩
 ·rw[show l5 [1,2,0,3,4]=[0,3,4]from rfl,show x5 [1,2,0,3,4] acc x27=x27 from rfl];unfold wE ptr;refine cO (i:=1) rfl rfl (fP rfl rfl iR.ok hc7) ?_;exact bG (tgt:=Au [2,0,3,4]) ⟨rfl,rfl⟩
theorem abp (p:Nat) (s:SS) (st:Bool) (b4 b5 b6 b7 c bo n i j:Nat) (acc r:Int × Int) (sl x10 x18 x19 x20 x21 x22 x26 x28 x30 x31:Value) (hj:j<n) (hn:n<=6) (hb:Pb 100000000000 acc) (hr:Pb 100000000000 r)
 (hob:w.heap[bo]? = some (.cells #[.int .i64 acc.1,.int .i64 acc.2] 27 (0,0))) (hVo:V bo=none) (hV:V.In w) :
  fA Tryd.prog head2 (fun a w'=>a=⟨wE p s st b4 b5 b6 b7 c bo sl n i (j+1) x10 x18 x19 x20 x21 x22 x26 (aJ acc) x28 (aJ r) (aJ (dX acc r)) (.int .i64 ((j+1:Nat):Int)),[]⟩/\St w [bo] V [.blk bo 27 [.int .i64 (dX acc r).1,.int .i64 (dX acc r).2]] w')
   (Au [3,4]) ⟨wE p s st b4 b5 b6 b7 c bo sl n i j x10 x18 x19 x20 x21 x22 x26 (aJ acc) x28 (aJ r) x30 x31,[]⟩ w:=by
 have hS:St w [bo] V [.blk bo 27 [.int .i64 acc.1,.int .i64 acc.2]] w:=St.Zj hV hob hVo;have h0:(0:Int)<=j:=by omega
 have e1:((j+1:Nat):Int)=(j:Int)+1:=by omega
 unfold wE;rw[e1];refine rZ (i:=3) rfl rfl (run_call_body rfl Tryd.func127 zk rfl) ?_;simp only[List.map_toArray,List.map_cons,List.map_nil];show Calls Tryd.prog 127 #[aJ acc,aJ r] w _;refine(both_ok acc r (by unfold Pb at *;omega) (by unfold Pb at *;omega) (by unfold Pb at *;omega) (by unfold Pb at *;omega) w).mono ?_;rintro e w' ⟨rfl,hk⟩;refine⟨_,rfl,?_⟩;replace hS:=hS.kp hk;refine xK hS (i:=4) (vs:=[.int .i64 (dX acc r).1,.int .i64 (dX acc r).2]) rfl rfl rfl (j:=0) (i':=0) (n:=2) rfl rfl rfl (by simp[Value.oneCell']) zk rfl (by simp) ?_;clear hS hk hob hVo hV;intro w'' hS;simp only[List.set_cons_zero,splice]at hS;show fA Tryd.prog head2 _ _ ⟨wE p s st b4 b5 b6 b7 c bo sl n i j x10 x18 x19 x20 x21 x22 x26 (aJ acc) x28 (aJ r) (aJ (dX acc r)) x31,[]⟩ _;simp only[wE,aJ,ptr,List.take,List.drop,List.nil_append,List.cons_append,List.length_cons,List.length_nil,List.append_nil,Nat.reduceAdd,Nat.zero_add]at hS |-;generalize (dJ s).toArray=stv;generalize (dX acc r)=br at *;refine dH (jE (aA ?_));conv=>enter [2];whnf
 go_wp2_with (fail)
 refine jr ?_;exact bG (tgt:=head2) ⟨rfl,hS⟩
theorem aaQ (p:Nat) (s:SS) (st:Bool) (b4 b5 b6 b7 c bo n i j:Nat) (acc r:Int × Int) (sl x10 x18 x19 x20 x21 x22 x26 x27 x28 x30 x31:Value) (hj:j<n) (hn:n<=6) (hb:Pb 100000000000 acc) (hr:Pb 100000000000 r)
 (hob:w.heap[bo]? = some (.cells #[.int .i64 acc.1,.int .i64 acc.2] 27 (0,0))) (hVo:V bo=none) (hV:V.In w) (l:List Nat) (hl:(l=[3,4]/\x27=aJ acc)\/l=[0,3,4]) :
  fA Tryd.prog head2 (fun a w'=>a=⟨wE p s st b4 b5 b6 b7 c bo sl n i (j+1) x10 x18 x19 x20 x21 x22 x26 (aJ acc) x28 (aJ r) (aJ (dX acc r)) (.int .i64 ((j+1:Nat):Int)),[]⟩/\St w [bo] V [.blk bo 27 [.int .i64 (dX acc r).1,.int .i64 (dX acc r).2]] w')
   (Au l) ⟨wE p s st b4 b5 b6 b7 c bo sl n i j x10 x18 x19 x20 x21 x22 x26 x27 x28 (aJ r) x30 x31,[]⟩ w:=by
 have h6:=abp p s st b4 b5 b6 b7 c bo n i j acc r sl x10 x18 x19 x20 x21 x22 x26 x28 x30 x31 hj hn hb hr hob hVo hV;rcases hl with⟨rfl,rfl⟩|rfl
 ·exact h6
 ·have hr5:w.rangeAt bo 0 [.int .i64 acc.1,.int .i64 acc.2]:=lK (cs:=[.int .i64 acc.1,.int .i64 acc.2]) (n:=2) hob rfl;have e:wE p s st b4 b5 b6 b7 c bo sl n i j x10 x18 x19 x20 x21 x22 x26 (aJ acc) x28 (aJ r) x30 x31=(Act.put ⟨wE p s st b4 b5 b6 b7 c bo sl n i j x10 x18 x19 x20 x21 x22 x26 x27 x28 (aJ r) x30 x31,[]⟩ (some 27) (aJ acc)).tmps:=rfl;rw[e]at h6;exact cO (i:=0) rfl rfl (iy (n:=2) rfl rfl jS.ok rfl hr5) h6
theorem abk (p:Nat) (s:SS) (st:Bool) (b4 b5 b6 b7 c bo n i:Nat) (acc:Int × Int) (sl x10 x18 x19 x20 x21 x22 x26 x27 x28 x29 x30 x31:Value) (hn:n<=6)
 (h6:w.heap[b6]? = some (.cells #[.int .i64 0,.int .i64 0] 27 (0,0))) (hV6:V b6=none) (ho:V.Range bo 0 [.int .i64 acc.1,.int .i64 acc.2]) (hV:V.In w) :
  fA Tryd.prog [.code .ret] (fun a w'=>(∃ x26 x32,a=⟨#[ptr p,.agg (dJ s).toArray,.bool st,undef,ptr b4,ptr b5,ptr b6,ptr b7,sl,undef,x10,ptr bo,.chan (some c),ptr p,sl,sl,.int .i64 n,.int .i64 i,x18,x19,x20,x21,x22,sl,.int .i64 n,.int .i64 n,x26,x27,x28,x29,x30,x31,x32],[]⟩)/\St w [b6] V [.blk b6 27 [.int .i64 acc.1,.int .i64 acc.2]] w')
   head2 ⟨wE p s st b4 b5 b6 b7 c bo sl n i n x10 x18 x19 x20 x21 x22 x26 x27 x28 x29 x30 x31,[]⟩ w:=by
 have hS:St w [b6] V [.blk b6 27 [.int .i64 0,.int .i64 0]] w:=St.Zj hV h6 hV6;unfold wE ptr at *
 generalize (dJ s).toArray=stv;refine au (aA ?_);go_wp2_with (fail)
 refine au (dZ (t:=false) rfl (lG rfl ?_));refine au (aA ?_);go_wp2_with (first|(refine ym ?_;clear hS;intro w' hS)|(refine ys ?_;clear hS;intro w' hS))
 exact bG (tgt:=[.code .ret]) ⟨⟨_,_,rfl⟩,hS⟩
end Go.Proofs.YtjjmefieegcddaaDoor
namespace Go.Ph
open Go
open Go.Tm
open Go.Sr
open Go.Conc
section
variable {DD DD':List Nat} {R:BR}
theorem VT (hR:∀ b∈DD,∀ b',R b b'->b'=b) {v u v':Value} (h:Xe (iq DD) v u) (h':Xe R v v'):v'=v:=by
 cases h with
 |flat hf =>
  cases h' with
  |flat _=>rfl
  |ptr _=>cases hf
  |slice _=>cases hf
  |chan _=>cases hf
 | ptr h =>
  cases h' with
  |flat hf=>cases hf
  |ptr h' =>
   obtain⟨e1,e2,e3⟩:=h';have:=hR _ h.1.2 _ e1;rename_i a _ a';cases a;cases a'
   simp_all
 | slice h =>
  cases h' with
  |flat hf=>cases hf
  |slice h' =>
   obtain⟨e1,e2,e3⟩:=h';have:=hR _ h.1.2 _ e1;rename_i a _ _ _ a';cases a;cases a'
   simp_all
 |chan h =>
  cases h' with
  |flat hf=>cases hf
  |chan h'=>rw[hR _ h.2 _ h']
mutual
theorem LU [bT] (hR:∀ b∈DD,∀ b',R b b'->b'=b) {v u v':Value}:qV (iq DD) v u->qV R v v'->v'=v
 | .base h,h'=>by
  cases h' with
  |base h'=>exact VT hR h h'
  |func _ _ _ _ _ =>
   cases h with
   |flat hf=>cases hf
 | .func (a:=a) (c:=c) h0 h1 h2 h3 h4,h'=>by
  cases h' with
  |base h' =>
   cases h' with
   |flat hf=>cases hf
  | func k0 k1 k2 k3 k4 =>
   rename_i a1 c1 a' c';congr 1
   ·apply Array.ext k1;intro i i1 i2;have i3:i < a1.size:=by rw [h1];exact i2
    exact aI hR (h2 i _ _ (Array.getElem?_eq_getElem i2) (Array.getElem?_eq_getElem i3)) (k2 i _ _ (Array.getElem?_eq_getElem i2) (Array.getElem?_eq_getElem i1))
   ·apply Array.ext k3;intro i i1 i2;have i3:i < c1.size:=by rw [h3];exact i2
    exact aI hR (h4 i _ _ (Array.getElem?_eq_getElem i2) (Array.getElem?_eq_getElem i3)) (k4 i _ _ (Array.getElem?_eq_getElem i2) (Array.getElem?_eq_getElem i1))
theorem aI [bT] (hR:∀ b∈DD,∀ b',R b b'->b'=b) {v u v':Value}:VR (iq DD) v u->VR R v v'->v'=v
 | .base h,h'=>by
  cases h' with
  |base h'=>exact LU hR h h'
  | agg _ _ =>
   cases h with
   |base h =>
    cases h with
    |flat hf=>cases hf
 | .agg (c:=c) (c':=c1) h1 h2,h'=>by
  cases h' with
  | base h' =>
   cases h' with
   |base h' =>
    cases h' with
    |flat hf=>cases hf
  |agg k1 k2 =>
   congr 1;apply Array.ext k1;intro i i1 i2;have i3:i<c1.size:=by rw[h1];exact i2
   exact LU hR (h2 i _ _ (Array.getElem?_eq_getElem i2) (Array.getElem?_eq_getElem i3)) (k2 i _ _ (Array.getElem?_eq_getElem i2) (Array.getElem?_eq_getElem i1))
end
def GR [bT] (R:BR):List Value->List Value->Prop
 | [],[]=>True
 |v::l,u::m=>(∀ v',VR R v v'->v'=u)/\GR R l m
 |_,_=>False
theorem Gy [bT]:∀ {l m:List Value},GR R l m->m.length=l.length/\∀ (i:Nat) (v u:Value),l[i]? = some v->m[i]? = some u->∀ v',VR R v v'->v'=u
 | [],[],_=>⟨rfl,fun i v u h=>by simp at h⟩
 |v::l,u::m,h=>by
  obtain⟨h1,h2⟩:=Gy h.2;refine⟨by simp[h1],fun i x y hx hy=>?_⟩;cases i with
  |zero=>simp at hx hy;subst hx;subst hy;exact h.1
  |succ i=>simp at hx hy;exact h2 i x y hx hy
theorem CW [bT] {t t':Array Value} {m:List Value} (h:AF (VR R) t t') (ha:GR R t.toList m):t'=m.toArray:=by
 obtain⟨h1,h2⟩:=Gy ha;have hsz:t'.size=m.toArray.size:=by rw[h.1];simp[h1]
 apply Array.ext hsz;intro i i1 i2;have i3:i<t.size:=by rw[<- h.1];exact i1
 have i4:i<m.length:=by simpa using i2
 have:=h2 i t[i] m[i] (by simp[i3]) (by simp[i4]) t'[i] (h.raw i _ _ (Array.getElem?_eq_getElem i3) (Array.getElem?_eq_getElem i1));simpa using this
theorem LG [bT] {l:List Value} (h:∀ v∈l,VR (iq DD) v v) (hR:∀ b∈DD,∀ b',R b b'->b'=b):GR R l l:=by
 induction l with
 |nil=>trivial
 |cons v l ih=>exact⟨fun v' h'=>aI hR (h v (by simp)) h',ih fun u hu=>h u (by simp[hu])⟩
end
end Go.Ph
namespace Go.Proofs.YtjjmefieegcddaaDoor
open Go.RowKit Go.Wg Go.Mm Go.Wk
open Go Go.Sr Go.Ph Go.Tm Go.Conc
noncomputable def aa9 (x:Item):Bool :=
 match x with
 |.code c | .inLoop c=>Ce Tryd.prog c && bY true c
 |.inRegion ops _=>(ops.all fun o=>NM Tryd.prog o.op) && ops.all fun o=>qj true o.op
 |.inBlock _=>true
 |_=>false
theorem UH {todo:List Item} (h:todo.all aa9=true):∀ x∈todo,jB Tryd.prog x/\iC true x:=fun x hx=>by
 have:=List.all_eq_true.1 h x hx
 match x,this with
 |.code c,h=>exact⟨(Bool.and_eq_true_iff.1 h).1,(Bool.and_eq_true_iff.1 h).2⟩
 |.inLoop c,h=>exact⟨(Bool.and_eq_true_iff.1 h).1,(Bool.and_eq_true_iff.1 h).2⟩
 |.inRegion ops l,h=>exact⟨(Bool.and_eq_true_iff.1 h).1,(Bool.and_eq_true_iff.1 h).2⟩
 |.inBlock id,h=>exact⟨trivial,trivial⟩
theorem Mc:yP.all aa9=true:=by kernel_rfl
theorem Lr:head2.all aa9=true:=by kernel_rfl
theorem Xw (l:List Nat):(TA l).all aa9=true:=(show(TA []).all aa9=true by kernel_rfl)
theorem QW (l:List Nat):(Au l).all aa9=true:=(show(Au []).all aa9=true by kernel_rfl)
structure yD (V:View) (wA:World) (p:Nat) (k:Wk) (ts:List Nat) (vv rv:Value) (s:SS) (st:Bool) (b4 b5 b6 b7 c g cap:Nat) (D:List Nat) (cur:Array Value):Prop where
 inA:V.In wA
 cel:zO V p k ts vv rv
 ok:k.Ok
 wf:s.WF
 lo:∀ i,0<=(s.aP i).1
 hi:∀ i,(s.aP i).2<=1000
 cl:Closed V D
 pD:p∈D
 v4:V b4=some (.cells (dJ s).toArray 100 (0,0))
 v5:V b5=some (.cells #[.bool st] 4 (0,0))
 v7:V b7=some (.cells #[.chan (some c)] 165 (0,0))
 vg:V g=some (.cells cur 124 (0,0))
 curD:∀ v∈cur,IZ D v
 src:∀ (i x:Nat),k.sources[i]? = some x->cur[i]? = some (ptr (ts.getD x 0))
 vc:V c=none
 v6:V b6=none
 h6:wA.heap[b6]? = some (.cells #[.int .i64 0,.int .i64 0] 27 (0,0))
 hc:wA.heap[c]? = some (.chan 0 #[] false 0 0 false)
 ge:Wg.gN<=b4/\Wg.gN<=b5/\Wg.gN<=b6/\Wg.gN<=b7/\Wg.gN<=c/\Wg.gN<=g
 n6:k.sources.length<=6
 npos:0<k.sources.length
structure FT (wA:World) (b6 c:Nat) (D1 wr1:Nat->Prop) (w:World):Prop where
 kept:∀ b,b<wA.heap.size->b≠b6->b≠c->w.heap[b]? = wA.heap[b]?
 size:wA.heap.size<=w.heap.size
 os:w.os=wA.os
 out:w.output=wA.output
 rd:∀ b,b<wA.heap.size->b≠b6->D1 b
 w6:wr1 b6
 low:∀ b,wr1 b->b=b6\/wA.heap.size<=b
 h6:w.heap[b6]? = some (.cells #[.int .i64 0,.int .i64 0] 27 (0,0))
 hc:∃ o,w.heap[c]? = some o/\DY o=true
section
variable {b i:Nat} {a:World} {DD E WW:List Nat}
variable {V:View} {wA w w1 w2:World} {p:Nat} {k:Wk} {ts:List Nat} {vv rv:Value} {s:SS} {st:Bool} {b4 b5 b6 b7 c g cap:Nat} {D:List Nat} {cur:Array Value} {D1 wr1 x:Nat->Prop}
theorem yD.WE (X:yD V wA p k ts vv rv s st b4 b5 b6 b7 c g cap D cur):b6≠c:=by
 rintro rfl;have h1:=X.h6;rw[X.hc]at h1;cases h1
theorem yD.RU (X:yD V wA p k ts vv rv s st b4 b5 b6 b7 c g cap D cur):c<wA.heap.size:=lt_of_heap X.hc
theorem yD.XG (X:yD V wA p k ts vv rv s st b4 b5 b6 b7 c g cap D cur):b6<wA.heap.size:=lt_of_heap X.h6
theorem yD.QE (X:yD V wA p k ts vv rv s st b4 b5 b6 b7 c g cap D cur) {o:Obj} (h:V b=some o):b≠b6/\b≠c/\b<wA.heap.size :=
 ⟨(by rintro rfl;rw[X.v6]at h;cases h),(by rintro rfl;rw[X.vc]at h;cases h),lt_of_heap (X.inA _ _ h)⟩
theorem Vt {b:World} (h:vU c a b c) (ho:∃ o,a.heap[c]? = some o/\DY o=true):∃ o,b.heap[c]? = some o/\DY o=true:=by
 obtain⟨o,h1,h2⟩:=ho;rcases h with h|⟨_,o1,o2,_,h4,_,h6⟩
 ·exact⟨o,h.trans h1,h2⟩
 ·exact⟨o2,h4,h6⟩
theorem kY {b:World} (h:vU c a b i) (hi:i≠c):b.heap[i]? = a.heap[i]?:=by
 rcases h with h|⟨h,_⟩
 ·exact h
 ·exact(hi h).elim
theorem FT.rely (X:yD V wA p k ts vv rv s st b4 b5 b6 b7 c g cap D cur) (I:FT wA b6 c D1 wr1 w) (hr:dn c (sK D1 wr1) w w1):FT wA b6 c D1 wr1 w1 :=
 ⟨fun b h1 h2 h3=>(kY (hr.keep b (.inl (I.rd b h1 h2))) h3).trans (I.kept b h1 h2 h3),Nat.le_trans I.size hr.size,hr.os.trans I.os,hr.output.trans I.out,I.rd,I.w6,I.low,
  (kY (hr.keep b6 (.inr I.w6)) X.WE).trans I.h6,Vt (hr.keep c (.inl (I.rd c X.RU (Ne.symm X.WE)))) I.hc⟩
theorem FT.after (X:yD V wA p k ts vv rv s st b4 b5 b6 b7 c g cap D cur) (I:FT wA b6 c D1 wr1 w) (hk:yY c D1 wr1 w w2) (hx:∀ b,x b->wr1 b\/w.heap.size<=b) (h6:w2.heap[b6]? = some (.cells #[.int .i64 0,.int .i64 0] 27 (0,0))) :
  FT wA b6 c D1 (fun b=>wr1 b\/x b) w2:=by
 have hn:∀ b,b<wA.heap.size->b≠b6->¬ wr1 b:=fun b h1 h2 h=>by
  rcases I.low b h with h|h
  ·exact h2 h
  ·omega
 refine⟨fun b h1 h2 h3=>(kY (hk.keep b (Nat.lt_of_lt_of_le h1 I.size) (I.rd b h1 h2) (hn b h1 h2)) h3).trans (I.kept b h1 h2 h3),Nat.le_trans I.size hk.size,hk.os.trans I.os,hk.output.trans I.out,I.rd,.inl I.w6,fun b hb=>?_,h6,
  Vt (hk.keep c (Nat.lt_of_lt_of_le X.RU I.size) (I.rd c X.RU (Ne.symm X.WE)) (hn c X.RU (Ne.symm X.WE))) I.hc⟩
 rcases hb with hb|hb
 ·exact I.low b hb
 ·rcases hx b hb with h | h
  ·exact I.low b h
  ·exact .inr (Nat.le_trans I.size h)
theorem FT.view (X:yD V wA p k ts vv rv s st b4 b5 b6 b7 c g cap D cur) (I:FT wA b6 c D1 wr1 w):V.In w:=fun b o h=>by
 obtain⟨h1,h2,h3⟩:=X.QE h;rw[I.kept b h3 h1 h2];exact X.inA b o h
def dK (b4 b5 b7 c g:Nat) (D E:List Nat):List Nat:=b4::b5::b7::c::g::(D ++ E)
structure KG (wA:World) (D E:List Nat) (D1 wr1:Nat->Prop) (w:World):Prop where
 obj:∀ b∈E,D1 b/\¬ wr1 b/\wA.heap.size<=b/\∃ t∈D,w.heap[b]? = some (.cells #[ptr t] 124 (0,0))
theorem KG.rely (X:yD V wA p k ts vv rv s st b4 b5 b6 b7 c g cap D cur) (h:KG wA D E D1 wr1 w) (hr:dn c (sK D1 wr1) w w1):KG wA D E D1 wr1 w1 :=
 ⟨fun b hb=>by
  obtain⟨h1,h2,h3,t,h4,h5⟩:=h.obj b hb;exact⟨h1,h2,h3,t,h4,(kY (hr.keep b (.inl h1)) (by rintro rfl;have:=X.RU;omega)).trans h5⟩⟩
structure PhW (wA:World) (WW:List Nat) (wr1:Nat->Prop) (w:World):Prop where
 obj:∀ b∈WW,wr1 b/\Wg.gN<=b/\∃ c t,w.heap[b]? = some (.cells c t (0,0))/\∀ v∈c,iL v=true
theorem LM (X:yD V wA p k ts vv rv s st b4 b5 b6 b7 c g cap D cur) (I:FT wA b6 c D1 wr1 w) (hE:KG wA D E D1 wr1 w) (hW:PhW wA WW wr1 w) (hG:Wg.gN<=wA.heap.size):Seg Tryd.prog D1 wr1 (dK b4 b5 b7 c g D E) WW w:=by
 have hin:=I.view X;have m4:b4∈dK b4 b5 b7 c g D E:=by simp[dK]
 have mc:c∈dK b4 b5 b7 c g D E:=by simp[dK]
 have mD:∀ b∈D,b∈dK b4 b5 b7 c g D E ++ WW:=fun b hb=>by simp[dK,hb]
 have hvr:∀ {v:Value},iL v=true->qV (iq (dK b4 b5 b7 c g D E ++ WW)) v v:=fun h=>.base (.flat (uU h))
 have hd1:∀ {b:Nat} {o:Obj},V b=some o->D1 b:=fun h=>I.rd _ (X.QE h).2.2 (X.QE h).1
 have hold:∀ b∈dK b4 b5 b7 c g D E,D1 b/\¬ wr1 b:=fun b hb=>by
  have hlow:∀ {b:Nat},b<wA.heap.size->b≠b6->¬ wr1 b:=fun h1 h2 h=>by
   rcases I.low _ h with h|h
   ·exact h2 h
   ·omega
  have hv:∀ {b:Nat} {o:Obj},V b=some o->D1 b/\¬ wr1 b:=fun h=>⟨hd1 h,hlow (X.QE h).2.2 (X.QE h).1⟩
  simp only[dK,List.mem_cons,List.mem_append]at hb;rcases hb with rfl|rfl|rfl|rfl|rfl|hb|hb
  ·exact hv X.v4
  ·exact hv X.v5
  ·exact hv X.v7
  ·exact⟨I.rd _ X.RU (Ne.symm X.WE),hlow X.RU (Ne.symm X.WE)⟩
  ·exact hv X.vg
  ·obtain⟨cs,t,h1,_⟩:=X.cl.cells b hb;exact hv h1
  ·obtain⟨h1,h2,_⟩:=hE.obj b hb;exact⟨h1,h2⟩
 refine⟨fun b hb=>.inl (hold b hb).1,fun b hb=>(hW.obj b hb).1,fun b hb hd=>(hold b hd).2 (hW.obj b hb).1,fun b hb=>?_,?_,fun b hb=>?_,fun b hb=>?_⟩
 ·rcases List.mem_append.1 hb with hb | hb
  ·simp only [dK,List.mem_cons,List.mem_append] at hb;obtain ⟨g1,g2,g3,g4,g5,g6⟩:=X.ge;rcases hb with rfl | rfl | rfl | rfl | rfl | hb | hb
   ·exact g1
   ·exact g2
   ·exact g4
   ·exact g5
   ·exact g6
   ·exact X.cl.ge b hb
   ·exact Nat.le_trans hG (hE.obj b hb).2.2.1
  ·exact(hW.obj b hb).2.1
 ·exact Nat.le_trans hG I.size
 ·simp only [dK,List.mem_cons,List.mem_append] at hb;rcases hb with rfl | rfl | rfl | rfl | rfl | hb | hb
  ·exact .inl ⟨_,_,hin _ _ X.v4,fun v hv=>hvr (yL s v (by simpa using hv))⟩
  ·exact .inl ⟨_,_,hin _ _ X.v5,fun v hv=>by
    have:v=.bool st:=by simpa using hv
    subst this;exact .base (.flat rfl)⟩
  ·exact .inl ⟨_,_,hin _ _ X.v7,fun v hv=>by
    have:v=.chan (some c):=by simpa using hv
    subst this;exact .base (.chan ⟨rfl,List.mem_append_left _ mc⟩)⟩
  ·exact .inr I.hc
  ·exact .inl ⟨_,_,hin _ _ X.vg,fun v hv=>sF mD (X.curD v hv)⟩
  ·obtain⟨cs,t,h1,h2⟩:=X.cl.cells b hb;exact .inl ⟨_,_,hin _ _ h1,fun v hv=>sF mD (h2 v hv)⟩
  ·obtain⟨_,_,_,t,ht,h5⟩:=hE.obj b hb;exact .inl ⟨_,_,h5,fun v hv=>by
    have:v=ptr t:=by simpa using hv
    subst this;exact sF mD (.inr (.inl ⟨_,_,rfl,ht⟩))⟩
 ·obtain⟨_,_,cs,t,h1,h2⟩:=hW.obj b hb;exact⟨cs,t,h1,fun v hv=>hvr (h2 v hv)⟩
noncomputable def lv (DD WW:List Nat) (w:World):View:=fun b=>if b∈DD ++ WW then(oU DD w).heap[b]? else none
theorem Ny (DD WW:List Nat) (w:World) (τ:Nat->Question->Nat) (d:Nat):(lv DD WW w).In ((oU DD w).re τ d):=fun b o h=>by
 unfold lv at h;split at h
 ·exact h
 ·cases h
theorem Jb {w:World} {v:Value} {cs:Array Value} {t:TypeId} {fr:Nat × Nat} (hb:b∈DD ++ WW) (h:w.heap[b]? = some (.cells cs t fr)) (hi:cs[i]? = some v):(lv DD WW w).Cell b i v:=by
 by_cases hd:b∈DD
 ·exact⟨cs,t,(0,cs.size),by simp only[lv,hb,if_true];rw[jT,h];simp[hd,JZ],hi⟩
 ·exact⟨cs,t,fr,by simp only[lv,hb,if_true];rw[jT,h];simp[hd],hi⟩
theorem Ap {WW:List Nat} {w:World} (hd:b ∉ DD):(oU DD w).heap[b]? = w.heap[b]?:=by
 rw[jT];cases w.heap[b]? with
 |none=>rfl
 |some o=>simp[hd]
end
section
variable {V:View} {wA w w1 w2:World} {p:Nat} {k:Wk} {ts:List Nat} {vv rv:Value} {s:SS} {st:Bool} {b4 b5 b6 b7 c g cap:Nat} {D:List Nat} {cur:Array Value} {D1 wr1 x:Nat->Prop} {E WW:List Nat}
theorem DL (X:yD V wA p k ts vv rv s st b4 b5 b6 b7 c g cap D cur) (I:FT wA b6 c D1 wr1 w) (hE:KG wA D E D1 wr1 w) (hW:PhW wA WW wr1 w) (hG:Wg.gN<=wA.heap.size) (hh:ay OC w)
  {tm:Array Value} {todo tgt:List Item} (hit:todo.all aa9=true) (hself:∀ v∈tm,VR (iq (dK b4 b5 b7 c g D E ++ WW)) v v) {b:Frame} (hbf:b.fn=97) (hbk:b.kind=.normal) {cs:List Frame} {vs:List Value} {Q:wY}
  {S:Act->World->Prop} (hre:∀ a w τ d,S a w->S a (w.re τ d)) (hrun:∀ τ d,fA Tryd.prog tgt S todo ⟨tm,[]⟩ ((oU (dK b4 b5 b7 c g D E) w).re τ d))
  (hk:∀ R' a' a2 wl w2,S a' wl->le (iq (dK b4 b5 b7 c g D E ++ WW)) R'->AF (VR R') a'.tmps a2.tmps->a2.defers=[]->WR Tryd.prog.globals.size R' (wX (dK b4 b5 b7 c g D E)) wl w2->yY c D1 wr1 w w2 ->
   (∀ b,own (wX (dK b4 b5 b7 c g D E)) R' b->wr1 b\/w.heap.size<=b)->oK Tryd.prog c D1 (fun b=>wr1 b\/own (wX (dK b4 b5 b7 c g D E)) R' b) vs (G (b.at a2 tgt) cs) w2 Q) :
  oK Tryd.prog c D1 wr1 vs (G (b.at ⟨tm,[]⟩ todo) cs) w Q:=by
 have hi:=UH hit;have hst:uw 97 (b.at ⟨tm,[]⟩ todo) []:=⟨⟨fun x hx=>(hi x hx).2,(fun d hd=>nomatch hd),.inl hbk⟩,rfl,hbk,hbf⟩;have hsr:FQ Tryd.prog (iq (dK b4 b5 b7 c g D E ++ WW)) (b.at ⟨tm,[]⟩ todo) (b.at ⟨tm,[]⟩ todo):=WM rfl hself (fun x hx=>(hi x hx).1) hbk fun fn hfn=>by
  rw[hbf,Tryd.func97]at hfn;cases hfn;exact(show Tryd.f97.results.size<=1 by decide)
 refine WB XJ lT (LM X I hE hW hG) hh hst hsr (S:=fun a t w=>t=tgt/\S a w) (fun a t w τ d h=>⟨h.1,hre _ _ _ _ h.2⟩) (fun τ d=>?_) fun R' a' a2 todo' wl w2 hs hle hAF hdf hWR hkept hfr _=>?_
 ·obtain⟨a',w',h1,h2⟩:=hrun τ d b [floor Tryd.prog] hbk;exact⟨a',tgt,w',⟨rfl,h1⟩,h2⟩
 ·obtain⟨rfl,hs⟩:=hs;exact hk R' a' a2 wl w2 hs hle hAF hdf hWR hkept hfr
theorem Iq {R:BR} {b:Nat} {v:Value} (h:VR R (ptr b) v):∃ b',v=ptr b'/\R b b':=by
 unfold ptr at h;cases h with
 | base h =>
  cases h with
  | base h =>
   cases h with
   |flat h=>cases h
   |ptr h =>
    rename_i a';obtain⟨h1,h2,h3⟩:=h;obtain⟨b',o',sp'⟩:=a';simp only at h1 h2 h3;subst h2;subst h3;exact⟨b',rfl,h1⟩
theorem yG (X:yD V wA p k ts vv rv s st b4 b5 b6 b7 c g cap D cur) {n i:Nat} {x10 x18 x19 x20 x21 x22:Value} (h6:b6∈WW) (hx:∀ v∈[x10,x18,x19,x20,x21,x22],VR (iq (dK b4 b5 b7 c g D E ++ WW)) v v) :
  ∀ v∈iU p s st b4 b5 b6 b7 c (.slice (some ⟨g,0,none⟩) n cap) n i x10 x18 x19 x20 x21 x22,VR (iq (dK b4 b5 b7 c g D E ++ WW)) v v:=by
 have hu:VR (iq (dK b4 b5 b7 c g D E ++ WW)) undef undef:=.of_flat rfl;have hp:VR (iq (dK b4 b5 b7 c g D E ++ WW)) (ptr p) (ptr p):=bJ (.ptr (by simp[dK,X.pD]));have hst:VR (iq (dK b4 b5 b7 c g D E ++ WW)) (.agg (dJ s).toArray) (.agg (dJ s).toArray):=bJ (.agg fun v hv=>uU (yL s v (by simpa using hv)));have hb:VR (iq (dK b4 b5 b7 c g D E ++ WW)) (.bool st) (.bool st):=.of_flat rfl;have h4:VR (iq (dK b4 b5 b7 c g D E ++ WW)) (ptr b4) (ptr b4):=bJ (.ptr (by simp[dK]));have h5:VR (iq (dK b4 b5 b7 c g D E ++ WW)) (ptr b5) (ptr b5):=bJ (.ptr (by simp[dK]));have h6':VR (iq (dK b4 b5 b7 c g D E ++ WW)) (ptr b6) (ptr b6):=bJ (.ptr (by simp[h6]));have h7:VR (iq (dK b4 b5 b7 c g D E ++ WW)) (ptr b7) (ptr b7):=bJ (.ptr (by simp[dK]));have hsl:VR (iq (dK b4 b5 b7 c g D E ++ WW)) (.slice (some ⟨g,0,none⟩) n cap) (.slice (some ⟨g,0,none⟩) n cap):=bJ (.slice (by simp[dK]));have hc:VR (iq (dK b4 b5 b7 c g D E ++ WW)) (.chan (some c)) (.chan (some c)):=bJ (.chan (by simp[dK]));have hn:VR (iq (dK b4 b5 b7 c g D E ++ WW)) (.int .i64 n) (.int .i64 n):=.of_flat rfl;have hi:VR (iq (dK b4 b5 b7 c g D E ++ WW)) (.int .i64 i) (.int .i64 i):=.of_flat rfl;simp only[List.mem_cons,List.not_mem_nil,or_false,forall_eq_or_imp,forall_eq]at hx;obtain⟨y10,y18,y19,y20,y21,y22⟩:=hx;intro v hv;simp only[iU,List.mem_toArray,List.mem_cons,List.not_mem_nil,or_false]at hv;rcases hv with rfl|rfl|rfl|rfl|rfl|rfl|rfl|rfl|rfl|rfl|rfl|rfl|rfl|rfl|rfl|rfl|rfl|rfl|rfl|rfl|rfl|rfl|rfl|rfl|rfl|rfl|rfl|rfl|rfl|rfl|rfl|rfl|rfl;all_goals assumption
end
def wC (k:Wk) (s:SS) (st:Bool) (i:Nat):List Value:=((k.sources.take i).map fun x=>aJ (kX k s st x)).reverse
theorem MQ (k:Wk) (s:SS) (st:Bool) {i x:Nat} (h:k.sources[i]? = some x):wC k s st (i+1)=aJ (kX k s st x)::wC k s st i:=by
 unfold wC;rw[List.take_add_one,h];simp
section
variable {V:View} {wA w w1 w2:World} {p:Nat} {k:Wk} {ts:List Nat} {vv rv:Value} {s:SS} {st:Bool} {b4 b5 b6 b7 c g cap:Nat} {D:List Nat} {cur:Array Value} {D1 wr1 x:Nat->Prop} {E WW:List Nat}
theorem Yh {R:BR} {x0 x1 x2 x3 y0:Value} {f:FuncId} {v:Value} (h:VR R (.func (.func f) #[] #[x0,x1,x2,x3]) v) (h0:∀ v,VR R x0 v->v=y0) (h1:∀ v,VR R x1 v->v=x1) (h2:∀ v,VR R x2 v->v=x2) (h3:∀ v,VR R x3 v->v=x3) :
  v=.func (.func f) #[] #[y0,x1,x2,x3]:=by
 cases h with
 | base h =>
  cases h with
  |base h =>
   cases h with
   |flat h=>cases h
  | func k0 k1 k2 k3 k4 =>
   rename_i a' c';have e1:a'=#[]:=Array.eq_empty_of_size_eq_zero (by simpa using k1);have k3':c'.size=4:=by simpa using k3
   subst e1;congr 1;apply Array.ext
   ·simpa using k3'
   ·intro j i1 i2;have hj:j=0\/j=1\/j=2\/j=3:=by omega
    rcases hj with rfl|rfl|rfl|rfl
    ·exact h0 _ (k4 0 _ _ rfl (Array.getElem?_eq_getElem i1))
    ·exact h1 _ (k4 1 _ _ rfl (Array.getElem?_eq_getElem i1))
    ·exact h2 _ (k4 2 _ _ rfl (Array.getElem?_eq_getElem i1))
    ·exact h3 _ (k4 3 _ _ rfl (Array.getElem?_eq_getElem i1))
theorem LK (X:yD V wA p k ts vv rv s st b4 b5 b6 b7 c g cap D cur) (I:FT wA b6 c D1 wr1 w) (hE:KG wA D E D1 wr1 w) (hW:PhW wA WW wr1 w) (hG:Wg.gN<=wA.heap.size):∀ b∈dK b4 b5 b7 c g D E,b<w.heap.size:=fun b hb=>by
 rcases(LM X I hE hW hG).obj b hb with⟨_,_,h,_⟩|⟨_,h,_⟩<;>exact lt_of_heap h
theorem ph6 (X:yD V wA p k ts vv rv s st b4 b5 b6 b7 c g cap D cur) (I:FT wA b6 c D1 wr1 w):PhW wA [b6] wr1 w:=⟨fun b hb=>by
 simp only[List.mem_singleton]at hb;subst hb;exact⟨I.w6,X.ge.2.2.1,_,_,I.h6,by simp[iL]⟩⟩
theorem Jg (X:yD V wA p k ts vv rv s st b4 b5 b6 b7 c g cap D cur) (I:FT wA b6 c D1 wr1 w) (hE:KG wA D E D1 wr1 w) (hG:Wg.gN<=wA.heap.size):b6 ∉ dK b4 b5 b7 c g D E:=(LM X I hE (ph6 X I) hG).dis b6 (by simp)
theorem zZ {R':BR} {wl:World} {DD WW:List Nat} (hWR:WR Tryd.prog.globals.size R' (wX DD) wl w2) (hle:le (iq (DD ++ WW)) R') (hm:b6∈WW) (hn:b6 ∉ DD) (h6l:wl.heap[b6]? = some (.cells #[.int .i64 0,.int .i64 0] 27 (0,0))) :
  w2.heap[b6]? = some (.cells #[.int .i64 0,.int .i64 0] 27 (0,0)):=by
 obtain⟨c6,hc6,hAF6⟩:=wP hWR (hle b6 b6 ⟨rfl,List.mem_append_right _ hm⟩) hn h6l;rw[CX (sQ hWR hle) hAF6 (fun v hv=>by
  have:v=.int .i64 0:=by simpa using hv
  subst this;exact .flat rfl)]at hc6
 exact hc6
theorem Dt {i x:Nat} (h:k.sources[i]? = some x):x<k.n:=List.mem_range.1 (List.mem_filter.1 (List.mem_of_getElem? h)).1
theorem Xz {o:Oper} {a:Act} {x:Operand} {t:Fn} {f c:Array Value} (ho:o.op=.go {callee:=.value x,args:=#[],argTypes:=#[]}) (hx:a.eval x=.func t f c) (w:World) :
  (execOp a.eval o).run Tryd.prog w=.ok (.spawn {target:=.fn t c,args:=f}) w:=by
 unfold execOp;simp[ho,resolve,hx,Deferred.ofValue]
theorem aaz (X:yD V wA p k ts vv rv s st b4 b5 b6 b7 c g cap D cur) (hG:Wg.gN<=wA.heap.size) {b:Frame} (hbf:b.fn=97) (hbk:b.kind=.normal) {cs:List Frame} {Q:wY}
  (hend:∀ D1 wr1 w x10 x18 x19 x20 x21 x22 E,FT wA b6 c D1 wr1 w->KG wA D E D1 wr1 w->Sr.flat x22=true->(∀ v∈[x10,x18,x19,x20,x21,x22],VR (iq (dK b4 b5 b7 c g D E ++ [b6])) v v) ->
   oK Tryd.prog c D1 wr1 (wC k s st k.sources.length) (G (b.at ⟨iU p s st b4 b5 b6 b7 c (.slice (some ⟨g,0,none⟩) k.sources.length cap) k.sources.length k.sources.length x10 x18 x19 x20 x21 x22,[]⟩ yP) cs) w Q) :
  ∀ (m i:Nat),i+m=k.sources.length->∀ D1 wr1 w x10 x18 x19 x20 x21 x22 E,FT wA b6 c D1 wr1 w->KG wA D E D1 wr1 w->Sr.flat x22=true->(∀ v∈[x10,x18,x19,x20,x21,x22],VR (iq (dK b4 b5 b7 c g D E ++ [b6])) v v) ->
   oK Tryd.prog c D1 wr1 (wC k s st i) (G (b.at ⟨iU p s st b4 b5 b6 b7 c (.slice (some ⟨g,0,none⟩) k.sources.length cap) k.sources.length i x10 x18 x19 x20 x21 x22,[]⟩ yP) cs) w Q:=by
 intro m
 induction m with
 |zero =>
  intro i hi D1 wr1 w x10 x18 x19 x20 x21 x22 E I hE h22 hx;obtain rfl:i=k.sources.length:=by omega
  exact hend D1 wr1 w x10 x18 x19 x20 x21 x22 E I hE h22 hx
 | succ m ih =>
  intro i hi D1 wr1 w x10 x18 x19 x20 x21 x22 E I hE h22 hx;have hlt:i<k.sources.length:=by omega
  refine tV fun w1 hr1 hh1 hc1=>?_
  replace I:=I.rely X hr1;replace hE:=hE.rely X hr1;clear hr1 hc1 w;obtain⟨sx,hsx⟩:∃ sx,k.sources[i]? = some sx:=⟨_,List.getElem?_eq_getElem hlt⟩;have hcur:=X.src i sx hsx;obtain⟨t,ht⟩:∃ t,ts.getD sx 0=t:=⟨_,rfl⟩;rw[ht]at hcur;have htD:t∈D:=by
   have:=X.curD _ (Array.mem_of_getElem? hcur);exact QJ this
  have hW:=ph6 X I;have hn6:=Jg X I hE hG;have hlts:=LK X I hE hW hG;have sf:=yG (E:=E) (WW:=[b6]) (n:=k.sources.length) (i:=i) X (by simp) hx;refine DL (tgt:=TA [1]) X I hE hW hG hh1 Mc sf hbf hbk
   (S:=fun a w'=>∃ b10,a=⟨iU p s st b4 b5 b6 b7 c (.slice (some ⟨g,0,none⟩) k.sources.length cap) k.sources.length i (ptr b10) (.bool true) (.pointer (some ⟨g,i,none⟩)) (ptr t) (.func (.func 123) #[] #[ptr b10,ptr b4,ptr b5,ptr b7]) x22,[]⟩ /\
    w'.heap[b10]? = some (.cells #[ptr t] 124 (0,0))/\w1.heap.size<=b10/\w'.heap[b6]? = some (.cells #[.int .i64 0,.int .i64 0] 27 (0,0)))
   (fun _ _ _ _ h=>h) (fun τ d=>?_) ?_
  ·have hg:(lv (dK b4 b5 b7 c g D E) [b6] w1).Cell g i (ptr t):=Jb (by simp [dK]) (I.view X g _ X.vg) hcur;refine (abo p s st b4 b5 b6 b7 c g cap k.sources.length i t x10 x18 x19 x20 x21 x22 hlt X.n6 hg _ (Ny _ [b6] w1 τ d)).mono ?_;rintro a w' ⟨b10,rfl,hS⟩;have hl6:(lv (dK b4 b5 b7 c g D E) [b6] w1) b6=some (.cells #[.int .i64 0,.int .i64 0] 27 (0,0)):=by
    simp only[lv,List.mem_append,List.mem_singleton,or_true,if_true];rw[Ap (WW:=[]) hn6];exact I.h6
   have hb:=(hS.new (.blk b10 124 [ptr t]) (by simp) b10 rfl).elim id (fun h=>nomatch h);refine⟨b10,rfl,hS.dR,?_,hS.view _ _ hl6⟩;have e:((oU (dK b4 b5 b7 c g D E) w1).re τ d).heap.size=w1.heap.size:=oJ _ _;omega
  ·rintro R' a' a2 wl w2 ⟨b10,rfl,h10,l10,h6l⟩ hle hAF hdf hWR hkept hfr;have hfx:=sQ hWR hle;obtain ⟨v10,hv10,r10⟩:=hAF.2 10 (ptr b10) rfl;obtain ⟨bt,rfl,rbt⟩:=Iq r10;have nD:¬ wX (dK b4 b5 b7 c g D E) b10:=fun h=>by
    have:=hlts b10 h;omega
   obtain⟨c',hc',hAF1⟩:=wP hWR rbt nD h10;have ec:c'=#[ptr t]:=CX hfx hAF1 fun v hv=>by
    have:v=ptr t:=by simpa using hv
    subst this;exact .ptr (by simp[dK,htD])
   subst ec;have h62:=zZ hWR hle (by simp) hn6 h6l;have obt:own (wX (dK b4 b5 b7 c g D E)) R' bt:=⟨b10,rbt,nD⟩;have lbt:wA.heap.size<=bt:=by
    rcases hfr bt obt with h|h
    ·rcases I.low bt h with h | h
     ·subst h;have e:=hWR.inj b10 bt bt rbt (hle bt bt ⟨rfl,by simp⟩);have h1:=lt_of_heap I.h6;omega
     ·exact h
    ·exact Nat.le_trans I.size h
   have hb:∀ v',VR R' (ptr b10) v'->v'=ptr bt:=fun v' h=>by
    obtain⟨b',rfl,hb'⟩:=Iq h;rw[hWR.fn _ _ _ hb' rbt]
   have hsame:∀ {b:Nat},b∈dK b4 b5 b7 c g D E->∀ v',VR R' (ptr b) v'->v'=ptr b:=fun hb v' h=>aI hfx (bJ (.ptr (List.mem_append_left _ hb))) h
   have hf:∀ v',VR R' (.func (.func 123) #[] #[ptr b10,ptr b4,ptr b5,ptr b7]) v'->v'=.func (.func 123) #[] #[ptr bt,ptr b4,ptr b5,ptr b7]:=fun v' h=>Yh h hb (hsame (by simp[dK])) (hsame (by simp[dK])) (hsame (by simp[dK]))
   have hall:GR R' (iU p s st b4 b5 b6 b7 c (.slice (some ⟨g,0,none⟩) k.sources.length cap) k.sources.length i (ptr b10) (.bool true) (.pointer (some ⟨g,i,none⟩)) (ptr t) (.func (.func 123) #[] #[ptr b10,ptr b4,ptr b5,ptr b7]) x22).toList
     (iU p s st b4 b5 b6 b7 c (.slice (some ⟨g,0,none⟩) k.sources.length cap) k.sources.length i (ptr bt) (.bool true) (.pointer (some ⟨g,i,none⟩)) (ptr t) (.func (.func 123) #[] #[ptr bt,ptr b4,ptr b5,ptr b7]) x22).toList :=
    ⟨fun v' h=>aI hfx (sf _ (by simp[iU])) h,fun v' h=>aI hfx (sf _ (by simp[iU])) h,fun v' h=>aI hfx (sf _ (by simp[iU])) h,fun v' h=>aI hfx (sf _ (by simp[iU])) h,fun v' h=>aI hfx (sf _ (by simp[iU])) h,fun v' h=>aI hfx (sf _ (by simp[iU])) h,fun v' h=>aI hfx (sf _ (by simp[iU])) h,fun v' h=>aI hfx (sf _ (by simp[iU])) h,fun v' h=>aI hfx (sf _ (by simp[iU])) h,fun v' h=>aI hfx (sf _ (by simp[iU])) h,hb,fun v' h=>aI hfx (sf _ (by simp[iU])) h,fun v' h=>aI hfx (sf _ (by simp[iU])) h,fun v' h=>aI hfx (sf _ (by simp[iU])) h,fun v' h=>aI hfx (sf _ (by simp[iU])) h,fun v' h=>aI hfx (sf _ (by simp[iU])) h,fun v' h=>aI hfx (sf _ (by simp[iU])) h,fun v' h=>aI hfx (sf _ (by simp[iU])) h,fun v' h=>aI hfx (.of_flat rfl) h,fun v' h=>aI hfx (bJ (.ptr (by simp[dK]))) h,fun v' h=>aI hfx (bJ (.ptr (by simp[dK,htD]))) h,hf,fun v' h=>aI hfx (sf _ (by simp[iU])) h,fun v' h=>aI hfx (sf _ (by simp[iU])) h,fun v' h=>aI hfx (sf _ (by simp[iU])) h,fun v' h=>aI hfx (sf _ (by simp[iU])) h,fun v' h=>aI hfx (sf _ (by simp[iU])) h,fun v' h=>aI hfx (sf _ (by simp[iU])) h,fun v' h=>aI hfx (sf _ (by simp[iU])) h,fun v' h=>aI hfx (sf _ (by simp[iU])) h,fun v' h=>aI hfx (sf _ (by simp[iU])) h,fun v' h=>aI hfx (sf _ (by simp[iU])) h,fun v' h=>aI hfx (sf _ (by simp[iU])) h,trivial⟩
   have htm:=CW hAF hall;obtain⟨tmps2,defers2⟩:=a2;simp only at hdf htm;subst hdf;subst htm;have I2:=I.after X hkept hfr h62;obtain⟨wr2,hwr2⟩:∃ wr2,(fun b=>wr1 b\/own (wX (dK b4 b5 b7 c g D E)) R' b)=wr2:=⟨_,rfl⟩;have wbt:wr2 bt:=by rw[<- hwr2];exact .inr obt
   rw[hwr2]at I2 |-;clear hwr2 hkept hfr hWR hAF hle hall hf hb hsame hv10 r10 h10 h6l l10 hfx rbt nD hAF1 obt hlts hn6 hW hh1 sf hx hE;refine tV fun w3 hr3 hh3 hc3=>?_
   have I3:=I2.rely X hr3;have hbt:w3.heap[bt]? = some (.cells #[ptr t] 124 (0,0)):=(kY (hr3.keep bt (.inr wbt)) (by rintro rfl;have:=X.RU;omega)).trans hc';clear hr3 hc3;obtain⟨V',hV'⟩:∃ V':View,V'=fun b=>if b=bt then some (.cells #[ptr t] 124 (0,0)) else V b:=⟨_,rfl⟩
   have hVbt:V bt=none:=by
    cases hv:V bt with
    |none=>rfl
    |some o =>
     have:=(X.QE hv).2.2;omega
   have hsub:∀ j o,V j=some o->V' j=some o:=fun j o h=>by
    subst hV';have:j≠bt:=by rintro rfl;rw[hVbt]at h;cases h
    simp only[this,if_false];exact h
   have hin:V'.In w3:=fun j o h=>by
    subst hV';simp only at h;split at h
    ·rename_i e;subst e;cases h;exact hbt
    ·exact I3.view X j o h
   have hwk:=SN (w:=w3) (V:=V') p k ts vv rv (X.cel.mono hsub) X.ok s X.wf X.lo X.hi st sx (Dt hsx) D (kM X.cl hsub) X.pD bt b4 b5 b7 c (by rw[ht,hV'];exact if_pos rfl) (hsub _ _ X.v4) (hsub _ _ X.v5) (hsub _ _ X.v7) I3.hc
    ⟨by omega,X.ge.1,X.ge.2.1,X.ge.2.2.2.1,X.ge.2.2.2.2.1⟩ hin hh3
   have hDc:∀ b,wX (bt::b4::b5::b7::c::D) b->b=bt\/(b<wA.heap.size/\b≠b6):=fun b hb=>by
    simp only[wX,List.mem_cons]at hb;rcases hb with rfl|rfl|rfl|rfl|rfl|hb
    ·exact .inl rfl
    ·exact .inr ⟨(X.QE X.v4).2.2,(X.QE X.v4).1⟩
    ·exact .inr ⟨(X.QE X.v5).2.2,(X.QE X.v5).1⟩
    ·exact .inr ⟨(X.QE X.v7).2.2,(X.QE X.v7).1⟩
    ·exact .inr ⟨X.RU,Ne.symm X.WE⟩
    ·obtain⟨cs,t',h1,_⟩:=X.cl.cells b hb;exact .inr ⟨(X.QE h1).2.2,(X.QE h1).1⟩
   have h6bt:b6≠bt:=by have:=X.XG;omega
   refine SA rfl fun w4 hr4=>⟨_,kG Tryd.prog [{target:=.fn (.func 123) #[ptr bt,ptr b4,ptr b5,ptr b7],args:=#[]}],_,wX (bt::b4::b5::b7::c::D),fun b=>D1 b\/b=bt,fun b=>wr2 b/\b≠bt,aJ (kX k s st sx),
    stepG_spawn (i:=1) rfl rfl (by simp[hbk]) (Xz (x:=.tmp 21) (t:=.func 123) (f:=#[]) (c:=#[ptr bt,ptr b4,ptr b5,ptr b7]) rfl rfl w4) rfl,?_,?_,?_,?_,hwk.rely (hr4.sub fun b hb=>?_),?_⟩
   ·intro e he;unfold listed at he;rw[show(execOp _ _).events Tryd.prog w4 #[]=#[]from rfl,seen_none]at he;simp at he
   ·intro b hb;rcases hDc b hb with rfl | ⟨h1,h2⟩
    ·exact .inr wbt
    ·exact .inl (I3.rd b h1 h2)
   ·rintro b ((h | rfl) | ⟨h,_⟩)
    ·exact .inl h
    ·exact .inr wbt
    ·exact .inr h
   ·rintro b ⟨h1,h2⟩;refine ⟨h1,fun hb=>?_⟩;rcases hDc b hb with h | ⟨h3,h4⟩
    ·exact h2 h
    ·rcases I3.low b h1 with h | h
     ·exact h4 h
     ·omega
   ·rcases hb with hb | hb
    ·rcases hDc b hb with rfl | ⟨h1,h2⟩
     ·exact .inr wbt
     ·exact .inl (I3.rd b h1 h2)
    ·exact hb.elim
   · -- behind it
    have I4:FT wA b6 c (fun b=>D1 b\/b=bt) (fun b=>wr2 b/\b≠bt) w4:=by
     have h:=I3.rely X hr4;exact⟨h.kept,h.size,h.os,h.out,fun b h1 h2=>.inl (h.rd b h1 h2),⟨h.w6,h6bt⟩,fun b hb=>h.low b hb.1,h.h6,h.hc⟩
    have hbt4:w4.heap[bt]? = some (.cells #[ptr t] 124 (0,0)):=(kY (hr4.keep bt (.inr wbt)) (by rintro rfl;have:=X.RU;omega)).trans hbt;have hE4:KG wA D [bt] (fun b=>D1 b\/b=bt) (fun b=>wr2 b/\b≠bt) w4:=⟨fun b hb=>by
     simp only[List.mem_singleton]at hb;subst hb;exact⟨.inr rfl,fun h=>h.2 rfl,lbt,t,htD,hbt4⟩⟩
    rw[<- MQ k s st hsx];clear hwk hDc hin hsub hV' hVbt hbt hh3 I2 hbt4;show oK Tryd.prog c _ _ _ (G (b.at ⟨iU p s st b4 b5 b6 b7 c (.slice (some ⟨g,0,none⟩) k.sources.length cap) k.sources.length i (ptr bt) (.bool true) (.pointer (some ⟨g,i,none⟩)) (ptr t) (.func (.func 123) #[] #[ptr bt,ptr b4,ptr b5,ptr b7]) x22,[]⟩ (TA [])) cs) w4 Q;refine tV fun w5 hr5 hh5 hc5=>?_
    replace I4:=I4.rely X hr5;replace hE4:=hE4.rely X hr5;clear hr5 hc5 hr4;have m4:b4∈dK b4 b5 b7 c g D [bt] ++ [b6]:=by simp[dK]
    have m5:b5∈dK b4 b5 b7 c g D [bt] ++ [b6]:=by simp[dK]
    have m7:b7∈dK b4 b5 b7 c g D [bt] ++ [b6]:=by simp[dK]
    have mt:bt∈dK b4 b5 b7 c g D [bt] ++ [b6]:=by simp[dK]
    have hfn:VR (iq (dK b4 b5 b7 c g D [bt] ++ [b6])) (.func (.func 123) #[] #[ptr bt,ptr b4,ptr b5,ptr b7]) (.func (.func 123) #[] #[ptr bt,ptr b4,ptr b5,ptr b7]) :=
     .base (.Ol rfl ⟨rfl,fun i v h=>⟨v,h,by simp at h⟩⟩ ⟨rfl,fun i v h=>⟨v,h,by
      have:=Array.mem_of_getElem? h;simp only[List.mem_toArray,List.mem_cons,List.not_mem_nil,or_false]at this;rcases this with rfl|rfl|rfl|rfl
      ·exact bJ (.ptr mt)
      ·exact bJ (.ptr m4)
      ·exact bJ (.ptr m5)
      ·exact bJ (.ptr m7)⟩⟩)
    have hx5:∀ y:Value,Sr.flat y=true->∀ v∈[ptr bt,.bool true,.pointer (some ⟨g,i,none⟩),ptr t,.func (.func 123) #[] #[ptr bt,ptr b4,ptr b5,ptr b7],y],VR (iq (dK b4 b5 b7 c g D [bt] ++ [b6])) v v:=fun y hy v hv=>by
     simp only[List.mem_cons,List.not_mem_nil,or_false]at hv;rcases hv with rfl|rfl|rfl|rfl|rfl|rfl
     ·exact bJ (.ptr mt)
     ·exact .of_flat rfl
     ·exact bJ (.ptr (by simp[dK]))
     ·exact bJ (.ptr (by simp[dK,htD]))
     ·exact hfn
     ·exact .of_flat hy
    have hn6':=Jg X I4 hE4 hG;refine DL (tgt:=yP) X I4 hE4 (ph6 X I4) hG hh5 (Xw []) (yG X (by simp) (hx5 x22 h22)) hbf hbk
     (S:=fun a w'=>a=⟨iU p s st b4 b5 b6 b7 c (.slice (some ⟨g,0,none⟩) k.sources.length cap) k.sources.length (i+1) (ptr bt) (.bool true) (.pointer (some ⟨g,i,none⟩)) (ptr t) (.func (.func 123) #[] #[ptr bt,ptr b4,ptr b5,ptr b7]) (.int .i64 ((i+1:Nat):Int)),[]⟩ /\
      w'.heap[b6]? = some (.cells #[.int .i64 0,.int .i64 0] 27 (0,0))) (fun _ _ _ _ h=>h) (fun τ d=>?_) ?_
    ·refine (abm p s st b4 b5 b6 b7 c k.sources.length i _ _ _ _ _ _ x22 hlt X.n6 _ (Ny (dK b4 b5 b7 c g D [bt]) [b6] w5 τ d)).mono ?_;rintro a w' ⟨rfl,hS⟩;have hl6:(lv (dK b4 b5 b7 c g D [bt]) [b6] w5) b6=some (.cells #[.int .i64 0,.int .i64 0] 27 (0,0)):=by
      simp only[lv,List.mem_append,List.mem_singleton,or_true,if_true];rw[Ap (WW:=[]) hn6'];exact I4.h6
     exact⟨rfl,hS.view _ _ hl6⟩
    ·rintro R'' a' a2 wl w6 ⟨rfl,h6l⟩ hle hAF hdf hWR hkept hfr;have hfx:=sQ hWR hle;have htm:=CW hAF (LG (fun v hv=>yG X (by simp) (hx5 _ rfl) v (by simpa using hv)) hfx);obtain ⟨tmps2,defers2⟩:=a2;simp only [Array.toArray_toList] at hdf htm;subst hdf;subst htm;have h62':=zZ hWR hle (by simp) hn6' h6l;have I5:=I4.after X hkept hfr h62';refine ih (i+1) zw _ _ _ _ _ _ _ _ _ [bt] I5 ⟨fun e he=>?_⟩ rfl (hx5 _ rfl);obtain ⟨q1,q2,q3,t',q4,q5⟩:=hE4.obj e he;refine ⟨q1,fun h=>?_,q3,t',q4,(kY (hkept.keep e (lt_of_heap q5) q1 q2) (by rintro rfl;have:=X.RU;omega)).trans q5⟩;rcases h with h | ⟨y,hy,hny⟩
     ·exact q2 h
     ·have hm:e∈dK b4 b5 b7 c g D [bt] ++ [b6]:=by simp only [List.mem_singleton] at he;subst he;exact mt
      have:=hWR.inj y e e hy (hle e e ⟨rfl,hm⟩);subst this;simp only[List.mem_singleton]at he;subst he;exact hny (by simp[wX,dK])
end
theorem WA {c:Nat} {D0 wr0:Nat->Prop} {vs:List Value} {w:World} {Q:wY} {b:Frame} {a:Act} {k:List Item} {cs:List Frame} {id:Nat} {ops:Array Oper} (h:∀ l∈orders ops,oK Tryd.prog c D0 wr0 vs (G (b.at a (.inRegion ops l::k)) cs) w Q) :
  oK Tryd.prog c D0 wr0 vs (G (b.at a (.code (.region id ops true)::k)) cs) w Q:=by
 have hm:Tryd.prog.follows .mixedOrders=true:=by kernel_rfl
 refine Uu fun w1 hr=>⟨b.at a (.inRegion ops (Region.schedule true ops (w1.tape w1.drawn (.order b.fn id)))::k),w1.at (w1.drawn+1),#[],wr0,fun main cs'=>?_,by simp,⟨Nat.le_refl _,fun _ _ _=>rfl,rfl,rfl,rfl,fun _ h=>h⟩,⟨fun _ h=>h,fun _ h=>.inl h⟩,
  ((h _ (Je ops _)).rely hr).rely (.at _ w1 _)⟩
 simp[G,stepG,stepG.exec,Frame.at,choose,Sem.run,Question.forced,Question.cut,World.at,hm]
theorem PW {o:Oper} {a:Act} {x:Operand} {c:Nat} (ho:o.op=.recv 165 x false) (hx:a.eval x=.chan (some c)):∃ z,∀ w,(execOp a.eval o).run Tryd.prog w=.ok (.comm #[rcase c z] true (.recv false)) w:=by
 have hi:((Tryd.prog.info? 27).bind (·.zero)).isSome=true:=by kernel_rfl
 cases hq:Tryd.prog.info? 27 with
 |none=>rw[hq]at hi;cases hi
 | some i =>
  rw[hq]at hi;cases hz:i.zero with
  |none=>simp[hz]at hi
  |some z =>
   refine⟨z,fun w=>?_⟩;unfold execOp;simp[ho,hx,Go.underlying,Tryd.underlying165,Go.zeroValue,Go.typeInfo,hq,hz,rcase]
theorem F9 {o:Oper} {a:Act} {x:Operand} (ho:o.op=.recv 165 x false) (w:World):(execOp a.eval o).events Tryd.prog w #[]=#[]:=by
 unfold execOp;simp[ho]
section
variable {R':BR} {wl:World} {acc:Int × Int}
variable {V:View} {wA w w1 w2:World} {p:Nat} {k:Wk} {ts:List Nat} {vv rv:Value} {s:SS} {st:Bool} {b4 b5 b6 b7 c g cap bo:Nat} {D:List Nat} {cur:Array Value} {D1 wr1 x:Nat->Prop} {E WW:List Nat}
theorem AP {DD WW:List Nat} {b:Nat} (hWR:WR Tryd.prog.globals.size R' (wX DD) wl w2) (hle:le (iq (DD ++ WW)) R') (hm:b∈WW) (hn:b ∉ DD) {cs:Array Value} {t:TypeId} (hc:∀ v∈cs,iL v=true) (hl:wl.heap[b]? = some (.cells cs t (0,0))) :
  w2.heap[b]? = some (.cells cs t (0,0)):=by
 obtain⟨c6,hc6,hAF6⟩:=wP hWR (hle b b ⟨rfl,List.mem_append_right _ hm⟩) hn hl;rw[CX (sQ hWR hle) hAF6 (fun v hv=>.flat (uU (hc v hv)))]at hc6;exact hc6
theorem KG.after (X:yD V wA p k ts vv rv s st b4 b5 b6 b7 c g cap D cur) (hE:KG wA D E D1 wr1 w) (hk:yY c D1 wr1 w w2) (hWR:WR Tryd.prog.globals.size R' (wX (dK b4 b5 b7 c g D E)) wl w2) (hle:le (iq (dK b4 b5 b7 c g D E ++ WW)) R') :
  KG wA D E D1 (fun b=>wr1 b\/own (wX (dK b4 b5 b7 c g D E)) R' b) w2:=⟨fun e he=>by
 obtain⟨q1,q2,q3,t',q4,q5⟩:=hE.obj e he;refine⟨q1,fun h=>?_,q3,t',q4,(kY (hk.keep e (lt_of_heap q5) q1 q2) (by rintro rfl;have:=X.RU;omega)).trans q5⟩;rcases h with h|⟨y,hy,hny⟩
 ·exact q2 h
 ·have hm:e∈dK b4 b5 b7 c g D E:=by simp [dK,he]
  have:=hWR.inj y e e hy (hle e e ⟨rfl,List.mem_append_left _ hm⟩);subst this;exact hny hm⟩
structure Zo (wA:World) (b6 bo:Nat) (acc:Int × Int) (wr1:Nat->Prop) (w:World):Prop where
 wr:wr1 bo
 ge:wA.heap.size<=bo
 obj:w.heap[bo]? = some (.cells #[.int .i64 acc.1,.int .i64 acc.2] 27 (0,0))
theorem Zo.rely (X:yD V wA p k ts vv rv s st b4 b5 b6 b7 c g cap D cur) (h:Zo wA b6 bo acc wr1 w) (hr:dn c (sK D1 wr1) w w1):Zo wA b6 bo acc wr1 w1 :=
 ⟨h.wr,h.ge,(kY (hr.keep bo (.inr h.wr)) (by rintro rfl;have:=X.RU;have:=h.ge;omega)).trans h.obj⟩
theorem aa3 (X:yD V wA p k ts vv rv s st b4 b5 b6 b7 c g cap D cur) (I:FT wA b6 c D1 wr1 w) (O:Zo wA b6 bo acc wr1 w) (hG:Wg.gN<=wA.heap.size):PhW wA [b6,bo] wr1 w:=⟨fun b hb=>by
 simp only[List.mem_cons,List.not_mem_nil,or_false]at hb;rcases hb with rfl|rfl
 ·exact⟨I.w6,X.ge.2.2.1,_,_,I.h6,by simp[iL]⟩
 ·exact⟨O.wr,Nat.le_trans hG O.ge,_,_,O.obj,by simp[iL]⟩⟩
theorem pJ (X:yD V wA p k ts vv rv s st b4 b5 b6 b7 c g cap D cur) {n i j:Nat} {x10 x18 x19 x20 x21 x22 x26 x27 x28 x29 x30 x31:Value} (h6:b6∈WW) (ho:bo∈WW) (hx:∀ v∈[x10,x18,x19,x20,x21,x22,x26,x27,x28,x29,x30,x31],VR (iq (dK b4 b5 b7 c g D E ++ WW)) v v) :
  ∀ v∈wE p s st b4 b5 b6 b7 c bo (.slice (some ⟨g,0,none⟩) n cap) n i j x10 x18 x19 x20 x21 x22 x26 x27 x28 x29 x30 x31,VR (iq (dK b4 b5 b7 c g D E ++ WW)) v v:=by
 have hu:VR (iq (dK b4 b5 b7 c g D E ++ WW)) undef undef:=.of_flat rfl;have hp:VR (iq (dK b4 b5 b7 c g D E ++ WW)) (ptr p) (ptr p):=bJ (.ptr (by simp[dK,X.pD]));have hst:VR (iq (dK b4 b5 b7 c g D E ++ WW)) (.agg (dJ s).toArray) (.agg (dJ s).toArray):=bJ (.agg fun v hv=>uU (yL s v (by simpa using hv)));have hb:VR (iq (dK b4 b5 b7 c g D E ++ WW)) (.bool st) (.bool st):=.of_flat rfl;have h4:VR (iq (dK b4 b5 b7 c g D E ++ WW)) (ptr b4) (ptr b4):=bJ (.ptr (by simp[dK]));have h5:VR (iq (dK b4 b5 b7 c g D E ++ WW)) (ptr b5) (ptr b5):=bJ (.ptr (by simp[dK]));have h6':VR (iq (dK b4 b5 b7 c g D E ++ WW)) (ptr b6) (ptr b6):=bJ (.ptr (by simp[h6]));have ho':VR (iq (dK b4 b5 b7 c g D E ++ WW)) (ptr bo) (ptr bo):=bJ (.ptr (by simp[ho]));have h7:VR (iq (dK b4 b5 b7 c g D E ++ WW)) (ptr b7) (ptr b7):=bJ (.ptr (by simp[dK]));have hsl:VR (iq (dK b4 b5 b7 c g D E ++ WW)) (.slice (some ⟨g,0,none⟩) n cap) (.slice (some ⟨g,0,none⟩) n cap):=bJ (.slice (by simp[dK]));have hc:VR (iq (dK b4 b5 b7 c g D E ++ WW)) (.chan (some c)) (.chan (some c)):=bJ (.chan (by simp[dK]));have hn:VR (iq (dK b4 b5 b7 c g D E ++ WW)) (.int .i64 n) (.int .i64 n):=.of_flat rfl;have hi:VR (iq (dK b4 b5 b7 c g D E ++ WW)) (.int .i64 i) (.int .i64 i):=.of_flat rfl;have hj:VR (iq (dK b4 b5 b7 c g D E ++ WW)) (.int .i64 j) (.int .i64 j):=.of_flat rfl;simp only[List.mem_cons,List.not_mem_nil,or_false,forall_eq_or_imp,forall_eq]at hx;obtain⟨y10,y18,y19,y20,y21,y22,y26,y27,y28,y29,y30,y31⟩:=hx;intro v hv;simp only[wE,List.mem_toArray,List.mem_cons,List.not_mem_nil,or_false]at hv;rcases hv with rfl|rfl|rfl|rfl|rfl|rfl|rfl|rfl|rfl|rfl|rfl|rfl|rfl|rfl|rfl|rfl|rfl|rfl|rfl|rfl|rfl|rfl|rfl|rfl|rfl|rfl|rfl|rfl|rfl|rfl|rfl|rfl|rfl;all_goals assumption
theorem JB (X:yD V wA p k ts vv rv s st b4 b5 b6 b7 c g cap D cur) (I:FT wA b6 c D1 wr1 w) (hE:KG wA D E D1 wr1 w) {acc':Int × Int} (O:Zo wA b6 bo acc wr1 w) (hG:Wg.gN<=wA.heap.size) (hh:ay OC w)
 {tm tm':Array Value} {todo tgt:List Item} (hit:todo.all aa9=true) (hself:∀ v∈tm,VR (iq (dK b4 b5 b7 c g D E ++ [b6,bo])) v v) (hself':∀ v∈tm',VR (iq (dK b4 b5 b7 c g D E ++ [b6,bo])) v v) {b:Frame} (hbf:b.fn=97) (hbk:b.kind=.normal) {cs:List Frame} {vs:List Value} {Q:wY}
  (hrun:∀ (VL:View) (w0:World),VL.In w0->VL b6=none->VL bo=none->w0.heap[b6]? = some (.cells #[.int .i64 0,.int .i64 0] 27 (0,0))->w0.heap[bo]? = some (.cells #[.int .i64 acc.1,.int .i64 acc.2] 27 (0,0))->VL.Cell b7 0 (.chan (some c)) ->
   fA Tryd.prog tgt (fun a w'=>a=⟨tm',[]⟩/\w'.heap[b6]? = some (.cells #[.int .i64 0,.int .i64 0] 27 (0,0))/\w'.heap[bo]? = some (.cells #[.int .i64 acc'.1,.int .i64 acc'.2] 27 (0,0))) todo ⟨tm,[]⟩ w0)
  (hk:∀ wr2 w2,FT wA b6 c D1 wr2 w2->KG wA D E D1 wr2 w2->Zo wA b6 bo acc' wr2 w2->oK Tryd.prog c D1 wr2 vs (G (b.at ⟨tm',[]⟩ tgt) cs) w2 Q) :
  oK Tryd.prog c D1 wr1 vs (G (b.at ⟨tm,[]⟩ todo) cs) w Q:=by
 have hW:=aa3 X I O hG;have hseg:=LM X I hE hW hG;have n6:b6 ∉ dK b4 b5 b7 c g D E:=hseg.dis b6 (by simp);have no:bo ∉ dK b4 b5 b7 c g D E:=hseg.dis bo (by simp);refine DL (tgt:=tgt) X I hE hW hG hh hit hself hbf hbk (S:=fun a w'=>a=⟨tm',[]⟩/\w'.heap[b6]? = some (.cells #[.int .i64 0,.int .i64 0] 27 (0,0))/\w'.heap[bo]? = some (.cells #[.int .i64 acc'.1,.int .i64 acc'.2] 27 (0,0))) (fun _ _ _ _ h=>h) (fun τ d=>?_) ?_
 ·refine hrun (lv (dK b4 b5 b7 c g D E) [] w) _ (Ny _ [] w τ d) (by simp [lv,n6]) (by simp [lv,no]) ?_ ?_ (Jb (by simp [dK]) (I.view X b7 _ X.v7) rfl)
  ·show(oU (dK b4 b5 b7 c g D E) w).heap[b6]? = _;rw[Ap (WW:=[]) n6];exact I.h6
  ·show(oU (dK b4 b5 b7 c g D E) w).heap[bo]? = _;rw[Ap (WW:=[]) no];exact O.obj
 ·rintro R' a' a2 wl w2 ⟨rfl,h6l,hol⟩ hle hAF hdf hWR hkept hfr;have hfx:=sQ hWR hle;have htm:=CW hAF (LG (fun v hv=>hself' v (by simpa using hv)) hfx);obtain⟨tmps2,defers2⟩:=a2;simp only[Array.toArray_toList]at hdf htm;subst hdf;subst htm;refine hk _ _ (I.after X hkept hfr (AP hWR hle (by simp) n6 (by simp[iL]) h6l)) (hE.after X hkept hWR hle) ⟨.inl O.wr,O.ge,AP hWR hle (by simp) no (by simp[iL]) hol⟩
end
def Ai:Value->Int × Int
 |.agg ⟨[.int _ a,.int _ b]⟩=>(a,b)
 |_=>(0,0)
theorem Bf (x:Int × Int):Ai (aJ x)=x:=rfl
theorem Sv {l:List (Int × Int)} {v:Value} {rest:List Value} (h:(l.map aJ).Perm (v::rest)):∃ x l',v=aJ x/\rest=l'.map aJ/\l.Perm (x::l'):=by
 have hm:∀ u∈v::rest,aJ (Ai u)=u:=fun u hu=>by
  obtain⟨x,_,rfl⟩:=List.mem_map.1 (h.mem_iff.2 hu);rw[Bf]
 refine⟨Ai v,rest.map Ai,(hm v (by simp)).symm,?_,?_⟩
 ·rw [List.map_map];conv=>lhs;rw [<- List.map_id rest]
  exact List.map_congr_left fun u hu=>(hm u (by simp[hu])).symm
 ·have:=h.map Ai;rw [List.map_map] at this;have e:l.map (Ai ∘ aJ)=l:=by
   conv=>rhs;rw[<- List.map_id l]
   exact List.map_congr_left fun u _=>Bf u
  rw[e]at this;exact this
section
variable {j:Nat} {l:List (Int × Int)} {acc:Int × Int}
variable {V:View} {wA w w1 w2:World} {p:Nat} {k:Wk} {ts:List Nat} {vv rv:Value} {s:SS} {st:Bool} {b4 b5 b6 b7 c g cap bo:Nat} {D:List Nat} {cur:Array Value} {D1 wr1 x:Nat->Prop} {E WW:List Nat}
structure XB (V:View) (wA:World) (k:Wk) (s:SS) (st:Bool) (b4 b5 b6 b7 c g:Nat) (D E:List Nat) (bo j:Nat) (D1 wr1:Nat->Prop) (l:List (Int × Int)) (acc:Int × Int) (w:World):Prop where
 I:FT wA b6 c D1 wr1 w
 e:KG wA D E D1 wr1 w
 o:Zo wA b6 bo acc wr1 w
 len:j+l.length=k.sources.length
 sum:dX acc (CJ l)=dW k s st
 bl:∀ x∈l,Pb 11764900 x
 ba:Pb (11764900 * j) acc
theorem XB.rely (X:yD V wA p k ts vv rv s st b4 b5 b6 b7 c g cap D cur) (h:XB V wA k s st b4 b5 b6 b7 c g D E bo j D1 wr1 l acc w) (hr:dn c (sK D1 wr1) w w1):XB V wA k s st b4 b5 b6 b7 c g D E bo j D1 wr1 l acc w1 :=
 ⟨h.I.rely X hr,h.e.rely X hr,h.o.rely X hr,h.len,h.sum,h.bl,h.ba⟩
theorem Oq (X:yD V wA p k ts vv rv s st b4 b5 b6 b7 c g cap D cur) (hG:Wg.gN<=wA.heap.size) {b:Frame} (hbf:b.fn=97) (hbk:b.kind=.normal) {cs:List Frame} {Q:wY} (hL:XB V wA k s st b4 b5 b6 b7 c g D E bo j D1 wr1 l acc w) (hj:j<k.sources.length)
 {x10 x18 x19 x20 x21 x22 x26 x27 x29 x30 x31:Value} (hx:∀ v∈[x10,x18,x19,x20,x21,x22,x26,x27,.chan (some c),x29,x30,x31],VR (iq (dK b4 b5 b7 c g D E ++ [b6,bo])) v v) {r:List Nat} (hr5:(r=[3,4]/\x27=aJ acc)\/r=[0,3,4])
  (hk:∀ wr2 w2 x l',XB V wA k s st b4 b5 b6 b7 c g D E bo (j+1) D1 wr2 l' (dX acc x) w2->oK Tryd.prog c D1 wr2 (l'.map aJ) (G (b.at ⟨wE p s st b4 b5 b6 b7 c bo (.slice (some ⟨g,0,none⟩) k.sources.length cap) k.sources.length k.sources.length (j+1) x10 x18 x19 x20 x21 x22 x26 (aJ acc) (.chan (some c)) (aJ x) (aJ (dX acc x)) (.int .i64 ((j+1:Nat):Int)),[]⟩ head2) cs) w2 Q) :
  oK Tryd.prog c D1 wr1 (l.map aJ) (G (b.at ⟨wE p s st b4 b5 b6 b7 c bo (.slice (some ⟨g,0,none⟩) k.sources.length cap) k.sources.length k.sources.length j x10 x18 x19 x20 x21 x22 x26 x27 (.chan (some c)) x29 x30 x31,[]⟩ (Au (2::r))) cs) w Q:=by
 have hn6:=X.n6;have hlen:=hL.len;obtain⟨z,hz⟩:=PW (o:=KC[2]!) (a:=⟨wE p s st b4 b5 b6 b7 c bo (.slice (some ⟨g,0,none⟩) k.sources.length cap) k.sources.length k.sources.length j x10 x18 x19 x20 x21 x22 x26 x27 (.chan (some c)) x29 x30 x31,[]⟩) (x:=.tmp 28) (c:=c) rfl rfl;refine Xb rfl (fun h=>?_) fun w1 hr1=>⟨_,z,_,stepG_comm (i:=2) (o:=KC[2]!) rfl rfl (by simp[hbk]) (hz w1),?_,fun v rest hperm w2 hr2=>?_⟩
 ·have:l.length=0:=by simpa using congrArg List.length h
  omega
 ·intro e he;unfold listed at he;rw[F9 (x:=.tmp 28) rfl,seen_none]at he;simp at he
 ·obtain ⟨x,l',rfl,rfl,hpl⟩:=Sv hperm;have hL2:=(hL.rely X hr1).rely X hr2;have hll:l.length=l'.length+1:=by simpa using hpl.length_eq
  have hbx:Pb 11764900 x:=hL.bl x (hpl.mem_iff.2 (by simp));show oK Tryd.prog c D1 wr1 _ (G (b.at ⟨wE p s st b4 b5 b6 b7 c bo (.slice (some ⟨g,0,none⟩) k.sources.length cap) k.sources.length k.sources.length j x10 x18 x19 x20 x21 x22 x26 x27 (.chan (some c)) (aJ x) x30 x31,[]⟩ (Au r)) cs) w2 Q;refine tV fun w3 hr3 hh3 _=>?_
  have hL3:=hL2.rely X hr3;have hsp:∀ q:Int × Int,VR (iq (dK b4 b5 b7 c g D E ++ [b6,bo])) (aJ q) (aJ q):=fun q=>bJ (.agg fun v hv=>by
   have:v=.int .i64 q.1\/v=.int .i64 q.2:=by simpa using hv
   rcases this with rfl|rfl<;>rfl)
  have hx1:∀ v∈[x10,x18,x19,x20,x21,x22,x26,x27,.chan (some c),aJ x,x30,x31],VR (iq (dK b4 b5 b7 c g D E ++ [b6,bo])) v v:=fun v hv=>by
   simp only[List.mem_cons,List.not_mem_nil,or_false]at hv;rcases hv with rfl|rfl|rfl|rfl|rfl|rfl|rfl|rfl|rfl|rfl|rfl|rfl;all_goals first|exact hsp _|exact hx _ (by simp)
  have hx2:∀ v∈[x10,x18,x19,x20,x21,x22,x26,aJ acc,.chan (some c),aJ x,aJ (dX acc x),.int .i64 ((j+1:Nat):Int)],VR (iq (dK b4 b5 b7 c g D E ++ [b6,bo])) v v:=fun v hv=>by
   simp only[List.mem_cons,List.not_mem_nil,or_false]at hv;rcases hv with rfl|rfl|rfl|rfl|rfl|rfl|rfl|rfl|rfl|rfl|rfl|rfl;all_goals first|exact .of_flat rfl|exact hsp _|exact hx _ (by simp)
  have hba:Pb 100000000000 acc:=hL3.ba.mono zw;refine JB (acc':=dX acc x) (tgt:=head2) X hL3.I hL3.e hL3.o hG hh3 (QW r) (pJ (bo:=bo) X (by simp) (by simp) hx1) (pJ (n:=k.sources.length) (i:=k.sources.length) (bo:=bo) (j:=j+1) X (by simp) (by simp) hx2) hbf hbk (fun VL w0 hVL h6n hon h6 ho h7=>?_) fun wr2 w4 I4 E4 O4=>?_
  ·refine (aaQ p s st b4 b5 b6 b7 c bo k.sources.length k.sources.length j acc x _ x10 x18 x19 x20 x21 x22 x26 x27 _ x30 x31 hj hn6 hba (hbx.mono zw) ho hon hVL r hr5).mono ?_;rintro a w' ⟨rfl,hS⟩;have hb6:b6≠bo:=by
    have:=X.XG;have:=hL3.o.ge;omega
   exact⟨rfl,(hS.old b6 (lt_of_heap h6) (by simp[hb6])).trans h6,hS.dR⟩
  ·refine hk wr2 w4 x l' ⟨I4,E4,O4,by omega,?_,fun y hy=>hL.bl y (hpl.mem_iff.2 (by simp [hy])),?_⟩
   ·have h1:=hL.sum;rw[H9 hpl,kT]at h1;rw[<- h1];unfold dX;simp only[Prod.mk.injEq];omega
   ·have:=hL3.ba.both hbx;refine this.mono ?_;omega
theorem aaA (X:yD V wA p k ts vv rv s st b4 b5 b6 b7 c g cap D cur) (hG:Wg.gN<=wA.heap.size) {b:Frame} (hbf:b.fn=97) (hbk:b.kind=.normal) {cs:List Frame} {Q:wY}
  (hend:∀ wr1 w x10 x18 x19 x20 x21 x22 x26 x27 x28 x29 x30 x31,XB V wA k s st b4 b5 b6 b7 c g D E bo k.sources.length D1 wr1 [] (dW k s st) w->(∀ v∈[x10,x18,x19,x20,x21,x22,x26,x27,x28,x29,x30,x31],VR (iq (dK b4 b5 b7 c g D E ++ [b6,bo])) v v) ->
   oK Tryd.prog c D1 wr1 [] (G (b.at ⟨wE p s st b4 b5 b6 b7 c bo (.slice (some ⟨g,0,none⟩) k.sources.length cap) k.sources.length k.sources.length k.sources.length x10 x18 x19 x20 x21 x22 x26 x27 x28 x29 x30 x31,[]⟩ head2) cs) w Q) :
  ∀ (m j:Nat),j+m=k.sources.length->∀ wr1 w x10 x18 x19 x20 x21 x22 x26 x27 x28 x29 x30 x31 l acc,XB V wA k s st b4 b5 b6 b7 c g D E bo j D1 wr1 l acc w->(∀ v∈[x10,x18,x19,x20,x21,x22,x26,x27,x28,x29,x30,x31],VR (iq (dK b4 b5 b7 c g D E ++ [b6,bo])) v v) ->
   oK Tryd.prog c D1 wr1 (l.map aJ) (G (b.at ⟨wE p s st b4 b5 b6 b7 c bo (.slice (some ⟨g,0,none⟩) k.sources.length cap) k.sources.length k.sources.length j x10 x18 x19 x20 x21 x22 x26 x27 x28 x29 x30 x31,[]⟩ head2) cs) w Q:=by
 intro m
 induction m with
 | zero =>
  intro j hj wr1 w x10 x18 x19 x20 x21 x22 x26 x27 x28 x29 x30 x31 l acc hL hx;obtain rfl:j=k.sources.length:=by omega
  have hl:l=[]:=List.length_eq_zero_iff.1 (by have:=hL.len;omega);subst hl;have e:acc=dW k s st:=by
   rw[<- hL.sum];unfold dX CJ;simp
  subst e;exact hend wr1 w x10 x18 x19 x20 x21 x22 x26 x27 x28 x29 x30 x31 hL hx
 | succ m ih =>
  intro j hj wr1 w x10 x18 x19 x20 x21 x22 x26 x27 x28 x29 x30 x31 l acc hL hx;have hlt:j<k.sources.length:=by omega
  refine tV fun w1 hr1 hh1 _=>?_
  replace hL:=hL.rely X hr1;clear hr1 w;simp only[List.mem_cons,List.not_mem_nil,or_false,forall_eq_or_imp,forall_eq]at hx;obtain⟨y10,y18,y19,y20,y21,y22,y26,y27,y28,y29,y30,y31⟩:=hx;have yt:VR (iq (dK b4 b5 b7 c g D E ++ [b6,bo])) (.bool true) (.bool true):=.of_flat rfl;have yc:VR (iq (dK b4 b5 b7 c g D E ++ [b6,bo])) (.chan (some c)) (.chan (some c)):=bJ (.chan (by simp[dK]));have ys:VR (iq (dK b4 b5 b7 c g D E ++ [b6,bo])) (aJ acc) (aJ acc):=bJ (.agg fun v hv=>by
   have:v=.int .i64 acc.1\/v=.int .i64 acc.2:=by simpa using hv
   rcases this with rfl|rfl<;>rfl)
  refine JB (acc':=acc) (tgt:=ZY) X hL.I hL.e hL.o hG hh1 Lr (pJ (bo:=bo) X (by simp) (by simp) (x26:=x26) (x27:=x27) (x28:=x28) (x29:=x29) (x30:=x30) (x31:=x31) (by simp only[List.mem_cons,List.not_mem_nil,or_false,forall_eq_or_imp,forall_eq];exact⟨y10,y18,y19,y20,y21,y22,y26,y27,y28,y29,y30,y31⟩))
   (pJ (n:=k.sources.length) (i:=k.sources.length) (bo:=bo) (j:=j) X (by simp) (by simp) (x10:=x10) (x18:=x18) (x19:=x19) (x20:=x20) (x21:=x21) (x22:=x22) (x26:=.bool true) (x27:=x27) (x28:=x28) (x29:=x29) (x30:=x30) (x31:=x31) (by simp only[List.mem_cons,List.not_mem_nil,or_false,forall_eq_or_imp,forall_eq];exact⟨y10,y18,y19,y20,y21,y22,yt,y27,y28,y29,y30,y31⟩)) hbf hbk (fun VL w0 hVL h6n hon h6 ho h7=>?_) fun wr2 w2 I2 E2 O2=>?_
  ·refine(abx p s st b4 b5 b6 b7 c bo k.sources.length k.sources.length j _ x10 x18 x19 x20 x21 x22 x26 x27 x28 x29 x30 x31 hlt X.n6 w0 hVL).mono ?_;rintro a w' ⟨rfl,hS⟩;exact⟨rfl,(hS.bM.old b6 (lt_of_heap h6)).trans h6,(hS.bM.old bo (lt_of_heap ho)).trans ho⟩
  ·show oK Tryd.prog c D1 wr2 (l.map aJ) (G (b.at ⟨wE p s st b4 b5 b6 b7 c bo (.slice (some ⟨g,0,none⟩) k.sources.length cap) k.sources.length k.sources.length j x10 x18 x19 x20 x21 x22 (.bool true) x27 x28 x29 x30 x31,[]⟩ (.code (.region 11 KC true)::[.inBlock 3,.code R12,.inLoop L2,.inBlock 2,.code K13])) cs) w2 Q;refine WA fun l0 hl0=>?_
   rw[Vj]at hl0;simp only[List.mem_cons,List.not_mem_nil,or_false]at hl0;have hL2:XB V wA k s st b4 b5 b6 b7 c g D E bo j D1 wr2 l acc w2:=⟨I2,E2,O2,hL.len,hL.sum,hL.bl,hL.ba⟩;refine tV fun w3 hr3 hh3 _=>?_
   have hL3:=hL2.rely X hr3;have y5:VR (iq (dK b4 b5 b7 c g D E ++ [b6,bo])) (x5 l0 acc x27) (x5 l0 acc x27):=by
    unfold x5;split<;>assumption
   show oK Tryd.prog c D1 wr2 (l.map aJ) (G (b.at ⟨wE p s st b4 b5 b6 b7 c bo (.slice (some ⟨g,0,none⟩) k.sources.length cap) k.sources.length k.sources.length j x10 x18 x19 x20 x21 x22 (.bool true) x27 x28 x29 x30 x31,[]⟩ (Au l0)) cs) w3 Q;refine JB (acc':=acc) (tgt:=Au (2::l5 l0)) X hL3.I hL3.e hL3.o hG hh3 (QW l0) (pJ (bo:=bo) X (by simp) (by simp) (x26:=.bool true) (x27:=x27) (x28:=x28) (x29:=x29) (x30:=x30) (x31:=x31) (by simp only[List.mem_cons,List.not_mem_nil,or_false,forall_eq_or_imp,forall_eq];exact⟨y10,y18,y19,y20,y21,y22,yt,y27,y28,y29,y30,y31⟩))
    (pJ (n:=k.sources.length) (i:=k.sources.length) (bo:=bo) (j:=j) X (by simp) (by simp) (x10:=x10) (x18:=x18) (x19:=x19) (x20:=x20) (x21:=x21) (x22:=x22) (x26:=.bool true) (x27:=x5 l0 acc x27) (x28:=.chan (some c)) (x29:=x29) (x30:=x30) (x31:=x31) (by simp only[List.mem_cons,List.not_mem_nil,or_false,forall_eq_or_imp,forall_eq];exact⟨y10,y18,y19,y20,y21,y22,yt,y5,yc,y29,y30,y31⟩)) hbf hbk (fun VL w0 hVL h6n hon h6 ho h7=>?_) fun wr4 w4 I4 E4 O4=>?_
   ·refine(abu p s st b4 b5 b6 b7 c bo k.sources.length k.sources.length j acc _ x10 x18 x19 x20 x21 x22 _ x27 x28 x29 x30 x31 l0 hl0 h7 (lK (cs:=[.int .i64 acc.1,.int .i64 acc.2]) (n:=2) ho rfl) hVL).mono ?_;rintro a w' ⟨rfl,rfl⟩;exact⟨rfl,h6,ho⟩
   ·refine Oq (r:=l5 l0) X hG hbf hbk ⟨I4,E4,O4,hL.len,hL.sum,hL.bl,hL.ba⟩ hlt (by simp only [List.mem_cons,List.not_mem_nil,or_false,forall_eq_or_imp,forall_eq];exact ⟨y10,y18,y19,y20,y21,y22,yt,y5,yc,y29,y30,y31⟩) ?_ fun wr5 w5 x l' h5=>?_
    ·rcases hl0 with rfl | rfl | rfl
     ·exact .inl ⟨rfl,rfl⟩
     ·exact .inl ⟨rfl,rfl⟩
     ·exact .inr rfl
    ·refine ih (j+1) zw wr5 w5 _ _ _ _ _ _ _ _ _ _ _ _ l' _ h5 ?_;have hsp:∀ q:Int × Int,VR (iq (dK b4 b5 b7 c g D E ++ [b6,bo])) (aJ q) (aJ q):=fun q=>bJ (.agg fun v hv=>by
      have:v=.int .i64 q.1\/v=.int .i64 q.2:=by simpa using hv
      rcases this with rfl|rfl<;>rfl)
     simp only[List.mem_cons,List.not_mem_nil,or_false,forall_eq_or_imp,forall_eq];exact⟨y10,y18,y19,y20,y21,y22,yt,ys,yc,hsp _,hsp _,.of_flat rfl⟩
end
section
variable {b:Frame} {cs:List Frame} {x10 x18 x19 x20 x21 x22:Value}
variable {V:View} {wA w w1 w2:World} {p:Nat} {k:Wk} {ts:List Nat} {vv rv:Value} {s:SS} {st:Bool} {b4 b5 b6 b7 c g cap bo:Nat} {D:List Nat} {cur:Array Value} {D1 wr1 x:Nat->Prop} {E WW:List Nat}
def XE (wA:World) (k:Wk) (s:SS) (st:Bool) (b6 c:Nat) (b:Frame) (cs:List Frame):wY:=fun _ _ vs a w =>
 vs=[]/\∃ a':Act,a=G (b.at a' [.code .ret]) cs/\a'.defers=[]/\a'.tmps.getD 6 undef=ptr b6/\w.heap[b6]? = some (.cells #[.int .i64 (dW k s st).1,.int .i64 (dW k s st).2] 27 (0,0)) /\
  (∀ b,b<wA.heap.size->b≠b6->b≠c->w.heap[b]? = wA.heap[b]?)/\wA.heap.size<=w.heap.size/\w.os=wA.os/\w.output=wA.output
theorem XM (X:yD V wA p k ts vv rv s st b4 b5 b6 b7 c g cap D cur) (hG:Wg.gN<=wA.heap.size) (hbf:b.fn=97) (hbk:b.kind=.normal) {x26 x27 x28 x29 x30 x31:Value}
 (hL:XB V wA k s st b4 b5 b6 b7 c g D E bo k.sources.length D1 wr1 [] (dW k s st) w) (hx:∀ v∈[x10,x18,x19,x20,x21,x22,x26,x27,x28,x29,x30,x31],VR (iq (dK b4 b5 b7 c g D E ++ [b6,bo])) v v) :
  oK Tryd.prog c D1 wr1 [] (G (b.at ⟨wE p s st b4 b5 b6 b7 c bo (.slice (some ⟨g,0,none⟩) k.sources.length cap) k.sources.length k.sources.length k.sources.length x10 x18 x19 x20 x21 x22 x26 x27 x28 x29 x30 x31,[]⟩ head2) cs) w (XE wA k s st b6 c b cs):=by
 refine tV fun w1 hr1 hh1 _=>?_
 replace hL:=hL.rely X hr1;clear hr1;have hW:=aa3 X hL.I hL.o hG;have hseg:=LM X hL.I hL.e hW hG;have n6:b6 ∉ dK b4 b5 b7 c g D E:=hseg.dis b6 (by simp);have no:bo ∉ dK b4 b5 b7 c g D E:=hseg.dis bo (by simp);have h6o:b6≠bo:=by
  have:=X.XG;have:=hL.o.ge;omega
 refine DL (tgt:=[.code .ret]) X hL.I hL.e hW hG hh1 Lr (pJ X (by simp) (by simp) hx) hbf hbk
  (S:=fun a w'=>a.tmps[6]? = some (ptr b6)/\w'.heap[b6]? = some (.cells #[.int .i64 (dW k s st).1,.int .i64 (dW k s st).2] 27 (0,0))) (fun _ _ _ _ h=>h) (fun τ d=>?_) ?_
 ·obtain ⟨VL,hVL⟩:∃ VL:View,VL=fun i=>if i=b6 then none else lv (dK b4 b5 b7 c g D E) [b6,bo] w1 i:=⟨_,rfl⟩
  have hin:VL.In ((oU (dK b4 b5 b7 c g D E) w1).re τ d):=fun i o h=>by
   subst hVL;simp only at h;split at h
   ·cases h
   ·exact Ny _ _ w1 τ d i o h
  have hr:VL.Range bo 0 [.int .i64 (dW k s st).1,.int .i64 (dW k s st).2]:=fun i v hi=>by
   have h1:(lv (dK b4 b5 b7 c g D E) [b6,bo] w1).Cell bo i v:=Jb (by simp) hL.o.obj (by simpa using hi);obtain⟨cs',t',f',h2,h3⟩:=h1;refine⟨cs',t',f',?_,by rw[Nat.zero_add];exact h3⟩;subst hVL;simp only[Ne.symm h6o,if_false];exact h2
  have h6l:((oU (dK b4 b5 b7 c g D E) w1).re τ d).heap[b6]? = some (.cells #[.int .i64 0,.int .i64 0] 27 (0,0)):=by
   show(oU (dK b4 b5 b7 c g D E) w1).heap[b6]? = _;rw[Ap (WW:=[]) n6];exact hL.I.h6
  refine(abk p s st b4 b5 b6 b7 c bo k.sources.length k.sources.length (dW k s st) _ x10 x18 x19 x20 x21 x22 x26 x27 x28 x29 x30 x31 X.n6 h6l (by subst hVL;simp) hr hin).mono ?_;rintro a w' ⟨⟨x26',x32',rfl⟩,hS⟩;exact⟨rfl,hS.dR⟩
 ·rintro R' a' a2 wl w2 ⟨h6t,h6l⟩ hle hAF hdf hWR hkept hfr;refine tV fun w3 hr3 _ _=>Wn fun w4 hr4=>⟨rfl,a2,rfl,hdf,?_,?_,fun i h1 h2 h3=>?_,?_,?_,?_⟩
  ·have:=aag (sQ hWR hle) hAF h6t (.ptr (by simp));rw[Array.getD_eq_getD_getElem?,this];rfl
  ·have h1:=AP hWR hle (b:=b6) (by simp) n6 (by simp[iL]) h6l;have w6:wr1 b6\/own (wX (dK b4 b5 b7 c g D E)) R' b6:=.inl hL.I.w6;exact((kY (hr4.keep b6 (.inr w6)) X.WE).trans (kY (hr3.keep b6 (.inr w6)) X.WE)).trans h1
  ·have hn:¬ wr1 i:=fun h=>by
    rcases hL.I.low i h with h|h
    ·exact h2 h
    ·omega
   have hd:=hL.I.rd i h1 h2;exact((kY (hr4.keep i (.inl hd)) h3).trans (kY (hr3.keep i (.inl hd)) h3)).trans ((kY (hkept.keep i (Nat.lt_of_lt_of_le h1 hL.I.size) hd hn) h3).trans (hL.I.kept i h1 h2 h3))
  ·exact Nat.le_trans hL.I.size (Nat.le_trans hkept.size (Nat.le_trans hr3.size hr4.size))
  ·exact hr4.os.trans (hr3.os.trans (hkept.os.trans hL.I.os))
  ·exact hr4.output.trans (hr3.output.trans (hkept.output.trans hL.I.out))
theorem XL (X:yD V wA p k ts vv rv s st b4 b5 b6 b7 c g cap D cur) (hG:Wg.gN<=wA.heap.size) (hbf:b.fn=97) (hbk:b.kind=.normal)  
 (I:FT wA b6 c D1 wr1 w) (hE:KG wA D E D1 wr1 w) (h22:Sr.flat x22=true) (hx:∀ v∈[x10,x18,x19,x20,x21,x22],VR (iq (dK b4 b5 b7 c g D E ++ [b6])) v v) :
  oK Tryd.prog c D1 wr1 (wC k s st k.sources.length) (G (b.at ⟨iU p s st b4 b5 b6 b7 c (.slice (some ⟨g,0,none⟩) k.sources.length cap) k.sources.length k.sources.length x10 x18 x19 x20 x21 x22,[]⟩ yP) cs) w (XE wA k s st b6 c b cs):=by
 refine tV fun w1 hr1 hh1 hc1=>?_
 replace I:=I.rely X hr1;replace hE:=hE.rely X hr1;clear hr1 hc1;have hW:=ph6 X I;have hn6:=Jg X I hE hG;have hlts:=LK X I hE hW hG;have sf:=yG (E:=E) (WW:=[b6]) (n:=k.sources.length) (i:=k.sources.length) X (by simp) hx;refine DL (tgt:=head2) X I hE hW hG hh1 Mc sf hbf hbk
  (S:=fun a w'=>∃ bl,a=⟨wE p s st b4 b5 b6 b7 c bl (.slice (some ⟨g,0,none⟩) k.sources.length cap) k.sources.length k.sources.length 0 x10 (.bool false) x19 x20 x21 x22 undef undef undef undef undef undef,[]⟩ /\
   w'.heap[bl]? = some (.cells #[.int .i64 0,.int .i64 0] 27 (0,0))/\w1.heap.size<=bl/\w'.heap[b6]? = some (.cells #[.int .i64 0,.int .i64 0] 27 (0,0)))
  (fun _ _ _ _ h=>h) (fun τ d=>?_) ?_
 ·refine (abw p s st b4 b5 b6 b7 c g cap k.sources.length x10 x18 x19 x20 x21 x22 X.n6 _ (Ny (dK b4 b5 b7 c g D E) [b6] w1 τ d)).mono ?_;rintro a w' ⟨bl,rfl,hS⟩;have hl6:(lv (dK b4 b5 b7 c g D E) [b6] w1) b6=some (.cells #[.int .i64 0,.int .i64 0] 27 (0,0)):=by
   simp only[lv,List.mem_append,List.mem_singleton,or_true,if_true];rw[Ap (WW:=[]) hn6];exact I.h6
  have hb:=(hS.new (.blk bl 27 [.int .i64 0,.int .i64 0]) (by simp) bl rfl).elim id (fun h=>nomatch h);refine⟨bl,rfl,hS.dR,?_,hS.view _ _ hl6⟩;have e:((oU (dK b4 b5 b7 c g D E) w1).re τ d).heap.size=w1.heap.size:=oJ _ _;omega
 ·rintro R' a' a2 wl w2 ⟨bl,rfl,hbl,lbl,h6l⟩ hle hAF hdf hWR hkept hfr;have hfx:=sQ hWR hle;obtain ⟨v11,hv11,r11⟩:=hAF.2 11 (ptr bl) rfl;obtain ⟨bo,rfl,rbo⟩:=Iq r11;have nD:¬ wX (dK b4 b5 b7 c g D E) bl:=fun h=>by
   have:=hlts bl h;omega
  obtain⟨c',hc',hAF1⟩:=wP hWR rbo nD hbl;have ec:c'=#[.int .i64 0,.int .i64 0]:=CX hfx hAF1 fun v hv=>by
   have:v=.int .i64 0:=by simpa using hv
   subst this;exact .flat rfl
  subst ec;have h62:=zZ hWR hle (by simp) hn6 h6l;have obo:own (wX (dK b4 b5 b7 c g D E)) R' bo:=⟨bl,rbo,nD⟩;have lbo:wA.heap.size<=bo:=by
   rcases hfr bo obo with h|h
   ·rcases I.low bo h with h | h
    ·subst h;have e:=hWR.inj bl bo bo rbo (hle bo bo ⟨rfl,by simp⟩);have h1:=lt_of_heap I.h6;omega
    ·exact h
   ·exact Nat.le_trans I.size h
  have hbo:∀ v',VR R' (ptr bl) v'->v'=ptr bo:=fun v' h=>by
   obtain⟨b',rfl,hb'⟩:=Iq h;rw[hWR.fn _ _ _ hb' rbo]
  have hall:GR R' (wE p s st b4 b5 b6 b7 c bl (.slice (some ⟨g,0,none⟩) k.sources.length cap) k.sources.length k.sources.length 0 x10 (.bool false) x19 x20 x21 x22 undef undef undef undef undef undef).toList
    (wE p s st b4 b5 b6 b7 c bo (.slice (some ⟨g,0,none⟩) k.sources.length cap) k.sources.length k.sources.length 0 x10 (.bool false) x19 x20 x21 x22 undef undef undef undef undef undef).toList :=
   ⟨fun v' h=>aI hfx (sf _ (by simp[iU])) h,fun v' h=>aI hfx (sf _ (by simp[iU])) h,fun v' h=>aI hfx (sf _ (by simp[iU])) h,fun v' h=>aI hfx (sf _ (by simp[iU])) h,fun v' h=>aI hfx (sf _ (by simp[iU])) h,fun v' h=>aI hfx (sf _ (by simp[iU])) h,fun v' h=>aI hfx (sf _ (by simp[iU])) h,fun v' h=>aI hfx (sf _ (by simp[iU])) h,fun v' h=>aI hfx (sf _ (by simp[iU])) h,fun v' h=>aI hfx (sf _ (by simp[iU])) h,fun v' h=>aI hfx (sf _ (by simp[iU])) h,hbo,fun v' h=>aI hfx (sf _ (by simp[iU])) h,fun v' h=>aI hfx (sf _ (by simp[iU])) h,fun v' h=>aI hfx (sf _ (by simp[iU])) h,fun v' h=>aI hfx (sf _ (by simp[iU])) h,fun v' h=>aI hfx (sf _ (by simp[iU])) h,fun v' h=>aI hfx (sf _ (by simp[iU])) h,fun v' h=>aI hfx (.of_flat rfl) h,fun v' h=>aI hfx (sf _ (by simp[iU])) h,fun v' h=>aI hfx (sf _ (by simp[iU])) h,fun v' h=>aI hfx (sf _ (by simp[iU])) h,fun v' h=>aI hfx (sf _ (by simp[iU])) h,fun v' h=>aI hfx (sf _ (by simp[iU])) h,fun v' h=>aI hfx (.of_flat rfl) h,fun v' h=>aI hfx (.of_flat rfl) h,fun v' h=>aI hfx (sf _ (by simp[iU])) h,fun v' h=>aI hfx (sf _ (by simp[iU])) h,fun v' h=>aI hfx (sf _ (by simp[iU])) h,fun v' h=>aI hfx (sf _ (by simp[iU])) h,fun v' h=>aI hfx (sf _ (by simp[iU])) h,fun v' h=>aI hfx (sf _ (by simp[iU])) h,fun v' h=>aI hfx (sf _ (by simp[iU])) h,trivial⟩
  have htm:=CW hAF hall;obtain⟨tmps2,defers2⟩:=a2;simp only at hdf htm;subst hdf;subst htm;have I2:=I.after X hkept hfr h62;have E2:=hE.after X hkept hWR hle;have hxx:∀ v∈[x10,.bool false,x19,x20,x21,x22,undef,undef,undef,undef,undef,undef],VR (iq (dK b4 b5 b7 c g D E ++ [b6,bo])) v v:=fun v hv=>by
   have hm:∀ u,VR (iq (dK b4 b5 b7 c g D E ++ [b6])) u u->VR (iq (dK b4 b5 b7 c g D E ++ [b6,bo])) u u:=fun u hu=>hu.mono fun i i' ⟨h1,h2⟩=>⟨h1,by
    simp only[List.mem_append,List.mem_cons,List.not_mem_nil,or_false]at h2 |-;rcases h2 with h2|h2
    ·exact .inl h2
    ·exact .inr (.inl h2)⟩
   simp only[List.mem_cons,List.not_mem_nil,or_false]at hv;rcases hv with rfl|rfl|rfl|rfl|rfl|rfl|rfl|rfl|rfl|rfl|rfl|rfl;all_goals first|exact .of_flat rfl|exact hm _ (hx _ (by simp))
  have hv:wC k s st k.sources.length=((k.sources.map (kX k s st)).reverse).map aJ:=by
   unfold wC;rw[List.take_length,List.map_reverse,List.map_map];rfl
  rw[hv];have hlo:=X.lo;refine aaA X hG hbf hbk (fun wr3 w3 y10 y18 y19 y20 y21 y22 y26 y27 y28 y29 y30 y31 hL hy=>XM X hG hbf hbk hL hy) k.sources.length 0 zw _ _ _ _ _ _ _ _ _ _ _ _ _ _ _ (0,0) ⟨I2,E2,⟨.inr obo,lbo,hc'⟩,by simp,?_,fun y hy=>?_,?_⟩ hxx
  ·rw[GL,H9 (List.reverse_perm _),Dw]
  ·rw[List.mem_reverse]at hy;obtain⟨i,_,rfl⟩:=List.mem_map.1 hy;exact Hy k X.cel.le s st hlo i
  ·unfold Pb;simp
end
noncomputable def Yo (V:View) (w wA:World) (b6 c:Nat):View:=fun b=>if b=b6\/b=c then none else newV V w wA b
theorem YV {V:View} {w wA:World} {p:Nat} {k:Wk} {ts:List Nat} {vv rv:Value} {s:SS} {st:Bool} {b4 b5 b6 b7 c:Nat} {sl:Value} {D:List Nat} (hC:zO V p k ts vv rv) (hok:k.Ok) (hs:s.WF) (hlo:∀ i,0<=(s.aP i).1) (hhi:∀ i,(s.aP i).2<=1000) (hD:Closed V D) (hp:p∈D) (hV:V.In w)
  (T:ZA V w p k ts s st b4 b5 b6 b7 c sl wA):∃ g cap cur,sl=.slice (some ⟨g,0,none⟩) k.sources.length cap/\yD (Yo V w wA b6 c) wA p k ts vv rv s st b4 b5 b6 b7 c g cap D cur:=by
 have hpos:=vY hok;have hle:k.sources.length<=6:=Nat.le_trans (sD k k.n) hC.le;have hGw:Wg.gN<=w.heap.size:=by
  obtain⟨o,ho⟩:=hD.last;have:=lt_of_heap (hV _ _ ho);omega
 have hnew:∀ {b:Nat},w.heap.size<=b->V b=none:=fun {b} h=>by
  cases hv:V b with
  |none=>rfl
  |some o =>
   have:=lt_of_heap (hV b o hv);omega
 have hsub:∀ j o,V j=some o->Yo V w wA b6 c j=some o:=fun j o h=>by
  have h1:j≠b6:=by rintro rfl;rw[hnew T.n6]at h;cases h
  have h2:j≠c:=by rintro rfl;rw[hnew T.nc]at h;cases h
  simp only[Yo,h1,h2,or_self,if_false];exact rD hV j o h
 have hN:∀ {b:Nat} {o:Obj},w.heap.size<=b->wA.heap[b]? = some o->b≠b6->b≠c->Yo V w wA b6 c b=some o:=fun {b o} h1 h2 h3 h4=>by
  simp only[Yo,h3,h4,or_self,if_false,newV,show ¬ b<w.heap.size by omega];exact h2
 have WE:b6≠c:=by
  rintro rfl;have:=T.h6;rw[T.hc]at this;cases this
 have ne_c:∀ {b:Nat} {cs:Array Value} {t:TypeId} {f:Nat × Nat},wA.heap[b]? = some (.cells cs t f)->b≠c:=fun h=>by
  rintro rfl;rw[T.hc]at h;cases h
 obtain⟨g,cap,cur,rfl,_,_,hcur,hget⟩:=oz T.row.1 hpos;have hg:=T.new g rfl;have hti:=(hC.keep hD hp).2;have hsz:cur.toList.length >= k.sources.length:=by
  have:=congrArg List.length hget;simp only[List.length_take,List.length_map]at this;omega
 have hsrc:∀ (i x:Nat),k.sources[i]? = some x->cur[i]? = some (ptr (ts.getD x 0)):=fun i x h=>by
  have h1:(cur.toList.take k.sources.length)[i]? = some (ptr (ts.getD x 0)):=by rw[hget,List.getElem?_map,h];rfl
  have hi:i<k.sources.length:=(List.getElem?_eq_some_iff.1 h).1;rw[List.getElem?_take,if_pos hi]at h1;simpa using h1
 refine⟨g,cap,cur,rfl,?_⟩;have n6:=T.n64;have h6g:g≠b6:=fun h=>n6.2.2.2 (by rw[h];rfl)
 refine⟨fun b o h=>?_,hC.mono hsub,hok,hs,hlo,hhi,kM hD hsub,hp,hN T.n4 T.h4 (Ne.symm n6.1) (ne_c T.h4),hN T.n5 T.h5 (Ne.symm n6.2.1) (ne_c T.h5),hN T.n7 T.h7 (Ne.symm n6.2.2.1) (ne_c T.h7),hN hg hcur h6g (ne_c hcur),fun v hv=>?_,hsrc,by simp[Yo],by simp[Yo],T.h6,T.hc,
  ⟨Nat.le_trans hGw T.n4,Nat.le_trans hGw T.n5,Nat.le_trans hGw T.n6,Nat.le_trans hGw T.n7,Nat.le_trans hGw T.nc,Nat.le_trans hGw hg⟩,hle,hpos⟩
 ·unfold Yo at h;split at h
  ·cases h
  ·unfold newV at h;split at h
   ·rename_i hlt;rw[T.kp.old b hlt];exact hV b o h
   ·exact h
 ·obtain ⟨i,hi,rfl⟩:=Array.mem_iff_getElem.1 hv;by_cases hlt:i < k.sources.length
  ·have h1:=hsrc i _ (List.getElem?_eq_getElem hlt);rw[Array.getElem?_eq_getElem hi]at h1;rw[Option.some.inj h1];exact .inr (.inl ⟨_,_,rfl,hti _ (Dt (List.getElem?_eq_getElem hlt))⟩)
  ·exact .inl (T.row.2 g rfl cur 124 (0,0) hcur i _ zw (Array.getElem?_eq_getElem hi))
theorem xM {w:World} {v:Value}:Ins fun e w'=>e=.returned v/\Kp w w':=fun e w' τ d h=>⟨h.1,⟨h.2.os,h.2.output,h.2.size,h.2.old⟩⟩
theorem QA {V:View} {p:Nat} {k:Wk} {ts:List Nat} {vv rv:Value} (hC:zO V p k ts vv rv) (hok:k.Ok) (s:SS) (hs:s.WF) (hlo:∀ i,0<=(s.aP i).1) (hhi:∀ i,(s.aP i).2<=1000) (st:Bool) {D:List Nat} (hD:Closed V D) (hp:p∈D) {w:World} (hV:V.In w) (hh:ay OC w) :
  kL Tryd.prog 97 #[ptr p,.agg (dJ s).toArray,.bool st] w fun e w'=>e=.returned (aJ (dW k s st))/\Kp w w':=by
 refine jD Tryd.func97 (show Tryd.f97.body=some B97 from rfl) fun cs b hbf hbk hbr=>?_
 have e30:Tryd.f97.ntmps-(#[ptr p,.agg (dJ s).toArray,.bool st]:Array Value).size=30:=by kernel_rfl
 rw[e30];obtain⟨tm0,htm⟩:∃ tm0,#[ptr p,.agg (dJ s).toArray,.bool st] ++ Array.replicate 30 undef=tm0:=⟨_,rfl⟩;rw[htm];have hst:uw 97 (b.at {tmps:=tm0,defers:=[]} [.code B97]) []:=by
  refine⟨⟨fun x hx=>?_,(fun d hd=>nomatch hd),.inl hbk⟩,rfl,hbk,hbf⟩;have:x=.code B97:=by simpa[Frame.at]using hx
  subst this;exact(show bY true B97=true by kernel_rfl)
 have hGw:Wg.gN<=w.heap.size:=by
  obtain⟨o,ho⟩:=hD.last;have:=lt_of_heap (hV _ _ ho);omega
 refine yE lT hst hh (S:=fun a w'=>∃ b4 b5 b6 b7 c sl,a=⟨iU p s st b4 b5 b6 b7 c sl k.sources.length 0 undef undef undef undef undef undef,[]⟩/\ZA V w p k ts s st b4 b5 b6 b7 c sl w') ?_ (fun τ d=>?_) ?_ (tgt:=[.code (.block 0 (.loop L1)),.code K8])
 ·rintro a w' τ d ⟨b4,b5,b6,b7,c,sl,rfl,T⟩;exact⟨b4,b5,b6,b7,c,sl,rfl,⟨⟨T.kp.os,T.kp.output,T.kp.size,T.kp.old⟩,T.h4,T.h5,T.h6,T.h7,T.hc,⟨T.row.1,T.row.2⟩,T.new,T.n4,T.n5,T.n6,T.n7,T.nc,T.n64⟩⟩
 ·rw[<- htm];refine(LX p k ts vv rv hC hok s hs st (w.re τ d) hV).mono ?_;rintro a w' ⟨b4,b5,b6,b7,c,sl,rfl,T⟩;exact⟨b4,b5,b6,b7,c,sl,rfl,⟨⟨T.kp.os,T.kp.output,T.kp.size,T.kp.old⟩,T.h4,T.h5,T.h6,T.h7,T.hc,T.row,T.new,T.n4,T.n5,T.n6,T.n7,T.nc,T.n64⟩⟩
 ·rintro a' wA ⟨b4,b5,b6,b7,c,sl,rfl,T⟩ hhA _;obtain ⟨g,cap,cur,rfl,X⟩:=YV hC hok hs hlo hhi hD hp hV T;have hGA:Wg.gN<=wA.heap.size:=Nat.le_trans hGw T.kp.size;refine Tv (WL ?_);have I:FT wA b6 c (fun i=>i < wA.heap.size/\i≠b6) (fun i=>i=b6) wA:=⟨fun _ _ _ _=>rfl,Nat.le_refl _,rfl,rfl,fun i h1 h2=>⟨h1,h2⟩,rfl,fun i h=>.inl h,X.h6,⟨_,X.hc,rfl⟩⟩;have hC1:=aaz X hGA hbf hbk (cs:=cs) (Q:=XE wA k s st b6 c b cs) (fun D1 wr1 w x10 x18 x19 x20 x21 x22 E I hE h22 hx=>XL X hGA hbf hbk I hE h22 hx) k.sources.length 0 zw _ _ wA undef undef undef undef undef undef [] I ⟨fun b hb=>nomatch hb⟩ rfl (fun v hv=>by
   simp only[List.mem_cons,List.not_mem_nil,or_false,or_self]at hv;subst hv;exact .of_flat rfl)
  have hB:=Sl (P:=Tryd.prog) (c:=c) (QB:=fun a w'=>XE wA k s st b6 c b cs (fun _=>False) (fun _=>False) [] a w'/\ay OC w') hhA ⟨0,X.hc⟩ (fun h=>X.WE h.symm) (fun i h=>by
   rcases h with h|h
   ·exact h.1
   ·rw[h];exact X.XG) hC1 (fun D wr vs a w h hh=>⟨h.1,⟨rfl,h.2⟩,hh⟩)
  refine hB.bind fun a1 w1 ⟨⟨_,a',ha,hd,h6t,h6,hkept,hsz,hos,hout⟩,hh1⟩=>?_
  subst ha;refine CV (Hz (v:=aJ (dW k s st)) (fn:=Tryd.f97) hbf hbk hd Tryd.func97 hh1 ?_ ⟨rfl,?_⟩ xM)
  ·have hS:St w1 [b6] (fun _=>none) [.blk b6 27 [.int .i64 (dW k s st).1,.int .i64 (dW k s st).2]] w1:=St.Zj (fun _ _ h=>by cases h) h6 rfl;exact bH (r1:=.cell 6 27) zk (Aa hS (n:=2) 0 h6t rfl zk rfl rfl)
  ·refine⟨hos.trans T.kp.os,hout.trans T.kp.output,Nat.le_trans T.kp.size hsz,fun i hi=>?_⟩;have h1:=T.n6;have h2:=T.nc;have h3:=T.kp.size;exact(hkept i zw zw zw).trans (T.kp.old i hi)
end Go.Proofs.YtjjmefieegcddaaDoor
namespace Go.Tm
open Go
open Go.Conc
variable {P:Program}
theorem Bq (hS:ED P fun _=>True) {f0:FuncId} {fn:Func} {R:Ending->World->Prop} (hins:Ins R) (hout:∀ w,¬ R .outgrown w) {fr:Frame} {w:World} (hst:uw f0 fr []) (hf:P.funcs[f0]? = some fn) (hw:ay OC w) (hm:fr.mode=.returning)
  (h:∀ τ d,Leaves P fn fr.tmps R fr.defers .returning (w.re τ d)) (cs:List Frame) :
  kU P (G fr cs) w (fun a' w'=>∃ e fr,a'=G fr cs/\R e w'/\fr.fn=f0/\fr.leaving P w' e/\e≠.outgrown/\ay OC w'):=by
 let Stop:Frame->List Frame->World->Prop:=fun fr mine w=>mine=[]/\∃ e,R e w/\e≠.outgrown/\fr.fn=f0/\fr.leaving P w e
 have hfn:fr.fn=f0:=hst.2.2.2;have hterm:Term P (SH f0 Stop) fr [] w:=by
  refine qU hS ?_ hst hw ?_
  ·rintro fr mine w τ d hw ⟨rfl,e,h1,h2,h3,h4⟩;exact⟨rfl,e,hins _ _ _ _ h1,h2,h3,kD hw h4 τ d⟩
  ·intro τ d;obtain ⟨e,w',fr',h1,h2,h3,h4⟩:=leaves_steps fr.defers .returning (w.re τ d) fr [floor P] hm rfl rfl (by rw [hfn];exact hf) hst.2.2.1 (h τ d);cases e with
   |outgrown=>exact(hout _ h1).elim
   |returned v=>exact⟨fr',[],w',⟨rfl,_,h1,by simp,h3.trans hfn,h4⟩,h2⟩
   |panicked chain=>exact⟨fr',[],w',⟨rfl,_,h1,by simp,h3.trans hfn,h4⟩,h2⟩
 have:=uS (fun fr mine w d h=>by
  obtain⟨⟨rfl,e,h1,h2,h3,h4⟩,h5,h6⟩:=h;exact⟨⟨rfl,e,hins _ _ w.tape d h1,h2,h3,kD h5 h4 w.tape d⟩,h5,h6⟩) hterm cs
 refine this.mono fun a' w' ⟨fr',mine',h1,⟨h2,e,h3,h4,h5,h6⟩,h7,h8⟩=>?_
 subst h2;exact⟨e,fr',h1,h3,h5,h6,h4,h7⟩
end Go.Tm
namespace Go.Proofs.YtjjmefieegcddaaDoor
open Go.RowKit Go.Wg Go.Mm Go.Wk
open Go Go.Sr Go.Ph Go.Tm Go.Conc
variable {w:World} {V:View}
def dC (b:Nat):Deferred:={target:=.fn (.func 82) #[],args:=#[.pointer (some ⟨b,0,none⟩)]}
noncomputable def B40:Code:=match Tryd.f40.body with|some c=>c|none=>.skip
noncomputable def aa7:Array Oper:=match Tryd.f40.body with|some (.seq _ (.seq _ (.seq _ (.seq _ (.seq (.region _ o _) _)))))=>o|_=>#[]
theorem OO (vv rv:Value) (k:Wk) (hk:iJ V vv rv k) (hG:GV V) (hV:V.In w) (hb:aS k []=0) (hst:Go.Wg.settle k (aN k aC)=none) :
  fA Tryd.prog [.inRegion aa7 [3,4,5],.code .ret] (fun a w'=>∃ p V' D b1 b2 b3,(∃ x5 x7 x8 x9 x10 x11,a=⟨#[.agg #[vv,rv],ptr b1,ptr b2,ptr b3,ptr p,x5,.agg #[vv,rv],x7,x8,x9,x10,x11,undef,undef,ptr p,ptr p,.agg (dJ (aN k aC)).toArray,undef],[dC b3]⟩) /\
    jh V' p k/\Closed V' D/\p∈D/\St w [] V' [.blk b3 38 [.int .i64 0],.blk b2 27 [.int .i64 0,.int .i64 0]] w')
   [.code B40] {tmps:=#[.agg #[vv,rv]] ++ Array.replicate 17 undef,defers:=[]} w:=by
 have hk0:=hk;obtain⟨va,vcap,rfl,hvc,hvm,hve⟩:=hk0.ves.is;obtain⟨ra,rcap,rfl,hrc,hrm,hre⟩:=hk0.rdg.is;have hS:=St.start w V hV;clear hk0 hve hre;have hok:=dP hb;have hcan:can k (aN k aC)=true:=by unfold can;rw[hst];rfl
 replace hst:=aj hst;replace hcan:=aj hcan;replace hb:=aj hb;simp only[Array.replicate_succ,Array.replicate_zero,List.push_toArray,List.append_toArray,List.nil_append,List.cons_append];unfold ptr;refine au (aA ?_);go_wp2_with (first|(refine yb 1 ?_;clear hS;intro b1 w' hS)|(refine ya 2 ?_;clear hS;intro b2 w' hS)|(refine ya 3 ?_;clear hS;intro b3 w' hS))
 refine au (aA ?_);go_wp2_with (fail)
 refine au (aA ?_);go_wp2_with (first|(refine ym ?_;clear hS;intro w' hS)|(refine ys ?_;clear hS;intro w' hS)|(go_at_call 77;refine zG hS hk pG (by simp) hb.out ?_;clear hS;intro p V' w' D hVV hcel hD hpD hS;have hG':GV V':=hG.mono hVV))
 refine au (au (aA ?_));go_wp2_with (refine yy ?_;clear hS;intro w' hS)
 refine dZ (t:=false) rfl (lu (au (ig ?_)));refine cO (i:=0) (v:=.pointer (some ⟨p,0,none⟩)) (w':=w') rfl rfl rfl ?_;refine cO (i:=1) (v:=.pointer (some ⟨p,0,none⟩)) (w':=w') rfl rfl rfl ?_;refine rZ (i:=2) rfl rfl (run_call_body rfl Tryd.func83 zk rfl) ?_;simp only[List.map_toArray,List.map_cons,List.map_nil];show Calls Tryd.prog 83 #[ptr p] w' _;refine(y8 V' p k hcel hok hcan.out _ (St.view hS)).mono ?_;rintro e w2 ⟨rfl,hkp⟩;refine⟨_,rfl,?_⟩;replace hS:=hS.kp hkp;exact bG (tgt:=[.inRegion aa7 [3,4,5],.code .ret]) ⟨p,V',D,b1,b2,b3,⟨_,_,_,_,_,_,rfl⟩,hcel,hD,hpD,hS.sub (List.Sublist.cons_cons _ (List.Sublist.cons_cons _ (List.Sublist.cons _ (List.Sublist.refl _))))⟩
theorem Vz {w0:World} {V':View} {b1 b2 b3 p:Nat} {r:Int × Int} {x0 x5 x6 x7 x8 x9 x10 x11 x14 x15 x16:Value} (hS:St w0 [] V' [.blk b3 38 [.int .i64 0],.blk b2 27 [.int .i64 0,.int .i64 0]] w) :
  fA Tryd.prog [.code .ret] (fun a w'=>a=⟨#[x0,ptr b1,ptr b2,ptr b3,ptr p,x5,x6,x7,x8,x9,x10,x11,undef,undef,x14,x15,x16,aJ r],[dC b3]⟩/\St w0 [] V' [.blk b3 38 [.int .i64 0],.blk b2 27 [.int .i64 r.1,.int .i64 r.2]] w')
   [.inRegion aa7 [4,5],.code .ret] ⟨#[x0,ptr b1,ptr b2,ptr b3,ptr p,x5,x6,x7,x8,x9,x10,x11,undef,undef,x14,x15,x16,aJ r],[dC b3]⟩ w:=by
 refine xK hS (i:=4) (vs:=[.int .i64 r.1,.int .i64 r.2]) rfl rfl rfl (j:=1) (i':=0) (n:=2) rfl rfl rfl (by simp[Value.oneCell']) zk rfl (by simp) fun w1 hS1=>?_
 refine D6 hS1 (i:=5) (v:=.int .i64 0) rfl rfl rfl (j:=0) (i':=0) rfl rfl rfl rfl zk (by simp) fun w2 hS2=>?_
 exact dH (bG (tgt:=[.code .ret]) ⟨rfl,hS2⟩)
def vX (k:Wk):(Int × Int) × Int :=
 if aS k []=0 then(if (Go.Wg.settle k (aN k aC)).isNone then(dW k (aN k aC) false,0) else((0,0),9)) else((0,0),aS k [])
theorem UY (vv rv:Value) (k:Wk) (hk:iJ V vv rv k) (hG:GV V) (hV:V.In w) (hbs:¬ (aS k []=0/\Go.Wg.settle k (aN k aC)=none)) :
  Calls Tryd.prog 40 #[.agg #[vv,rv]] w fun r w'=>r=.returned (.tuple #[aJ (vX k).1,.int .i64 (vX k).2])/\Kp w w':=by
 have hk0:=hk;obtain⟨va,vcap,rfl,hvc,hvm,hve⟩:=hk0.ves.is;obtain⟨ra,rcap,rfl,hrc,hrm,hre⟩:=hk0.rdg.is;have hS:=St.start w V hV;clear hk0 hve hre;by_cases hb:aS k []=0
 ·have hok:=dP hb;cases hst:Go.Wg.settle k (aN k aC) with
  |none=>exact(hbs ⟨hb,hst⟩).elim
  |some i =>
   have hC:vX k=((0,0),9):=by unfold vX;rw[if_pos hb,hst];rfl
   rw[hC];simp only;replace hC:=aj hC;replace hst:=aj hst;replace hb:=aj hb;clear hbs
   go_enter_defers Tryd.func40,Tryd.ntmps40
   go_wp2_with (first|(refine ym ?_;clear hS;intro w' hS)|(refine ys ?_;clear hS;intro w' hS)|(refine yb 1 ?_;clear hS;intro b1 w' hS)|(refine ya 2 ?_;clear hS;intro b2 w' hS)|(refine ya 3 ?_;clear hS;intro b3 w' hS)|(go_at_call 77;refine eG hS hk pG (by simp) hb.out ?_;clear hS;intro p V' w' hVV hcel hS;have hG':GV V':=hG.mono hVV)|(go_at_call 83;refine nH hS (zN V' p k hcel hok i hst.out _ (St.view hS)) ?_;clear hS;intro w' hS))
   (refine vJ hS ?_;clear hS;intro w' hS;(try simp only[sE]at hS);refine⟨_,by exact dA (r1:=.cell 2 27) (r2:=.cell 3 38) zk (by exact rX hS rfl zd) (by exact zA hS rfl zd),?_⟩)
   exact⟨rfl,hS.bM⟩
 ·clear hbs;have hC:vX k=((0,0),aS k []):=by unfold vX;rw [if_neg hb]
  rw[hC];simp only;have hb':(aS k [] == 0)=false:=by rw[beq_eq_false_iff_ne];exact hb
  have hE:Go.RowKit.Hid (∃ e,aS k []=e):=aj ⟨_,rfl⟩;obtain⟨e,he⟩:=hE.out;rw[he]at hb' |-;replace hC:=aj hC;replace he:=aj he
  go_enter_defers Tryd.func40,Tryd.ntmps40
  go_wp2_with (first|(refine ym ?_;clear hS;intro w' hS)|(refine ys ?_;clear hS;intro w' hS)|(refine yb 1 ?_;clear hS;intro b1 w' hS)|(refine ya 2 ?_;clear hS;intro b2 w' hS)|(refine ya 3 ?_;clear hS;intro b3 w' hS)|(go_at_call 77;refine fF hS hk pG (by simp) hb ?_;rw[he.out];clear hS;intro w' hS))
  (refine bF (S:=(St w [] V [.blk b3 38 [.int .i64 e]])) [false,false,false,false] rfl zk ?_;replace hS:=St.eY hS;(refine yh [.p 0,.a 1] ?_);((refine wQ 2 zk rfl hS rfl  rfl rfl ?_;refine⟨_,zd,?_⟩);clear hS;refine zH ?_;intro w' hS;(try simp only[sE]at hS);refine⟨(St.aG hS),?_⟩);((refine jl 3 zk rfl hS rfl  rfl rfl ?_;refine⟨_,zd,?_⟩);clear hS;refine zH ?_;intro w' hS;(try simp only[sE]at hS);refine⟨(St.aG hS),?_⟩);refine wpAnyH_done zk ?_ _)
  go_wp2_with (fail)
  (refine iF hS ?_;clear hS;intro w' hS;(try simp only[sE]at hS);refine⟨_,by exact dA (r1:=.cell 2 27) (r2:=.cell 3 38) zk (by exact rX hS rfl zd) (by exact zA hS rfl zd),?_⟩)
  exact⟨by rfl,(hS.bM)⟩
theorem ZB (vv rv:Value) (k:Wk) (hk:iJ V vv rv k) (hG:GV V) (hV:V.In w) (hh:ay OC w) :
  kL Tryd.prog 40 #[.agg #[vv,rv]] w fun r w'=>r=.returned (.tuple #[aJ (vX k).1,.int .i64 (vX k).2])/\Kp w w':=by
 by_cases hbs:aS k []=0/\Go.Wg.settle k (aN k aC)=none
 ·obtain ⟨hb,hst⟩:=hbs;have hC:vX k=(dW k (aN k aC) false,0):=by unfold vX;rw [if_pos hb,hst];rfl
  rw[hC];have hok:=dP hb;refine jD Tryd.func40 (show Tryd.f40.body=some B40 from rfl) fun cs b hbf hbk hbr=>?_
  have e17:Tryd.f40.ntmps-(#[.agg #[vv,rv]]:Array Value).size=17:=by kernel_rfl
  rw[e17];obtain⟨tm0,htm⟩:∃ tm0,#[Value.agg #[vv,rv]] ++ Array.replicate 17 undef=tm0:=⟨_,rfl⟩;rw[htm];have hsk:uw 40 (b.at {tmps:=tm0,defers:=[]} [.code B40]) []:=by
   refine⟨⟨fun x hx=>?_,(fun d hd=>nomatch hd),.inl hbk⟩,rfl,hbk,hbf⟩;have:x=.code B40:=by simpa[Frame.at]using hx
   subst this;exact(show bY true B40=true by kernel_rfl)
  have hio:(aa7.all fun o=>qj true o.op)=true:=by kernel_rfl
  have hdC:∀ b3,iZ (dC b3):=fun b3=>by simp[iZ,dC]
  refine yE lT hsk hh (fun a w' τ d h=>?_) (fun τ d=>?_) ?_ (tgt:=[.inRegion aa7 [3,4,5],.code .ret]) (S:=fun a w'=>∃ p V' D b1 b2 b3,(∃ x5 x7 x8 x9 x10 x11,a=⟨#[.agg #[vv,rv],ptr b1,ptr b2,ptr b3,ptr p,x5,.agg #[vv,rv],x7,x8,x9,x10,x11,undef,undef,ptr p,ptr p,.agg (dJ (aN k aC)).toArray,undef],[dC b3]⟩) /\
    jh V' p k/\Closed V' D/\p∈D/\St w [] V' [.blk b3 38 [.int .i64 0],.blk b2 27 [.int .i64 0,.int .i64 0]] w')
  ·obtain⟨p,V',D,b1,b2,b3,h1,h2,h3,h4,h5⟩:=h;exact⟨p,V',D,b1,b2,b3,h1,h2,h3,h4,h5.re1 τ d⟩
  ·rw[<- htm];refine(OO (w:=w.re τ d) vv rv k hk hG hV hb hst).mono ?_;rintro a w' ⟨p,V',D,b1,b2,b3,h1,h2,h3,h4,h5⟩;exact⟨p,V',D,b1,b2,b3,h1,h2,h3,h4,h5.re0⟩
  ·rintro a' wA ⟨p,V',D,b1,b2,b3,⟨x5,x7,x8,x9,x10,x11,rfl⟩,⟨ts,vv',rv',hcel⟩,hD,hpD,hS⟩ hhA _;have htot:=QA hcel hok (aN k aC) (gG _ _) (QU k hok aC) (fun i=>Int.le_trans (Jy k hok aC i) (by decide)) false hD hpD hS.view hhA;refine Ou lT (i:=3) (o:=aa7[3]!) (r:=true) rfl rfl (by rw [hbk];decide) rfl hhA (fun _ _ _=>trivial) fun d=>?_
   rw[run_call_body rfl Tryd.func97 zk rfl];intro hhd;simp only[List.map_toArray,List.map_cons,List.map_nil];have hat:∀ {Q:Goroutine->World->Prop} {g:Goroutine},kU Tryd.prog g wA Q->kU Tryd.prog g (wA.at d) Q:=fun h=>h.at
   refine hat (xI (i:=3) (o:=aa7[3]!) rfl htot (fun v w1 ⟨hv,hk1⟩ hh1=>?_) fun ch w1 ⟨hv,_⟩ _=>nomatch hv);cases hv;replace hS:=hS.kp hk1;show kU Tryd.prog (G (b.at ⟨#[.agg #[vv,rv],ptr b1,ptr b2,ptr b3,ptr p,x5,.agg #[vv,rv],x7,x8,x9,x10,x11,undef,undef,ptr p,ptr p,.agg (dJ (aN k aC)).toArray,aJ (dW k (aN k aC) false)],[dC b3]⟩ [.inRegion aa7 [4,5],.code .ret]) cs) w1 _;refine yE lT (f0:=40) ⟨⟨fun x hx=>?_,fun d hd=>?_,.inl hbk⟩,rfl,hbk,hbf⟩ hh1 (fun a w' τ d h=>⟨h.1,h.2.re1 τ d⟩) (fun τ d=>Vz (hS.re1 τ d)) ?_
   ·have:x=.inRegion aa7 [4,5]\/x=.code .ret:=by simpa [Frame.at] using hx
    rcases this with rfl|rfl
    ·exact hio
    ·exact(show bY true .ret=true from rfl)
   ·have:d=dC b3:=by simpa [Frame.at] using hd
    subst this;exact hdC b3
   ·rintro a' w2 ⟨rfl,hS2⟩ hh2 _;refine CV ?_;refine (Bq (fr:={ b.at ⟨#[.agg #[vv,rv],ptr b1,ptr b2,ptr b3,ptr p,x5,.agg #[vv,rv],x7,x8,x9,x10,x11,undef,undef,ptr p,ptr p,.agg (dJ (aN k aC)).toArray,aJ (dW k (aN k aC) false)],[dC b3]⟩ [.code .ret] with mode:=.returning }) lT xM (fun w h=>nomatch h.1) (fn:=Tryd.f40) ⟨⟨fun x hx=>?_,fun d hd=>?_,.inl hbk⟩,rfl,hbk,hbf⟩ Tryd.func40 hh2 rfl (fun τ d=>?_) cs)
    ·have:x=.code .ret:=by simpa [Frame.at] using hx
     subst this;exact(show bY true .ret=true from rfl)
    ·have:d=dC b3:=by simpa [Frame.at] using hd
     subst this;exact hdC b3
    ·refine iF (R:=fun r w'=>r=.returned (.tuple #[aJ (dW k (aN k aC) false),.int .i64 0])/\Kp w w') (hS2.re1 τ d) fun w3 hS3=>⟨_,dA (r1:=.cell 2 27) (r2:=.cell 3 38) zk (Aa hS3 (n:=2) 1 rfl rfl zk rfl rfl) (AO hS3 0 rfl rfl zk rfl),rfl,hS3.bM⟩
 ·refine uF lT xM (fun w h=>nomatch h.1) hh fun τ d=>?_
  exact(UY (w:=w.re τ d) vv rv k hk hG hV hbs).mono fun e w' h=>⟨h.1,⟨h.2.os,h.2.output,h.2.size,h.2.old⟩⟩
end Go.Proofs.YtjjmefieegcddaaDoor
